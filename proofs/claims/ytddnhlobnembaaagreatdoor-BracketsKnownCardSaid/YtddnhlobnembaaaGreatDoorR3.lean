/- Joined by my program pack2.py out of my own texts: Wcb2 Wcsw FKak Wmbl8 FKam Wcb3 An Wcb4 Wcb5 Wcb6 PBr5 PBr6. -/
import Derived.Test.YtddnhlobnembaaaGreatDoorProg
import Derived.Tactics2
import Derived.Lib.AppendStr
import Derived.WalkKit
import Derived.LaidEql
import Derived.Stop.Asserts
import Derived.RowKitTokens
import Derived.Test.YtddnhlobnembaaaGreatDoorR1
import Derived.Test.YtddnhlobnembaaaGreatDoorR2
set_option linter.unusedVariables false
set_option linter.unusedSimpArgs false
/- === Wcb2 === -/
section
/- Walks, written by my program walk.py out of the specification cb2.py: each theorem says what one function returns and that it leaves memory as it was. -/
namespace Go.Proofs.YtddnhlobnembaaaGreatDoor
open Go Go.RowKit Go.FK _root_.Go.Proofs.Tryz
set_option maxHeartbeats 4000000
set_option maxRecDepth 100000
theorem c_add (i m_rs : Nat) (rs : List (Int × (Int × Int × Int))) (af : Value) (xa : Int) (xo : Int) (xs : Int) (B_ : Nat) (w : World) (hs0 : B_ ≤ w.heap.size) (c : w.heap[i]? = some (.cells [(.map (some m_rs)), af].toArray 69 (0, 0))) (a : w.heap[m_rs]? = some (gmObj .i32 vBrk rs)) (ax : B_ ≤ m_rs) :
  Calls Tryz.prog 28 #[(pt i 0), (Value.agg #[(I3 xa), (I3 xo), (U8 xs)])] w (Ret fun v w' => v = (I6 (addE rs (xa, xo, xs))) ∧ w'.heap[m_rs]? = some (gmObj .i32 vBrk (addM rs (xa, xo, xs))) ∧ Ch (fun k => k = m_rs) w w') := by
 refine wG 31 func28 rfl ?_
 have t := Below.refl B_ w
 have g : B_ ≤ (World.heap w).size := hs0
 have o := Ch.refl (fun k => k = m_rs) w
 have ah : (World.heap w).size ≤ m_rs ∨ (fun k => k = m_rs) m_rs := .inr rfl
 refine wR (zN [(I3 xa), (I3 xo), (U8 xs)] 26 ?_)
 intro b1 w2 ad
 have aw : B_ ≤ b1 := by rw [ad.num]; exact g
 have av : (World.heap w).size ≤ b1 ∨ (fun k => k = m_rs) b1 := .inl (by rw [ad.num]; exact o.size)
 have t := t.trans (ad.below.mono g)
 replace g := Nat.le_trans g (ad.below.size)
 have b := ad.here
 refine zH (nW (wR (zOW b (zc (c_may xa xo xs _ ) ?_))))
 replace o := o.trans2 (Ch.of_below ad.below) (fun _ h => h.elim)
 rintro _ w4 ⟨rfl, u⟩
 have t := t.trans (u.mono g)
 replace g := Nat.le_trans g (u.size)
 refine zH (nR (zG (zNe .i64 (mayE (xa, xo, xs)) 0 ?_ ?_)))
 ·intro h7
  refine nQ (zT (wR (zG (zH (nQ (zS (zE (yC [(I6 (mayE (xa, xo, xs)))] ?_))))))))
  have e0 : ((mayE (xa, xo, xs)) : Int) = (addE rs (xa, xo, xs)) := by exact (addE_1 za).symm
  have em : rs = (addM rs (xa, xo, xs)) := by exact (addM_1 za).symm
  have a := zA (zA a ad.below) u
  rw [em] at a
  replace o := o.trans2 (Ch.of_below u) (fun _ h => h.elim)
  exact ⟨e6 e0, a, o⟩
 intro h8
 refine nQ (zF (zQ (zB (yF (yF (wF 11 13 zk zk zk ?_))))))
 intro w9 s
 have t := t.trans (s.mono g)
 replace g := Nat.le_trans g (s.size)
 refine ⟨fun w => (w.heap[i]? = some (.cells [(.map (some m_rs)), af].toArray 69 (0, 0))) ∧ (w.heap[b1]? = some (.cells [(I3 xa), (I3 xo), (U8 xs)].toArray 26 (0, 0))) ∧ (w.heap[m_rs]? = some (gmObj .i32 vBrk rs)), ?_⟩
 have c := zA (zA (zA c ad.below) u) s
 have a := zA (zA (zA a ad.below) u) s
 have b := zA (zA b u) s
 refine mp 0 rfl (pt i 0) (.inr ⟨c, b, a⟩) zg (hq := (zC (zC zJ))) (mp 1 rfl (pt i 0) (.inr ⟨c, b, a⟩) zg (hq := (zC (zC zJ))) (mp 2 rfl (pt i 0) (.inr ⟨c, b, a⟩) zg (hq := (zC (zC zJ))) (mt 3 [3, 6, 7, 8, 9, 11, 12] rfl (.map (some m_rs)) ⟨c, b, a⟩ (yY i 0 (.map (some m_rs)) zk zf (fun w2 h2 => zR h2.1 rfl)) (hq := (zC (zC zJ))) (mp 4 rfl (pt b1 0) (.inr ⟨c, b, a⟩) zg (hq := (zC (zC zJ))) (mt 5 [5, 6, 7, 8, 9, 11, 12] rfl (I3 xa) ⟨c, b, a⟩ (yY b1 0 (I3 xa) zk zf (fun w2 h2 => zR h2.2.1 rfl)) (hq := (zC (zC zJ))) (mt 6 [6, 7, 8, 9, 11, 12] rfl (.tuple #[(Value.agg #[(I3 ((lookB rs xa).1)), (I3 ((lookB rs xa).2.1)), (U8 ((lookB rs xa).2.2))]), (.bool ((gget rs xa).isSome))]) ⟨c, b, a⟩ (R_glook (k := .i32) (f := vBrk) (0, 0, 0) xa rs underlying66 underlying21 zk zk zk (fun w2 h2 => GmAt.of h2.2.2)) (hq := (zC (zC zJ))) (mp 7 rfl (.tuple #[(Value.agg #[(I3 ((lookB rs xa).1)), (I3 ((lookB rs xa).2.1)), (U8 ((lookB rs xa).2.2))]), (.bool ((gget rs xa).isSome))]) (.inr ⟨c, b, a⟩) zg (hq := (zC (zC zJ))) (mp 8 rfl (Value.agg #[(I3 ((lookB rs xa).1)), (I3 ((lookB rs xa).2.1)), (U8 ((lookB rs xa).2.2))]) (.inr ⟨c, b, a⟩) zg (hq := (zC (zC zJ))) ?_))))))))
 refine M_all2 9 10 zk ?_ ?_
 ·skip
  refine yZ 9 rfl ?_ rfl
  refine zr (.bool ((gget rs xa).isSome)) (zX ((gget rs xa).isSome) ?_ ?_)
  ·intro bh
   refine zU ?_
   refine ⟨rfl, .inr ⟨c, b, a⟩, yP 10 zk (yZ 10 rfl ?_ rfl)⟩
   refine zN [(I3 0), (I3 0), (U8 0)] 26 ?_
   intro aq a8 p
   have d := yE (zV a) p
   have ag : B_ ≤ aq := by rw [p.num]; exact g
   replace o := (o.trans2 (Ch.of_below u) (fun _ h => h.elim)).trans2 (Ch.of_below s) (fun _ h => h.elim)
   have m : (World.heap w).size ≤ aq ∨ (fun k => k = m_rs) aq := .inl (by rw [p.num]; exact o.size)
   have t := t.trans (p.below.mono g)
   replace g := Nat.le_trans g (p.below.size)
   have q := p.here
   refine zU ?_
   have c := zA c p.below
   have a := zA a p.below
   have b := zA b p.below
   refine ⟨rfl, .inr ⟨c, b, a⟩, yP 11 zk (yZ 11 rfl ?_ rfl)⟩
   refine wN [(I3 ((lookB rs xa).1)), (I3 ((lookB rs xa).2.1)), (U8 ((lookB rs xa).2.2))] q ?_
   intro be am
   replace g := Nat.le_trans g (Nat.le_of_eq am.size.symm)
   refine zU ?_
   refine ⟨rfl, .inl zk, mp 12 rfl (.bool true) (.inl zk) zg (hq := (zC (zC zJ))) (yU zk (zB (wR (zG (nQ (zT (wR (zH (nQ (zS (zE (yC [(I6 81)] ?_))))))))))))⟩
   have e0 : (81 : Int) = (addE rs (xa, xo, xs)) := by exact (addE_2 za za).symm
   have em : rs = (addM rs (xa, xo, xs)) := by exact (addM_2 za za).symm
   have a := zD a am d
   rw [em] at a
   replace o := (o.trans2 (Ch.of_below p.below) (fun _ h => h.elim)).trans2 (Ch.of_wrote am) (fun k e => e ▸ m)
   exact ⟨e6 e0, a, o⟩
  intro bd
  refine zU ?_
  refine ⟨rfl, .inr ⟨c, b, a⟩, yP 10 zk (yZ 10 rfl ?_ rfl)⟩
  refine zN [(I3 0), (I3 0), (U8 0)] 26 ?_
  intro au ba l
  have d := yE (zV a) l
  have n := yE (zV b) l
  have ag : B_ ≤ au := by rw [l.num]; exact g
  replace o := (o.trans2 (Ch.of_below u) (fun _ h => h.elim)).trans2 (Ch.of_below s) (fun _ h => h.elim)
  have m : (World.heap w).size ≤ au ∨ (fun k => k = m_rs) au := .inl (by rw [l.num]; exact o.size)
  have t := t.trans (l.below.mono g)
  replace g := Nat.le_trans g (l.below.size)
  have q := l.here
  refine zU ?_
  have c := zA c l.below
  have a := zA a l.below
  have b := zA b l.below
  refine ⟨rfl, .inr ⟨c, b, a⟩, yP 11 zk (yZ 11 rfl ?_ rfl)⟩
  refine wN [(I3 ((lookB rs xa).1)), (I3 ((lookB rs xa).2.1)), (U8 ((lookB rs xa).2.2))] q ?_
  intro bb ab
  replace g := Nat.le_trans g (Nat.le_of_eq ab.size.symm)
  have c := zD c ab (zP c q zi)
  refine zU ?_
  refine ⟨rfl, .inl zk, mp 12 rfl (.bool false) (.inl zk) zg (hq := (zC (zC zJ))) (yU zk (zB (wR (zG (nQ (zF (zQ (zB (yF (wF 7 8 zk zk zk ?_))))))))))⟩
  intro a9 z
  have t := t.trans (ab.below ag)
  have t := t.trans (z.mono g)
  replace g := Nat.le_trans g (z.size)
  refine ⟨fun w => (w.heap[i]? = some (.cells [(.map (some m_rs)), af].toArray 69 (0, 0))) ∧ (w.heap[b1]? = some (.cells [(I3 xa), (I3 xo), (U8 xs)].toArray 26 (0, 0))), ?_⟩
  have c := zA c z
  have b := zA (zD b ab n) z
  refine mp 0 rfl (pt i 0) (.inr ⟨c, b⟩) zg (hq := (zC zJ)) (mp 1 rfl (pt i 0) (.inr ⟨c, b⟩) zg (hq := (zC zJ)) (mp 2 rfl (pt i 0) (.inr ⟨c, b⟩) zg (hq := (zC zJ)) (mt 3 [3, 7] rfl (.map (some m_rs)) ⟨c, b⟩ (yY i 0 (.map (some m_rs)) zk zf (fun w2 h2 => zR h2.1 rfl)) (hq := (zC zJ)) (mp 4 rfl (pt b1 0) (.inr ⟨c, b⟩) zg (hq := (zC zJ)) (mt 5 [5, 7] rfl (I3 xa) ⟨c, b⟩ (yY b1 0 (I3 xa) zk zf (fun w2 h2 => zR h2.2 rfl)) (hq := (zC zJ)) (mt 6 [6, 7] rfl (Value.agg #[(I3 xa), (I3 xo), (U8 xs)]) ⟨c, b⟩ (R_loadA b1 0 [(I3 xa), (I3 xo), (U8 xs)] zk zf zf (fun w2 h2 => cells_at h2.2 0 zk)) (hq := (zC zJ)) (yP 7 zk ?_)))))))
  refine yZ 7 rfl ?_ rfl
  have a := zA (zD a ab d) z
  refine L_glay (k := .i32) (f := vBrk) m_rs xa (xa, xo, xs) rs underlying66 underlying21 a zk zk zk (by first | exact isn za | (omega)) ?_
  intro a0 ao
  replace g := Nat.le_trans g (Nat.le_of_eq ao.size.symm)
  have a := ao.here
  refine zU ?_
  refine ⟨rfl, .inl zk, yU zk (zB (wR (zH (nQ (zS (yC [(I6 0)] ?_))))))⟩
  have e0 : (0 : Int) = (addE rs (xa, xo, xs)) := by exact (addE_0 za za).symm
  have em : (rs ++ [(xa, (xa, xo, xs))]) = (addM rs (xa, xo, xs)) := by exact (addM_0 za za).symm
  rw [em] at a
  replace o := (((o.trans2 (Ch.of_below l.below) (fun _ h => h.elim)).trans2 (Ch.of_wrote ab) (fun k e => e ▸ m)).trans2 (Ch.of_below z) (fun _ h => h.elim)).trans2 (Ch.of_wrote ao) (fun k e => e ▸ ah)
  exact ⟨e6 e0, a, o⟩
 skip
 refine yZ 10 rfl ?_ rfl
 refine zN [(I3 0), (I3 0), (U8 0)] 26 ?_
 intro ar a5 j
 have d := yE (zV a) j
 have n := yE (zV b) j
 have ag : B_ ≤ ar := by rw [j.num]; exact g
 replace o := (o.trans2 (Ch.of_below u) (fun _ h => h.elim)).trans2 (Ch.of_below s) (fun _ h => h.elim)
 have m : (World.heap w).size ≤ ar ∨ (fun k => k = m_rs) ar := .inl (by rw [j.num]; exact o.size)
 have t := t.trans (j.below.mono g)
 replace g := Nat.le_trans g (j.below.size)
 have q := j.here
 refine zU ?_
 have c := zA c j.below
 have a := zA a j.below
 have b := zA b j.below
 refine ⟨rfl, .inr ⟨c, b, a⟩, M_all2 9 11 zk ?_ ?_⟩
 ·skip
  refine yZ 9 rfl ?_ rfl
  refine zr (.bool ((gget rs xa).isSome)) (zX ((gget rs xa).isSome) ?_ ?_)
  ·intro a4
   refine zU ?_
   refine ⟨rfl, .inr ⟨c, b, a⟩, yP 11 zk (yZ 11 rfl ?_ rfl)⟩
   refine wN [(I3 ((lookB rs xa).1)), (I3 ((lookB rs xa).2.1)), (U8 ((lookB rs xa).2.2))] q ?_
   intro bc an
   replace g := Nat.le_trans g (Nat.le_of_eq an.size.symm)
   refine zU ?_
   refine ⟨rfl, .inl zk, mp 12 rfl (.bool true) (.inl zk) zg (hq := (zC (zC zJ))) (yU zk (zB (wR (zG (nQ (zT (wR (zH (nQ (zS (zE (yC [(I6 81)] ?_))))))))))))⟩
   have e0 : (81 : Int) = (addE rs (xa, xo, xs)) := by exact (addE_2 za za).symm
   have em : rs = (addM rs (xa, xo, xs)) := by exact (addM_2 za za).symm
   have a := zD a an d
   rw [em] at a
   replace o := (o.trans2 (Ch.of_below j.below) (fun _ h => h.elim)).trans2 (Ch.of_wrote an) (fun k e => e ▸ m)
   exact ⟨e6 e0, a, o⟩
  intro a6
  refine zU ?_
  refine ⟨rfl, .inr ⟨c, b, a⟩, yP 11 zk (yZ 11 rfl ?_ rfl)⟩
  refine wN [(I3 ((lookB rs xa).1)), (I3 ((lookB rs xa).2.1)), (U8 ((lookB rs xa).2.2))] q ?_
  intro a3 aa
  replace g := Nat.le_trans g (Nat.le_of_eq aa.size.symm)
  have c := zD c aa (zP c q zi)
  refine zU ?_
  refine ⟨rfl, .inl zk, mp 12 rfl (.bool false) (.inl zk) zg (hq := (zC (zC zJ))) (yU zk (zB (wR (zG (nQ (zF (zQ (zB (yF (wF 7 8 zk zk zk ?_))))))))))⟩
  intro a1 y
  have t := t.trans (aa.below ag)
  have t := t.trans (y.mono g)
  replace g := Nat.le_trans g (y.size)
  refine ⟨fun w => (w.heap[i]? = some (.cells [(.map (some m_rs)), af].toArray 69 (0, 0))) ∧ (w.heap[b1]? = some (.cells [(I3 xa), (I3 xo), (U8 xs)].toArray 26 (0, 0))), ?_⟩
  have c := zA c y
  have b := zA (zD b aa n) y
  refine mp 0 rfl (pt i 0) (.inr ⟨c, b⟩) zg (hq := (zC zJ)) (mp 1 rfl (pt i 0) (.inr ⟨c, b⟩) zg (hq := (zC zJ)) (mp 2 rfl (pt i 0) (.inr ⟨c, b⟩) zg (hq := (zC zJ)) (mt 3 [3, 7] rfl (.map (some m_rs)) ⟨c, b⟩ (yY i 0 (.map (some m_rs)) zk zf (fun w2 h2 => zR h2.1 rfl)) (hq := (zC zJ)) (mp 4 rfl (pt b1 0) (.inr ⟨c, b⟩) zg (hq := (zC zJ)) (mt 5 [5, 7] rfl (I3 xa) ⟨c, b⟩ (yY b1 0 (I3 xa) zk zf (fun w2 h2 => zR h2.2 rfl)) (hq := (zC zJ)) (mt 6 [6, 7] rfl (Value.agg #[(I3 xa), (I3 xo), (U8 xs)]) ⟨c, b⟩ (R_loadA b1 0 [(I3 xa), (I3 xo), (U8 xs)] zk zf zf (fun w2 h2 => cells_at h2.2 0 zk)) (hq := (zC zJ)) (yP 7 zk ?_)))))))
  refine yZ 7 rfl ?_ rfl
  have a := zA (zD a aa d) y
  refine L_glay (k := .i32) (f := vBrk) m_rs xa (xa, xo, xs) rs underlying66 underlying21 a zk zk zk (by first | exact isn za | (omega)) ?_
  intro a7 ap
  replace g := Nat.le_trans g (Nat.le_of_eq ap.size.symm)
  have a := ap.here
  refine zU ?_
  refine ⟨rfl, .inl zk, yU zk (zB (wR (zH (nQ (zS (yC [(I6 0)] ?_))))))⟩
  have e0 : (0 : Int) = (addE rs (xa, xo, xs)) := by exact (addE_0 za za).symm
  have em : (rs ++ [(xa, (xa, xo, xs))]) = (addM rs (xa, xo, xs)) := by exact (addM_0 za za).symm
  rw [em] at a
  replace o := (((o.trans2 (Ch.of_below j.below) (fun _ h => h.elim)).trans2 (Ch.of_wrote aa) (fun k e => e ▸ m)).trans2 (Ch.of_below y) (fun _ h => h.elim)).trans2 (Ch.of_wrote ap) (fun k e => e ▸ ah)
  exact ⟨e6 e0, a, o⟩
 skip
 refine yZ 11 rfl ?_ rfl
 refine wN [(I3 ((lookB rs xa).1)), (I3 ((lookB rs xa).2.1)), (U8 ((lookB rs xa).2.2))] q ?_
 intro ay r
 replace g := Nat.le_trans g (Nat.le_of_eq r.size.symm)
 have c := zD c r (zP c q zi)
 refine zU ?_
 refine ⟨rfl, .inl zk, yP 9 zk (yZ 9 rfl ?_ rfl)⟩
 refine zr (.bool ((gget rs xa).isSome)) (zX ((gget rs xa).isSome) ?_ ?_)
 ·intro a2
  refine zU ?_
  refine ⟨rfl, .inl zk, mp 12 rfl (.bool true) (.inl zk) zg (hq := (zC (zC zJ))) (yU zk (zB (wR (zG (nQ (zT (wR (zH (nQ (zS (zE (yC [(I6 81)] ?_))))))))))))⟩
  have e0 : (81 : Int) = (addE rs (xa, xo, xs)) := by exact (addE_2 za za).symm
  have em : rs = (addM rs (xa, xo, xs)) := by exact (addM_2 za za).symm
  have a := zD a r d
  rw [em] at a
  replace o := (o.trans2 (Ch.of_below j.below) (fun _ h => h.elim)).trans2 (Ch.of_wrote r) (fun k e => e ▸ m)
  exact ⟨e6 e0, a, o⟩
 intro bg
 refine zU ?_
 refine ⟨rfl, .inl zk, mp 12 rfl (.bool false) (.inl zk) zg (hq := (zC (zC zJ))) (yU zk (zB (wR (zG (nQ (zF (zQ (zB (yF (wF 7 8 zk zk zk ?_))))))))))⟩
 intro az ac
 have t := t.trans (r.below ag)
 have t := t.trans (ac.mono g)
 replace g := Nat.le_trans g (ac.size)
 refine ⟨fun w => (w.heap[i]? = some (.cells [(.map (some m_rs)), af].toArray 69 (0, 0))) ∧ (w.heap[b1]? = some (.cells [(I3 xa), (I3 xo), (U8 xs)].toArray 26 (0, 0))), ?_⟩
 have c := zA c ac
 have b := zA (zD b r n) ac
 refine mp 0 rfl (pt i 0) (.inr ⟨c, b⟩) zg (hq := (zC zJ)) (mp 1 rfl (pt i 0) (.inr ⟨c, b⟩) zg (hq := (zC zJ)) (mp 2 rfl (pt i 0) (.inr ⟨c, b⟩) zg (hq := (zC zJ)) (mt 3 [3, 7] rfl (.map (some m_rs)) ⟨c, b⟩ (yY i 0 (.map (some m_rs)) zk zf (fun w2 h2 => zR h2.1 rfl)) (hq := (zC zJ)) (mp 4 rfl (pt b1 0) (.inr ⟨c, b⟩) zg (hq := (zC zJ)) (mt 5 [5, 7] rfl (I3 xa) ⟨c, b⟩ (yY b1 0 (I3 xa) zk zf (fun w2 h2 => zR h2.2 rfl)) (hq := (zC zJ)) (mt 6 [6, 7] rfl (Value.agg #[(I3 xa), (I3 xo), (U8 xs)]) ⟨c, b⟩ (R_loadA b1 0 [(I3 xa), (I3 xo), (U8 xs)] zk zf zf (fun w2 h2 => cells_at h2.2 0 zk)) (hq := (zC zJ)) (yP 7 zk ?_)))))))
 refine yZ 7 rfl ?_ rfl
 have a := zA (zD a r d) ac
 refine L_glay (k := .i32) (f := vBrk) m_rs xa (xa, xo, xs) rs underlying66 underlying21 a zk zk zk (by first | exact isn za | (omega)) ?_
 intro bf al
 replace g := Nat.le_trans g (Nat.le_of_eq al.size.symm)
 have a := al.here
 refine zU ?_
 refine ⟨rfl, .inl zk, yU zk (zB (wR (zH (nQ (zS (yC [(I6 0)] ?_))))))⟩
 have e0 : (0 : Int) = (addE rs (xa, xo, xs)) := by exact (addE_0 za za).symm
 have em : (rs ++ [(xa, (xa, xo, xs))]) = (addM rs (xa, xo, xs)) := by exact (addM_0 za za).symm
 rw [em] at a
 replace o := (((o.trans2 (Ch.of_below j.below) (fun _ h => h.elim)).trans2 (Ch.of_wrote r) (fun k e => e ▸ m)).trans2 (Ch.of_below ac) (fun _ h => h.elim)).trans2 (Ch.of_wrote al) (fun k e => e ▸ ah)
 exact ⟨e6 e0, a, o⟩
theorem c_idx (k : Value) (s : List (Int × Int × Int)) (h : Nat) (m_rs : Nat) (rs : List (Int × (Int × Int × Int))) (d : Value) (ts : List (Int × Int)) (w : World) (e : Rd w encBrk k s) (g : w.heap[h]? = some (.cells [(.map (some m_rs)), d].toArray 69 (0, 0))) (b : GmAt .i32 vBrk w (.map (some m_rs)) rs) (a : GmAt .i32 vI32 w d ts) (hl : s.length ≤ 9223372036854775807) :
  Calls Tryz.prog 29 #[k, (.func (.func 30) #[(pt h 0)] #[])] w (Ret fun v w' => v = (I6 (idxL rs s)) ∧ Below w.heap.size w w') := by
 refine wG 19 func29 rfl ?_
 have j := Below.refl w.heap.size w
 refine wR (zH (nW (wR (zG (zln underlying22 (e).len (zG (nQ (yI (xN (fun m s0 w0 => ∃ (i : Nat), (m = s.length - i) ∧ (s0.ds = []) ∧ ([0, 1, 7, 8].map s0.f = [k, (.func (.func 30) #[(pt h 0)] #[]), (N6 ((s).length)), (N6 i)]) ∧ (Rd w0 encBrk k s) ∧ (GmAt .i32 vBrk w0 (.map (some m_rs)) rs) ∧ (GmAt .i32 vI32 w0 d ts) ∧ (w0.heap[h]? = some (.cells [(.map (some m_rs)), d].toArray 69 (0, 0))) ∧ (Below w.heap.size w w0) ∧ (i ≤ s.length) ∧ (LonI rs s i)) _ ⟨0, rfl, zk, zk, e, b, a, g, j, (Nat.zero_le _), (LonI.zero _ _)⟩ ?_)))))))))
 rintro m1 s2 w3 ⟨i, hm, n, q, e, b, a, g, j, i1, p⟩
 refine xK q (wR (nLt i ((s).length) ?_ ?_))
 ·intro h4
  refine nW (zT (zQ (zB (yF (yI (wR (zG (zH (nR (zG (zG (zG ?_))))))))))))
  have t := yL s i zo; obtain ⟨l, o⟩ := t
  refine zEA e el22 i o [(I3 l.1), (I3 l.2.1), (U8 l.2.2)] rfl fun _ => (zc (c_lone h m_rs rs d ts l.1 l.2.1 l.2.2 _ g b a) ?_)
  rintro _ z ⟨rfl, c⟩
  refine zX (loneM rs (l.1, l.2.1, l.2.2)) ?_ ?_
  ·intro y
   have j := j.tr c
   exact nQ (zT (wR (zG (zH (nQ (zS (zK (zE (zE (zK (zE (yC [(N6 i)] (hd := n) ⟨e6 (by exact (idxL_hit p za za).symm), j⟩))))))))))))
  intro r
  refine nQ (zF (zQ (zL (zB (zW (zad i 1 (zG (zU ?_))))))))
  have j := j.tr c
  have g := zA g c
  have b := b.below c
  have e := e.below c
  have a := a.below c
  exact zB ⟨_, zo, (i + 1), rfl, n, zk, e, b, a, g, j, zo, p.step za za⟩
 intro u
 exact nW (zF (xG (yD (yD (yQ (zB (wR (zH (nQ (zS (yC [(I6 (-1))] (hd := n) ⟨e6 (by exact (idxL_end p zo).symm), j⟩)))))))))))
theorem c_New_ok (d : Value) (rows : List (Int × Int × Int)) (w : World) (c : Rd w encBrk d rows) (hl : rows.length ≤ 9223372036854775807) (hok : newB rows = none) :
  Calls Tryz.prog 10 #[d] w (Ret fun v w' => ∃ (cb0 mb0 : Nat), v = (.tuple #[(pt cb0 0), (I6 0), (I6 0)]) ∧ w'.heap[cb0]? = some (.cells [(.map (some mb0)), (.map none)].toArray 69 (0, 0)) ∧ w.heap.size ≤ cb0 ∧ w'.heap[mb0]? = some (gmObj .i32 vBrk (kv rows)) ∧ w.heap.size ≤ mb0 ∧ Below w.heap.size w w') := by
 refine wG 36 func10 rfl ?_
 have j := Below.refl w.heap.size w
 have h := c
 refine wR (zH (zH (zH (nR (L_gmk (T := 66) .i32 vBrk ?_)))))
 intro b1 w2 ad
 have p := ad.ge j.size
 have a := ad.here
 refine zr (Value.agg #[(.map (some b1)), (.map none)]) (zN [(.map (some b1)), (.map none)] 69 ?_)
 intro b4 w5 u
 have n := yE (zV a) u
 have o := NE.symm n
 have j := j.tr ad.below
 have ab := u.ge j.size
 have b := u.here
 have j := j.tr u.below
 have c := h.below j
 refine zH (nW (wR (zG (zln underlying22 (c).len (zG (nQ (yI ?_)))))))
 have a := zA a u.below
 refine xN (fun m s0 w0 => ∃ (i : Nat), (m = rows.length - i) ∧ (s0.ds = []) ∧ ([0, 5, 13, 14, 15].map s0.f = [d, (pt b4 0), d, (N6 ((rows).length)), (N6 i)]) ∧ (Rd w0 encBrk d rows) ∧ (w0.heap[b1]? = some (gmObj .i32 vBrk (kv (rows.take i)))) ∧ (w0.heap[b4]? = some (.cells [(.map (some b1)), (.map none)].toArray 69 (0, 0))) ∧ (Below w.heap.size w w0) ∧ (i ≤ rows.length) ∧ (FstI rows i)) _ ⟨0, rfl, zk, zk, c, a, b, j, (Nat.zero_le _), (FstI.zero _)⟩ ?_
 rintro m7 s8 w9 ⟨i, hm, ag, ak, c, a, b, j, i1, i2⟩
 refine xK ak (wR (nLt i ((rows).length) ?_ ?_))
 ·intro az
  refine nW (zT (zQ (zB (yF (yI (wR (zG ?_)))))))
  have hz := yL rows i zo; obtain ⟨g, t⟩ := hz
  refine zEA c el22 i t [(I3 g.1), (I3 g.2.1), (U8 g.2.2)] rfl fun _ => (zN [(I3 0), (I3 0), (U8 0)] 26 ?_)
  intro av ap l
  have q := yE (zV a) l
  have af := l.ge j.size
  have s := l.here
  refine zH (wN [(I3 g.1), (I3 g.2.1), (U8 g.2.2)] s ?_)
  intro ao r
  have b := zA b l.below
  have b := zD b r (zP b s zi)
  have s := r.here
  have j := (j.tr l.below).trans (r.below af)
  have a := zD (zA a l.below) r q
  refine nR (zG (zOW s (zc (c_add b4 b1 (kv (rows.take i)) (.map none) g.1 g.2.1 g.2.2 w.heap.size _ j.size b a p) ?_)))
  rintro _ aq ⟨rfl, ah, z⟩
  have j := z.below j j.size (fun k e => e ▸ p)
  have a := ah
  refine zH (nR (zG (zNe .i64 (addE (kv (rows.take i)) (g.1, g.2.1, g.2.2)) 0 ?_ ?_)))
  ·intro al
   exfalso; (rw [i2.no za al] at hok; cases hok)
  intro ae
  refine nQ (zF (zQ (zL (zB (zW (zad i 1 (zG (zU ?_))))))))
  have eM : (addM (kv (rows.take i)) (g.1, g.2.1, g.2.2)) = kv (rows.take (i + 1)) := addM_take t ae
  rw [eM] at a
  have eF := i2.add t ae
  have b := yA b z (fun e => o e)
  have c := h.below j
  exact zB ⟨_, zo, (i + 1), rfl, ag, zk, c, a, b, j, zo, eF⟩
 intro ay
 refine nW (zF (xG (yD (yD (yQ (zB (yF (wR (zG (zG (zr (.func (.func 30) #[(pt b4 0)] #[]) (zc (c_idx d rows b4 b1 (kv (rows.take i)) (.map none) [] _ c b (GmAt.of a) (.inl ⟨rfl, rfl⟩) zo) ?_))))))))))))
 rintro _ am ⟨rfl, y⟩
 refine zH (nR (zG (zGe .i64 (idxL (kv (rows.take i)) rows) 0 ?_ ?_)))
 ·intro ai
  exfalso; (rw [new_lone i2 zo ai] at hok; cases hok)
 intro au
 refine nQ (zF (zQ (zB (wR (zG (zH (zH (zH (nQ (zS (yC [(pt b4 0), (I6 0), (I6 0)] (hd := ag) ?_)))))))))))
 have e0 : (0 : Int) = 0 := by rfl
 have e1 : (0 : Int) = 0 := by rfl
 have em : (kv (rows.take i)) = (kv rows) := by exact kv_all zo
 have a := zA a y
 rw [em] at a
 have j := j.tr y
 have b := zA b y
 exact ⟨b4, b1, rfl, b, ab, a, p, j⟩
theorem c_New_bad (g : Value) (rows : List (Int × Int × Int)) (w : World) (c : Rd w encBrk g rows) (hl : rows.length ≤ 9223372036854775807) (hbad : newB rows ≠ none) :
  Calls Tryz.prog 10 #[g] w (Ret fun v w' => v = (.tuple #[(.pointer none), (N6 (newI rows)), (I6 (newE rows))]) ∧ Below w.heap.size w w') := by
 refine wG 36 func10 rfl ?_
 have j := Below.refl w.heap.size w
 have h := c
 refine wR (zH (zH (zH (nR (L_gmk (T := 66) .i32 vBrk ?_)))))
 intro b1 w2 aa
 have u := aa.ge j.size
 have a := aa.here
 refine zr (Value.agg #[(.map (some b1)), (.map none)]) (zN [(.map (some b1)), (.map none)] 69 ?_)
 intro b4 w5 t
 have n := yE (zV a) t
 have o := NE.symm n
 have j := j.tr aa.below
 have ai := t.ge j.size
 have b := t.here
 have j := j.tr t.below
 have c := h.below j
 refine zH (nW (wR (zG (zln underlying22 (c).len (zG (nQ (yI ?_)))))))
 have a := zA a t.below
 refine xN (fun m s0 w0 => ∃ (i : Nat), (m = rows.length - i) ∧ (s0.ds = []) ∧ ([0, 5, 13, 14, 15].map s0.f = [g, (pt b4 0), g, (N6 ((rows).length)), (N6 i)]) ∧ (Rd w0 encBrk g rows) ∧ (w0.heap[b1]? = some (gmObj .i32 vBrk (kv (rows.take i)))) ∧ (w0.heap[b4]? = some (.cells [(.map (some b1)), (.map none)].toArray 69 (0, 0))) ∧ (Below w.heap.size w w0) ∧ (i ≤ rows.length) ∧ (FstI rows i)) _ ⟨0, rfl, zk, zk, c, a, b, j, (Nat.zero_le _), (FstI.zero _)⟩ ?_
 rintro m7 s8 w9 ⟨i, hm, z, aj, c, a, b, j, i1, i2⟩
 refine xK aj (wR (nLt i ((rows).length) ?_ ?_))
 ·intro ay
  refine nW (zT (zQ (zB (yF (yI (wR (zG ?_)))))))
  have hz := yL rows i zo; obtain ⟨d, s⟩ := hz
  refine zEA c el22 i s [(I3 d.1), (I3 d.2.1), (U8 d.2.2)] rfl fun _ => (zN [(I3 0), (I3 0), (U8 0)] 26 ?_)
  intro ar ap l
  have p := yE (zV a) l
  have ag := l.ge j.size
  have r := l.here
  refine zH (wN [(I3 d.1), (I3 d.2.1), (U8 d.2.2)] r ?_)
  intro ao q
  have b := zA b l.below
  have b := zD b q (zP b r zi)
  have r := q.here
  have j := (j.tr l.below).trans (q.below ag)
  have a := zD (zA a l.below) q p
  refine nR (zG (zOW r (zc (c_add b4 b1 (kv (rows.take i)) (.map none) d.1 d.2.1 d.2.2 w.heap.size _ j.size b a u) ?_)))
  rintro _ aq ⟨rfl, ah, y⟩
  have j := y.below j j.size (fun k e => e ▸ u)
  have a := ah
  refine zH (nR (zG (zNe .i64 (addE (kv (rows.take i)) (d.1, d.2.1, d.2.2)) 0 ?_ ?_)))
  ·intro ax
   exact nQ (zT (wR (zG (zG (zH (zH (zH (nQ (zS (zK (zE (zE (zK (zE (yC [(.pointer none), (N6 i), (I6 (addE (kv (rows.take i)) (d.1, d.2.1, d.2.2)))] (hd := z) ⟨qA rfl (e6 (by (rw [(newI_of (i2.no za za)).1]; done))) (e6 (by exact (newI_of (i2.no za za)).2.symm)), j⟩)))))))))))))))
  intro af
  refine nQ (zF (zQ (zL (zB (zW (zad i 1 (zG (zU ?_))))))))
  have eM : (addM (kv (rows.take i)) (d.1, d.2.1, d.2.2)) = kv (rows.take (i + 1)) := addM_take s af
  rw [eM] at a
  have eF := i2.add s af
  have b := yA b y (fun e => o e)
  have c := h.below j
  exact zB ⟨_, zo, (i + 1), rfl, z, zk, c, a, b, j, zo, eF⟩
 intro aw
 refine nW (zF (xG (yD (yD (yQ (zB (yF (wR (zG (zG (zr (.func (.func 30) #[(pt b4 0)] #[]) (zc (c_idx g rows b4 b1 (kv (rows.take i)) (.map none) [] _ c b (GmAt.of a) (.inl ⟨rfl, rfl⟩) zo) ?_))))))))))))
 rintro _ am ⟨rfl, ae⟩
 refine zH (nR (zG (zGe .i64 (idxL (kv (rows.take i)) rows) 0 ?_ ?_)))
 ·intro al
  have j := j.tr ae
  exact nQ (zT (wR (zG (zH (zH (zH (nQ (zS (zE (yC [(.pointer none), (I6 (idxL (kv (rows.take i)) rows)), (I6 82)] (hd := z) ⟨qA rfl (e6 (by (rw [(newI_of (new_lone i2 zo za)).1]; omega))) (e6 (by exact (newI_of (new_lone i2 zo za)).2.symm)), j⟩))))))))))
 intro ak
 exfalso; exact hbad (new_ok i2 zo ak)
end Go.Proofs.YtddnhlobnembaaaGreatDoor
end

/- === Wcsw === -/
section
/- Walks, written by my program walk.py out of the specification csw.py: each theorem says what one function returns and that it leaves memory as it was. -/
namespace Go.Proofs.YtddnhlobnembaaaGreatDoor
open Go Go.RowKit Go.FK _root_.Go.Proofs.Tryz
set_option maxHeartbeats 4000000
set_option maxRecDepth 100000
theorem c_isnan (x : Int) (w : World) :
  Calls Tryz.prog 156 #[(I3 x)] w (Ret fun v w' => v = (.bool false) ∧ Below w.heap.size w w') := by
 refine wG 6 func156 rfl ?_
 have b := Below.refl w.heap.size w
 refine wR (zH (nR (zG (zG (zNe .i32 x x ?_ ?_)))))
 ·intro a
  exact (a rfl).elim
 intro c
 exact zH (nQ (zS (yC [(.bool false)] ⟨rfl, b⟩)))
theorem c_less (x : Int) (y : Int) (w : World) :
  Calls Tryz.prog 134 #[(I3 x), (I3 y)] w (Ret fun v w' => v = (.bool (decide (x < y))) ∧ Below w.heap.size w w') := by
 refine wG 17 func134 rfl ?_
 have a := Below.refl w.heap.size w
 refine wR (zH (nR (zG (zc (c_isnan x _ ) ?_))))
 rintro _ d ⟨rfl, b⟩
 refine zG (zs (zs (zs (xC (zG (zw (zG (zw (zG (zw (zLt .i32 x y ?_ ?_)))))))))))
 ·intro e
  have a := a.tr b
  exact xC (zH (nQ (zS (yC [(.bool true)] ⟨eb (by exact (decide_eq_true za).symm), a⟩))))
 intro c
 have a := a.tr b
 exact xC (zH (nQ (zS (yC [(.bool false)] ⟨eb (by exact (decide_eq_false zo).symm), a⟩))))
theorem c_insort (B_ : Nat) (d : Value) (s : List (Int)) (a : Nat) (b : Nat) (w : World) (hs0 : B_ ≤ w.heap.size) (c : Row w B_ 21 1 encI32 d s) (h1 : a ≤ b) (h2 : b ≤ s.length) (h3 : s.length ≤ 4611686018427387904) :
  Calls Tryz.prog 128 #[d, (N6 a), (N6 b)] w (Ret fun v w' => ∃ (ys : List (Int)), v = (.tuple #[]) ∧ Row w' B_ 21 1 encI32 d ys ∧ (Sw a b s ys) ∧ (Srt ys a b) ∧ Ch (fun k => Value.ownBlock d = some k) w w') := by
 refine wG 49 func128 rfl ?_
 have q := Below.refl B_ w
 have o : B_ ≤ (World.heap w).size := hs0
 have hc := Ch.refl (fun k => Value.ownBlock d = some k) w
 have ac : ∀ g, Value.ownBlock d = some g → (World.heap w).size ≤ g ∨ (fun k => Value.ownBlock d = some k) g := fun g h => .inr h
 refine wR (zG (zad a 1 (zH (nQ (yI (xN (fun m s0 w0 => ∃ (i : Nat) (ys : List Int), (m = b - i) ∧ (s0.ds = []) ∧ ([0, 1, 2, 6].map s0.f = [d, (N6 a), (N6 b), (N6 i)]) ∧ (Row w0 B_ 21 1 encI32 d ys) ∧ (Below B_ w w0) ∧ (Ch (fun k => Value.ownBlock d = some k) w w0) ∧ (B_ ≤ w0.heap.size) ∧ (a + 1 ≤ i ∧ (i ≤ b ∨ b ≤ a)) ∧ (ys.length = s.length) ∧ (Sw a b s ys) ∧ (Srt ys a i)) _ ⟨(a + 1), s, rfl, zk, zk, c, q, hc, o, zo, rfl, .refl, (srt_nil zo)⟩ ?_))))))
 rintro m1 s2 w3 ⟨i, ys, hm, ah, ax, c, q, hc, o, i1, i3, i4, i5⟩
 refine xK ax (yF (wR (zG (zG (nLt i b ?_ ?_)))))
 ·intro h4
  refine nQ (zT (zQ (zB (yF (yI (wR (zG (zH (nQ (yI (xN (fun m s0 w0 => ∃ (j : Nat) (zs : List Int), (m = j) ∧ (s0.ds = []) ∧ ([0, 1, 2, 6, 7].map s0.f = [d, (N6 a), (N6 b), (N6 i), (N6 j)]) ∧ (Row w0 B_ 21 1 encI32 d zs) ∧ (Below B_ w w0) ∧ (Ch (fun k => Value.ownBlock d = some k) w w0) ∧ (B_ ≤ w0.heap.size) ∧ (a ≤ j ∧ j ≤ i) ∧ (zs.length = s.length) ∧ (Sw a b s zs) ∧ (Ins zs a i j)) _ ⟨i, ys, rfl, ah, zk, c, q, hc, o, zo, i3, i4, (Ins.start i5)⟩ ?_)))))))))))
  rintro m5 s6 w7 ⟨j, zs, hm, ah, ax, c, q, hc, o, j1, j3, j4, j5⟩
  refine xK ax (yF (yF (yN zk zk (zY (zY (wA .i64 ((j : Nat) : Int) ((a : Nat) : Int) (a < j) rfl (cmpN_gt j a) zk zk ?_ ?_))))))
  ·intro h8
   replace h8 : a < j := by omega
   refine zY (qw (zY (qw (zY (qw ?_)))))
   have r := yL zs j zo; obtain ⟨x9, l⟩ := r
   have r := (c.rd).at (k := 1) zj l
   obtain ⟨a6, ak, a5, a2⟩ := r
   refine Lq_ixaddr (k := .i64) d j _ a6 ak el23 a5 zo zk zk (qw (yB a6 (ak + j * 1) (I3 x9) zk zf (a2 0 _ rfl) (qw (zY (qw (zY (qw (Lq_subN j 1 zo zo zk zk (qw ?_)))))))))
   have r := yL zs (j - 1) zo; obtain ⟨n, p⟩ := r
   have r := (c.rd).at (k := 1) zj p
   obtain ⟨a1, al, az, a3⟩ := r
   refine Lq_ixaddr (k := .i64) d (j - 1) _ a1 al el23 az zo zk zk (qw (yB a1 (al + (j - 1) * 1) (I3 n) zk zf (a3 0 _ rfl) (qw (Lq_call 134 [(I3 x9), (I3 n)] (.bool (decide (x9 < n))) zg (fun wq hbq => c_less x9 n wq ) (yW (decide (x9 < n)) ?_ ?_)))))
   ·intro bf
    have bd := el_lt l p bf
    refine qT (yJ ?_)
    intro bu ag
    replace q := q.trans (ag.mono o)
    replace o := Nat.le_trans o (ag.size)
    refine zB (zT (zQ (zB (yF (yI (wF 15 18 zk zk zk ?_))))))
    intro br ad
    replace q := q.trans (ad.mono o)
    replace o := Nat.le_trans o (ad.size)
    refine ⟨fun w => (Rd w encI32 d zs), ?_⟩
    replace c := (c.below ag).below ad
    refine mp 0 rfl d (.inr c.rd) zg (hq := (zI (zC (zC (zI (zI (zC (zC (zI zJ))))))))) (mp 1 rfl (N6 j) (.inr c.rd) zg (hq := (zI (zC (zC (zI (zI (zC (zC (zI zJ))))))))) (mp 2 rfl d (.inr c.rd) zg (hq := (zI (zC (zC (zI (zI (zC (zC (zI zJ))))))))) (mp 3 rfl (N6 j) (.inr c.rd) zg (hq := (zI (zC (zC (zI (zI (zC (zC (zI zJ))))))))) (mp 4 rfl (N6 (j - 1)) (.inr c.rd) (fun w2 _ => RI_subN j 1 zo zo zk zk w2) (hq := (zI (zC (zC (zI (zI (zC (zC (zI zJ))))))))) (mp 5 rfl d (.inr c.rd) zg (hq := (zI (zC (zC (zI (zI (zC (zC (zI zJ))))))))) (mp 6 rfl (N6 j) (.inr c.rd) zg (hq := (zI (zC (zC (zI (zI (zC (zC (zI zJ))))))))) (mp 7 rfl (N6 (j - 1)) (.inr c.rd) (fun w2 _ => RI_subN j 1 zo zo zk zk w2) (hq := (zI (zC (zC (zI (zI (zC (zC (zI zJ))))))))) ?_)))))))
    have r := (c.rd).at (k := 1) zj p; obtain ⟨au, u, ar, bl⟩ := r
    refine mp 8 rfl (pt au (u + (j - 1) * 1)) (.inr c.rd) (R_ixaddr (k := .i64) d (j - 1) _ au u el23 ar zo zk zk) (hq := (zI (zC (zC (zI (zI (zC (zC (zI zJ))))))))) (mt 9 [9, 14, 15, 16, 17] rfl (I3 n) c.rd (yY au (u + (j - 1) * 1) (I3 n) zk zf (fun w2 h2 => Rd.later (k := 1) h2 zj ar p 0 _ rfl)) (hq := (zI (zC (zC (zI (zI (zC (zC (zI zJ))))))))) (mp 10 rfl d (.inr c.rd) zg (hq := (zI (zC (zC (zI (zI (zC (zC (zI zJ))))))))) (mp 11 rfl (N6 j) (.inr c.rd) zg (hq := (zI (zC (zC (zI (zI (zC (zC (zI zJ))))))))) ?_)))
    have r := (c.rd).at (k := 1) zj l; obtain ⟨ay, y, ao, bk⟩ := r
    refine mp 12 rfl (pt ay (y + j * 1)) (.inr c.rd) (R_ixaddr (k := .i64) d j _ ay y el23 ao zo zk zk) (hq := (zI (zC (zC (zI (zI (zC (zC (zI zJ))))))))) (mt 13 [13, 14, 15, 16, 17] rfl (I3 x9) c.rd (yY ay (y + j * 1) (I3 x9) zk zf (fun w2 h2 => Rd.later (k := 1) h2 zj ao l 0 _ rfl)) (hq := (zI (zC (zC (zI (zI (zC (zC (zI zJ))))))))) ?_)
    have r := (c.rd).at (k := 1) zj l; obtain ⟨aw, z, aq, bj⟩ := r
    refine mp 14 rfl (pt aw (z + j * 1)) (.inr c.rd) (R_ixaddr (k := .i64) d j _ aw z el23 aq zo zk zk) (hq := (zI (zC (zC (zI (zI (zC (zC (zI zJ))))))))) (yP 15 zk (yZ 15 rfl ?_ rfl))
    refine L_storeRow j 0 aw z x9 n (I3 n) c zj l aq zk zk rfl zk zk rfl ?_
    intro bz a4 an
    replace q := q.tg o an c
    replace o := Nat.le_trans o (an.size)
    replace c := a4
    have bh : (List.set zs j n)[j]? = some n := set_here l
    refine zU ?_
    refine ⟨rfl, .inl zk, ?_⟩
    have r := yL (List.set zs j n) (j - 1) (by (simp only [swp_len, List.length_set] at *; omega)); obtain ⟨a8, am⟩ := r
    have r := (c.rd).at (k := 1) zj am; obtain ⟨av, t, ap, bm⟩ := r
    refine mp 16 rfl (pt av (t + (j - 1) * 1)) (.inl zk) (R_ixaddr (k := .i64) d (j - 1) _ av t el23 ap (by (simp only [swp_len, List.length_set] at *; omega)) zk zk) (hq := (zI (zC (zC (zI (zI (zC (zC (zI zJ))))))))) (yP 17 zk (yZ 17 rfl ?_ rfl))
    refine L_storeRow (j - 1) 0 av t a8 x9 (I3 x9) c zj am ap zk zk rfl zk zk rfl ?_
    intro bs a0 aj
    replace q := q.tg o aj c
    replace o := Nat.le_trans o (aj.size)
    replace c := a0
    have bo : (List.set (List.set zs j n) (j - 1) x9)[(j - 1)]? = some x9 := set_here am
    have eS := sets_swp l p
    replace c := c.cast eS; clear eS
    refine zU ?_
    refine ⟨rfl, .inl zk, yU zk (zL (zB (zW (zG (zsb j 1 (zH (zU ?_)))))))⟩
    replace hc := (((hc.trans2 (Ch.of_below ag) (fun _ h => h.elim)).trans2 (Ch.of_below ad) (fun _ h => h.elim)).trans2 (Ch.of_grown an) (fun k e => ac k e)).trans2 (Ch.of_grown aj) (fun k e => ac k e)
    refine zB ⟨_, zo, (j - 1), (swp zs j (j - 1)), rfl, ah, zk, c, q, hc, o, zo, ?_, ?_, ?_⟩
    ·rw [swp_len]; exact j3
    ·exact .swap j (j - 1) j4 zo zo zo
    exact j5.step zo zo zo (el_lt za za za)
   intro be
   have bb := el_le l p be
   refine qT (yJ ?_)
   intro bx af
   replace q := q.trans (af.mono o)
   replace o := Nat.le_trans o (af.size)
   refine zB (zF (xG (yD (yD (yQ (zL (zB (zW (zG (zad i 1 (zH (zU ?_))))))))))))
   replace hc := hc.trans2 (Ch.of_below af) (fun _ h => h.elim)
   replace c := c.below af
   refine zB ⟨_, zo, (i + 1), zs, rfl, ah, zk, c, q, hc, o, zo, ?_, ?_, ?_⟩
   ·exact j3
   ·exact j4
   exact j5.done zo (.inr (el_le za za za))
  intro a9
  replace a9 : j ≤ a := by omega
  refine zY (qs (qs (qs (qs (qs (qs (qs (qs (qs (qs (qF (yJ ?_))))))))))))
  intro bw aa
  replace q := q.trans (aa.mono o)
  replace o := Nat.le_trans o (aa.size)
  refine zB (zF (xG (yD (yD (yQ (zL (zB (zW (zG (zad i 1 (zH (zU ?_))))))))))))
  replace hc := hc.trans2 (Ch.of_below aa) (fun _ h => h.elim)
  replace c := c.below aa
  refine zB ⟨_, zo, (i + 1), zs, rfl, ah, zk, c, q, hc, o, zo, ?_, ?_, ?_⟩
  ·exact j3
  ·exact j4
  exact j5.done zo (.inl zo)
 intro bv
 refine nQ (zF (xG (yD (yD (yQ (znrm [] (hd := ah) ?_))))))
 exact ⟨ys, rfl, c, (by exact i4), (by exact i5.le zo), hc⟩
end Go.Proofs.YtddnhlobnembaaaGreatDoor
end

/- === FKak === -/
section
/- FKak: a strings.Builder as a struct with a row of bytes of its own: it may be written in rounds of ranges too. My own text. -/
namespace Go.FK
open Go Go.RowKit
def encByt (c : UInt8) : List Value := [.int .u8 ((c.toNat : Nat) : Int)]
theorem byt_cells (l : List UInt8) : l.flatMap encByt = Lib.strCells ⟨l.toArray⟩ := by
 show l.flatMap encByt = l.map fun b => Value.int .u8 b.toNat
 induction l with
 | nil => rfl
 | cons c l ih => rw [List.flatMap_cons, ih]; rfl
theorem byt_byte (l : List UInt8) : l.flatMap encByt = Lib.byteCells l := by
 induction l with
 | nil => rfl
 | cons c l ih => rw [List.flatMap_cons, ih]; rfl
section ops
variable {r : Option Nat} {P : Program} {n : Nat} {Q : Post} {s : Fm} {w : World} {ops : Array Oper} {rest : List Oper}
variable {d : Option Tmp} {ty : TypeId} {pos : String} {af : Array Edge} {T U E B : Nat} {l : List UInt8} {v : Value}
theorem L_appStrR {A X : Operand} (x : List UInt8) (ht : P.underlying T = some (.slice E)) (hu : P.underlying U = some .string) (hi : (P.info? E).map (fun i => (i.zero, i.size, i.bytes)) = some (some (.int .u8 0), 1, 1))
  (hrow : Row w B E 1 encByt v l) (hl : l.length ≤ 1073741824) (hx : x.length ≤ 1073741824) (hB : B ≤ w.heap.size) (hA : s.ev n A = v) (hX : s.ev n X = S x)
  (h : ∀ v' w', Row w' B E 1 encByt v' (l ++ x) → w.grownBy w' v.ownBlock → (v'.ownBlock = v.ownBlock ∨ v'.ownBlock = some w.heap.size) → L r P n ops Q rest (s.put d v') w') :
  L r P n ops Q (⟨d, .call ⟨.builtin .append, #[A, X], #[T, U]⟩, ty, pos, af, none⟩ :: rest) s w := by
 obtain ⟨i, hq, hz, b, a⟩ := info_u8 hi
 have hsz : (⟨x.toArray⟩ : ByteArray).size = x.length := by show x.toArray.size = _; simp
 have hown : w.ownsRow B E 1 v l.length (l.flatMap encByt) := hrow
 obtain ⟨v', w', hrun, hown', hg, hnil⟩ := Lib.run_append_own_string (P := P) w B T U ty E i ht hu hq hz b a v l.length (l.flatMap encByt) hown ⟨x.toArray⟩ (by rw [hsz]; unfold maxLen; omega) (by rw [hsz]; omega) hB
 have how : v'.ownBlock = v.ownBlock ∨ v'.ownBlock = some w.heap.size := by
  rcases hown.2 with ⟨rfl, _⟩ | ⟨g, cap, cur, rfl, _, hh, hnc, _, hcs, _⟩
  ·by_cases c : (⟨x.toArray⟩ : ByteArray).size = 0
   ·rw [hnil.2 ⟨rfl, c⟩]; exact .inl rfl
   ·have hr := run_append_nil_string (P := P) w T U ty E i (.int .u8 0) ht hu hq hz ⟨x.toArray⟩ (by omega) (by rw [hsz]; omega) (by rw [hsz, a]; omega)
    rw [hr] at hrun; injection hrun with e1 _; rw [← e1]; exact .inr rfl
  ·by_cases hroom : l.length + (⟨x.toArray⟩ : ByteArray).size ≤ cap
   ·have hr := Lib.run_append_room_string (P := P) w T U ty E i ht hu hq b g l.length cap cur hh ⟨x.toArray⟩ hroom (by omega)
    rw [hr] at hrun; injection hrun with e1 _; rw [← e1]; exact .inl rfl
   ·have hr := Lib.run_append_grow_string (P := P) w T U ty E i (.int .u8 0) ht hu hq hz ⟨g, 0, none⟩ l.length cap (l.flatMap encByt) (by rw [b]; exact hown.1) (hown.cells (g := g) rfl) ⟨x.toArray⟩ (by omega) (by rw [hsz]; omega) (by rw [a]; exact growslice_fits (by omega) (by omega))
    rw [hr] at hrun; injection hrun with e1 _; rw [← e1]; exact .inr rfl
 refine xI v' w' (by simp) ?_ (h v' w' ?_ hg how)
 ·have hX' : s.ev n X = .string ⟨x.toArray⟩ := hX
  simp only [execOp, resolve, invoke, builtin, Sem.run_bind, Sem.run_pure, Result.andThen_ok, List.map_toArray, List.map_cons, List.map_nil, hA, hX', hrun]
 ·rw [hsz] at hown'
  show w'.ownsRow B E 1 v' (l ++ x).length ((l ++ x).flatMap encByt)
  rw [List.length_append, List.flatMap_append, byt_cells x]
  exact hown'
end ops
section
variable {T E B b : Nat} {l : List UInt8} {w w1 : World} {p v : Value}
theorem copy2 (hcc : (w1 = w ∧ p = .pointer (some ⟨b, 0, none⟩)) ∨ Wrote w w1 b (.cells [.pointer (some ⟨b, 0, none⟩), v].toArray T (0, 0)))
  (ho : w.heap[b]? = some (.cells [p, v].toArray T (0, 0))) : w1.heap[b]? = some (.cells [.pointer (some ⟨b, 0, none⟩), v].toArray T (0, 0)) ∧ Ch (fun k => k = b) w w1 := by
 rcases hcc with ⟨rfl, rfl⟩ | hW
 ·exact ⟨ho, Ch.refl _ _⟩
 ·exact ⟨hW.here, Ch.of_wrote hW⟩
theorem Bld.ofRow (hp : p = .pointer none ∨ p = .pointer (some ⟨b, 0, none⟩)) (ho : w.heap[b]? = some (.cells [p, v].toArray T (0, 0))) (hr : Row w B E 1 encByt v l) (hB : B ≤ b) (hne : v.ownBlock ≠ some b) : Bld T E B b l w := by
 have hown : w.ownsRowF B E 1 v (Lib.byteCells l).length (Lib.byteCells l) := by
  have h : w.ownsRow B E 1 v l.length (l.flatMap encByt) := hr
  rw [byt_byte] at h
  rw [byteCells_len]
  exact World.ownsRowF_of h
 rcases hp with rfl | rfl
 ·exact .inl ⟨hB, v, ho, hown, hne⟩
 ·exact .inr ⟨hB, v, ho, hown, hne⟩
end
end Go.FK
end

/- === Wmbl8 === -/
section
/- Walks, written by my program walk.py out of the specification mbl8.py: each theorem says what one function returns and that it leaves memory as it was. -/
namespace Go.Proofs.YtddnhlobnembaaaGreatDoor
open Go Go.RowKit Go.FK _root_.Go.Proofs.Tryz
set_option maxHeartbeats 4000000
set_option maxRecDepth 100000
theorem bl_copy0 (b : Nat) (v : Value) (w : World) (ho : w.heap[b]? = some (.cells [(.pointer none), v].toArray 99 (0, 0))) :
  Calls Tryz.prog 78 #[(pt b 0)] w (Ret fun v1 c => v1 = (.tuple #[]) ∧ Wrote w c b (.cells [(pt b 0), v].toArray 99 (0, 0))) := by
 refine wG 20 func78 rfl ?_
 have e := Below.refl w.heap.size w
 have d : w.heap.size ≤ w.heap.size := Nat.le_refl _
 refine wR (zG (zr (pt b 0) (zFO 0 ho rfl (zr (.bool true) (nQ (zT (zW (zG (zG (L_toUns (k := 2) b underlying96 underlying153 zk zk ho zk zk (zr (pt b 0) (L_fromUns (k := 2) b underlying153 underlying96 zk ho zk zk (zr (pt b 0) (zr (pt b 0) (z1 0 (pt b 0) [(pt b 0), v] ho ?_)))))))))))))))
 intro c a
 replace d := Nat.le_trans d (Nat.le_of_eq a.size.symm)
 replace ho := a.here
 refine zU (znrm [] ?_)
 exact ⟨rfl, a⟩
theorem bl_copy1 (b : Nat) (v : Value) (w : World) (ho : w.heap[b]? = some (.cells [(pt b 0), v].toArray 99 (0, 0))) :
  Calls Tryz.prog 78 #[(pt b 0)] w (Ret fun v1 w1 => v1 = (.tuple #[]) ∧ w1 = w) := by
 refine wG 20 func78 rfl ?_
 have a := Below.refl w.heap.size w
 refine wR (zG (zr (pt b 0) (zFO 0 ho rfl (zr (.bool false) (nQ (zF (wR (zG (zr (pt b 0) (zFO 0 ho rfl (zG (L_pneF (k := 2) b underlying96 zk zk zk zk (nQ (zF (zQ (znrm [] ?_))))))))))))))))
 exact ⟨rfl, rfl⟩
theorem bl_copy (b : Nat) (p v : Value) (w : World) (hp : p = .pointer none ∨ p = (pt b 0)) (ho : w.heap[b]? = some (.cells [p, v].toArray 99 (0, 0))) :
  Calls Tryz.prog 78 #[(pt b 0)] w (Ret fun v1 a => v1 = (.tuple #[]) ∧ ((a = w ∧ p = (pt b 0)) ∨ Wrote w a b (.cells [(pt b 0), v].toArray 99 (0, 0)))) := by
 rcases hp with rfl | rfl
 ·refine (bl_copy0 b v w ho).mono ?_
  rintro e a ⟨u, rfl, rfl, h⟩
  exact ⟨_, rfl, rfl, .inr h⟩
 refine (bl_copy1 b v w ho).mono ?_
 rintro e a ⟨u, rfl, rfl, h⟩
 exact ⟨_, rfl, rfl, .inl ⟨h, rfl⟩⟩
theorem bd_WriteString (a : Nat) (p : Value) (f : Value) (l : List (UInt8)) (x : List UInt8) (B_ : Nat) (w : World) (hs0 : B_ ≤ w.heap.size) (b : w.heap[a]? = some (.cells [p, f].toArray 99 (0, 0))) (y : B_ ≤ a) (c : Row w B_ 5 1 encByt f l) (hp : p = .pointer none ∨ p = .pointer (some ⟨a, 0, none⟩)) (hl : l.length ≤ 1073741824) (hx : x.length ≤ 1073741824) :
  Calls Tryz.prog 44 #[(pt a 0), (S x)] w (Ret fun v w' => ∃ q0 : Value, v = (.tuple #[(N6 x.length), .nilIface]) ∧ w'.heap[a]? = some (.cells [(pt a 0), q0].toArray 99 (0, 0)) ∧ Row w' B_ 5 1 encByt q0 (l ++ x) ∧ (∀ g, Value.ownBlock q0 = some g → w.heap.size ≤ g ∨ (Dm a f) g) ∧ Ch (Dm a f) w w') := by
 refine wG 19 func44 rfl ?_
 have t := Below.refl B_ w
 have m : B_ ≤ (World.heap w).size := hs0
 have o := Ch.refl (Dm a f) w
 have q : (World.heap w).size ≤ a ∨ (Dm a f) a := .inr (.inl rfl)
 have d : ∀ g, Value.ownBlock f = some g → (World.heap w).size ≤ g ∨ (Dm a f) g := fun g h => .inr (.inr h)
 refine wR (zH (zH (nR (zG (zc (bl_copy a p f _ hp b) ?_)))))
 rintro _ w1 ⟨rfl, aa⟩
 have hz := copy2 aa b; obtain ⟨z, n⟩ := hz
 have t := n.below t m (fun k e => e ▸ y)
 have c := c.ch n (fun g hg e => (c.ne b zi) (by rw [hg, e]))
 replace m := Nat.le_trans m n.size
 have b := z
 refine nR (zG (zG (zr (pt a 0) (zFO 1 b rfl (zG (L_appStrR (l := l) x underlying97 underlying9 zk c zo zo m zk zk ?_))))))
 intro v2 w3 u j r 
 replace o := o.trans2 n (fun k e => e ▸ q)
 have s := dr_app (D := (Dm a f)) r (by have h0 := o.size; omega : (World.heap w).size ≤ (World.heap w1).size) d
 have t := t.tg m j c
 replace m := Nat.le_trans m (j.size)
 have b := yH b j (c.ne b zi)
 have c := u
 replace o := o.trans2 (Ch.of_grown j) (fun k e => d k e)
 have d := s; clear s
 refine zr (pt a 0) (zr (pt a 1) (wJ a 1 v2 [(pt a 0), f] [(pt a 0), v2] 99 zk zk c.one zk b zi rfl ?_))
 intro w7 i
 replace m := Nat.le_trans m (Nat.le_of_eq i.size.symm)
 have c := c.wrote i (c.ne b zi)
 have b := i.here
 refine nR (zG (zsl 9 x (zH (zH (nQ (zS (yC [(N6 ((x).length)), .nilIface] ?_)))))))
 have hE : ((x).length = x.length) ∧ ((l ++ x) = (l ++ x)) := ⟨(by rfl), (by rfl)⟩
 replace o := o.trans2 (Ch.of_wrote i) (fun k e => e ▸ q)
 exact ⟨_, xM (congrArg (fun x : Nat => Value.int .i64 (x : Int)) hE.1) (rfl), b, c.cast hE.2, d, o⟩
end Go.Proofs.YtddnhlobnembaaaGreatDoor
end

/- === FKam === -/
section
/- FKam: iterators whose elements are known by a predicate alone (their values may lie in memory that the iterator makes), with a fact on memory at each yield: as FKg's Iter and FKah's Iter2, written out of them by my program genfkam.py. -/
namespace Go.FK
open Go Go.RowKit
def IterP {α : Type} (P : Program) (g : FuncId) (lb : List Value) (encs : α → List Value) (ok fin : List α → Prop) (mem : Nat → α → World → Prop) (N : World → Prop) : Prop :=
  ∀ (l : Nat) (J Jx : Nat → List α → World → Prop) (w : World), N w →
    (∀ A, Below w.heap.size w A → J A.heap.size [] A) →
    (∀ K pre A B, J K pre A → Ch (Iv w.heap.size K) A B → J K pre B) →
    (∀ K pre A B, Jx K pre A → Ch (Iv w.heap.size K) A B → Jx K pre B) →
    (∀ K pre x A, J K pre A → N A → w.heap.size ≤ K → K ≤ A.heap.size → ok (pre ++ [x]) → mem K x A → YieldAt (Fw none) 0 P l (encs x).toArray A fun e A' =>
      (e = .returned (.bool true) ∧ J K (pre ++ [x]) A' ∧ Kp w.heap.size K A A' ∧ N A') ∨ (e = .returned (.bool false) ∧ Jx K (pre ++ [x]) A' ∧ Kp w.heap.size K A A')) →
    Calls P g (.func (.yield l) #[] #[] :: lb).toArray w (Ret fun _ w' => w.heap.size ≤ w'.heap.size ∧ ((∃ K l, fin l ∧ J K l w') ∨ (∃ K pre x, ok (pre ++ [x]) ∧ Jx K (pre ++ [x]) w')))
def IterP2 {α : Type} (P : Program) (g : FuncId) (lb : List Value) (encs : α → List Value) (ok fin : List α → Prop) (mem : Nat → α → World → Prop) (N : World → Prop) : Prop :=
  ∀ (l : Nat) (J Jx : Nat → List α → World → Prop) (w : World), N w →
    (∀ A, Below w.heap.size w A → J A.heap.size [] A) →
    (∀ K pre A B, J K pre A → Ch (Iv w.heap.size K) A B → J K pre B) →
    (∀ K pre A B, Jx K pre A → Ch (Iv w.heap.size K) A B → Jx K pre B) →
    (∀ K pre x A0 A, J K pre A0 → Ch (Iv w.heap.size K) A0 A → N A → w.heap.size ≤ K → K ≤ A0.heap.size → ok (pre ++ [x]) → mem A0.heap.size x A → YieldAt (Fw none) 0 P l (encs x).toArray A fun e A' =>
      (e = .returned (.bool true) ∧ J K (pre ++ [x]) A' ∧ Kp w.heap.size K A A' ∧ Kp A0.heap.size A.heap.size A A' ∧ N A') ∨ (e = .returned (.bool false) ∧ Jx K (pre ++ [x]) A' ∧ Kp w.heap.size K A A')) →
    Calls P g (.func (.yield l) #[] #[] :: lb).toArray w (Ret fun _ w' => w.heap.size ≤ w'.heap.size ∧ ((∃ K l, fin l ∧ J K l w') ∨ (∃ K pre x, ok (pre ++ [x]) ∧ Jx K (pre ++ [x]) w')))
section
variable {P : Program} {n : Nat} {Q : Post} {s : Fm} {w : World}
theorem W_rangeP {α : Type} {g : Operand} {ps : List Tmp} {assign body : Code} (gf : FuncId) (lb : List Value) {encs : α → List Value} (ok fin : List α → Prop) (mem : Nat → α → World → Prop) {N : World → Prop}
  (hg : s.ev n g = .func (.func gf) #[] lb.toArray) (eg : ∀ args w, (callFunc gf args).run P w = .ok (.enter gf args) w)
  (hit : IterP P gf lb encs ok fin mem N) (hN : N w) (hNs : ∀ D A B, N A → Ch D A B → (∀ k, D k → w.heap.size ≤ k) → N B) (hps : ∀ x, (encs x).length = ps.length)
  (I : Nat → List α → World → Prop) (Ix : Nat → Code → List α → World → Prop)
  (h0 : ∀ A, Below w.heap.size w A → I A.heap.size [] A)
  (hI : ∀ K pre A B, I K pre A → Ch (Iv w.heap.size K) A B → I K pre B)
  (hIx : ∀ K c pre A B, Ix K c pre A → Ch (Iv w.heap.size K) A B → Ix K c pre B)
  (hround : ∀ l K pre x A, I K pre A → N A → w.heap.size ≤ K → K ≤ A.heap.size → ok (pre ++ [x]) → mem K x A →
   W (some l) P n assign (thenQ (fun s1 w1 => Kp w.heap.size K A w1 ∧ ∀ w2, Ch (Iv w.heap.size K) w1 w2 → W (some l) P n body (roundQ w.heap.size K I Ix N (pre ++ [x]) w2) s1 w2) (fun _ _ _ => False))
    ((⟨s.f, []⟩ : Fm).puts (ps.zip (encs x))) A)
  (hdone : ∀ K l A, fin l → I K l A → w.heap.size ≤ A.heap.size → A.heap[w.heap.size]? = some (.deferred (some [])) → Q .normal ⟨s.f, ⟨.collected w.heap.size, #[]⟩ :: s.ds⟩ A)
  (hstop : ∀ K c pre x A, ok (pre ++ [x]) → Ix K c (pre ++ [x]) A → w.heap.size ≤ A.heap.size → A.heap[w.heap.size]? = some (.deferred (some [])) → W none P n c Q ⟨s.f, ⟨.collected w.heap.size, #[]⟩ :: s.ds⟩ A) :
  W none P n (.rangeFunc g ps.toArray assign body) Q s w := by
 refine W_iff.2 (wpIn_rangeFunc ?_)
 intro fn hfn
 obtain ⟨rec, hrec⟩ : ∃ rec : LoopState → Option Code → Loop, rec = fun st pe => { state := st, pending := pe, fn, tmps := (s.act n).tmps, params := ps.toArray, assign, body, defers := w.heap.size } := ⟨_, rfl⟩
 obtain ⟨W1, y⟩ : ∃ W1, (w.alloc (.deferred (some []))).alloc (.loop (rec .ready none)) = W1 := ⟨_, rfl⟩
 have au : W1.heap.size = w.heap.size + 2 := by rw [← y]; simp
 have ai : W1.heap[w.heap.size + 1]? = some (.loop (rec .ready none)) := by
  rw [← y]; have := World.alloc_heap_new (w.alloc (.deferred (some []))) (.loop (rec .ready none)); rwa [World.size_alloc] at this
 have aj : W1.heap[w.heap.size]? = some (.deferred (some [])) := by
  rw [← y]; exact (Below.heap_alloc _ _ _ (by simp)).trans (World.alloc_heap_new w _)
 have ae : Below w.heap.size w W1 := by
  rw [← y]; exact ((Below.refl _ w).alloc (Nat.le_refl _) _).alloc (by simp) _
 refine ⟨w.heap.size + 1, [{ target := .collected w.heap.size, args := #[] }], W1, { target := .fn (.func gf) lb.toArray, args := #[.func (.yield (w.heap.size + 1)) #[] #[]] }, W1, gf,
  #[.func (.yield (w.heap.size + 1)) #[] #[]] ++ lb.toArray, W1, ?_, ?_, ?_, ?_, fun hx => by simp [Fw] at hx, ?_⟩
 ·rw [← y, hrec]; exact run_enterLoop_outer _ _ _ _ _
 ·rw [xW]
  simp only [resolve, List.map_toArray, List.map_cons, List.map_nil, hg]
  rfl
 ·intro f' _; trivial
 ·simp only [invoke, eg]
 ·have ao : N W1 := hNs _ _ _ hN ((Ch.of_below ae)) (fun _ h => h.elim)
  have hput : ∀ (K : Nat) (A : World) (k : Nat) (o o' : Obj), A.heap[k]? = some o → Iv w.heap.size K k → Ch (Iv w.heap.size K) A (A.putObj k o') := fun K A k o o' hk hiv =>
   ⟨rfl, rfl, rfl, by simp [World.putObj], fun j _ hn => World.putObj_heap_other (fun e => hn (e ▸ hiv))⟩
  have hivm : ∀ {K k : Nat}, Iv W1.heap.size K k → Iv w.heap.size K k := fun h => ⟨by have := h.1; omega, h.2⟩
  have hcall := hit (w.heap.size + 1)
   (fun K pre A => I K pre A ∧ w.heap.size + 2 ≤ K ∧ A.heap[w.heap.size + 1]? = some (.loop (rec .ready none)) ∧ A.heap[w.heap.size]? = some (.deferred (some [])))
   (fun K pre A => ∃ c, Ix K c pre A ∧ w.heap.size + 2 ≤ K ∧ A.heap[w.heap.size + 1]? = some (.loop (rec .done (some c))) ∧ A.heap[w.heap.size]? = some (.deferred (some [])))
   W1 ao
   (fun A hA => ⟨h0 A (ae.trans (hA.mono (by omega))), by have := hA.size; omega, (hA.block _ (by omega)).trans ai, (hA.block _ (by omega)).trans aj⟩)
   (fun K pre A B hs hc => ⟨hI K pre A B hs.1 (hc.mono fun k h => hivm h), hs.2.1, yA hs.2.2.1 hc (fun h => by have := h.1; omega), yA hs.2.2.2 hc (fun h => by have := h.1; omega)⟩)
   (fun K pre A B hs hc => by
    obtain ⟨c, h1, z, h3, h4⟩ := hs
    exact ⟨c, hIx K c pre A B h1 (hc.mono fun k h => hivm h), z, yA h3 hc (fun h => by have := h.1; omega), yA h4 hc (fun h => by have := h.1; omega)⟩)
   ?_
  ·refine CallsIn.mono (calls_fw.2 (by simpa using hcall)) ?_
   rintro e W2 ⟨v, rfl, hsz, (⟨K, l9, ap, hi, z, hl, hk⟩ | ⟨K, pre, x, hpre, c, hi, z, hl, hk⟩)⟩
   ·refine ⟨none, _, by have := run_endLoop (P := P) hl (by rw [hrec]; simp); rw [hrec] at this; exact this, ?_⟩
    have hp := hput K W2 (w.heap.size + 1) _ (.loop { rec .ready none with state := .exhausted }) hl ⟨by omega, by omega⟩
    rw [hrec] at hp
    exact ⟨⟨s.f, _⟩, rfl, hdone K l9 _ ap (hI _ _ _ _ hi hp) (Nat.le_trans (show w.heap.size ≤ W2.heap.size by omega) hp.size) ((World.putObj_heap_other (by omega)).trans hk)⟩
   ·refine ⟨some c, _, by have := run_endLoop (P := P) hl (by rw [hrec]; simp); rw [hrec] at this; exact this, ?_⟩
    have hp := hput K W2 (w.heap.size + 1) _ (.loop { rec .done (some c) with state := .exhausted }) hl ⟨by omega, by omega⟩
    rw [hrec] at hp
    exact W_iff.1 (hstop K c pre x _ hpre (hIx _ _ _ _ _ hi hp) (Nat.le_trans (show w.heap.size ≤ W2.heap.size by omega) hp.size) ((World.putObj_heap_other (by omega)).trans hk))
  ·-- one round
   rintro K pre x A ⟨hi, z, hl, hk⟩ hNA aw hKA hpre hmem
   have r : Iv w.heap.size K (w.heap.size + 1) := ⟨by omega, by omega⟩
   have ab : Iv w.heap.size K w.heap.size := ⟨Nat.le_refl _, by omega⟩
   have hlt : w.heap.size + 1 < A.heap.size := zV hl
   have hy := run_yield (P := P) (args := (encs x).toArray) hl (by rw [hrec]; simpa using hps x)
   rw [hrec] at hy
   refine ⟨fn, _, assign, body, hy, roundIn_of_wpIn hfn ?_⟩
   have hfr : (({ tmps := (Array.zip ps.toArray (encs x).toArray).foldl (fun tmps (t, a) => tmps.setIfInBounds t a) (s.act n).tmps, defers := [] } : Act)) = ((⟨s.f, []⟩ : Fm).puts (ps.zip (encs x))).act n := by
    have e := puts_act n (ps.zip (encs x)) ⟨s.f, []⟩
    have e2 : (s.act n).tmps = ((⟨s.f, []⟩ : Fm).act n).tmps := rfl
    rw [e2]
    have e3 : (Array.zip ps.toArray (encs x).toArray) = (ps.zip (encs x)).toArray := by simp
    rw [e3]
    show Act.mk _ _ = Act.mk _ _
    congr 1
    ·rw [List.foldl_toArray]; exact e
    ·exact (puts_ds (ps.zip (encs x)) ⟨s.f, []⟩).symm
   rw [hfr]
   refine wpIn_mono (W_iff.1 (hround (w.heap.size + 1) K pre x A hi hNA (by omega) hKA hpre hmem)) ?_
   rintro e a1 w1 ⟨s1, rfl, af⟩
   cases e with
   | normal =>
    obtain ⟨hkp, hbody⟩ := af
    have ad : w1.heap[w.heap.size + 1]? = some (.loop (rec .ready none)) := (hkp.same _ r).trans hl
    have al : w1.heap[w.heap.size]? = some (.deferred (some [])) := (hkp.same _ ab).trans hk
    refine ⟨_, run_beginRound ad (by rw [hrec]), ?_⟩
    have hp := hput K w1 (w.heap.size + 1) _ (.loop { rec .ready none with state := .busy }) ad r
    have ag : (w1.putObj (w.heap.size + 1) (.loop { rec .ready none with state := .busy })).heap[w.heap.size + 1]? = some (.loop { rec .ready none with state := .busy }) := World.putObj_heap_same (zV ad)
    have ah : (w1.putObj (w.heap.size + 1) (.loop { rec .ready none with state := .busy })).heap[w.heap.size]? = some (.deferred (some [])) := (World.putObj_heap_other (by omega)).trans al
    refine wpIn_mono (W_iff.1 (hbody _ hp)) ?_
    have fin : ∀ (jump : Option Code) (W3 : World), Kp w.heap.size K (w1.putObj (w.heap.size + 1) (.loop { rec .ready none with state := .busy })) W3 →
      (Instr.endRound (w.heap.size + 1) jump).run P W3 = .ok (.bool jump.isNone) (W3.putObj (w.heap.size + 1) (.loop (rec (if jump.isNone then .ready else .done) jump))) ∧
      (W3.putObj (w.heap.size + 1) (.loop (rec (if jump.isNone then .ready else .done) jump))).heap[w.heap.size + 1]? = some (.loop (rec (if jump.isNone then .ready else .done) jump)) ∧
      (W3.putObj (w.heap.size + 1) (.loop (rec (if jump.isNone then .ready else .done) jump))).heap[w.heap.size]? = some (.deferred (some [])) ∧
      Ch (Iv w.heap.size K) W3 (W3.putObj (w.heap.size + 1) (.loop (rec (if jump.isNone then .ready else .done) jump))) ∧
      Kp W1.heap.size K A (W3.putObj (w.heap.size + 1) (.loop (rec (if jump.isNone then .ready else .done) jump))) := fun jump W3 b => by
     have ac := (b.same _ r).trans ag
     have hr := run_endRound (P := P) jump ac
     rw [hrec] at hr ⊢
     refine ⟨hr, World.putObj_heap_same (zV ac), (World.putObj_heap_other (by omega)).trans ((b.same _ ab).trans ah), hput K W3 _ _ _ ac r, ⟨?_, fun k hkk => ?_⟩⟩
     ·have h1 := hkp.size; have z := hp.size; have h3 := b.size
      simp only [World.putObj, Array.size_setIfInBounds] at z h3 ⊢
      omega
     ·have hkne : k ≠ w.heap.size + 1 := by have := hkk.1; omega
      have hkk' : Iv w.heap.size K k := hivm hkk
      exact (World.putObj_heap_other hkne).trans ((b.same k hkk').trans ((World.putObj_heap_other hkne).trans (hkp.same k hkk')))
    rintro e3 a3 W3 ⟨s3, rfl, u⟩
    cases e3 with
    | normal =>
     obtain ⟨b, m, an⟩ := u
     obtain ⟨hr, p, q, i, d⟩ := fin none W3 b
     exact ⟨_, _, hr, .inl ⟨rfl, ⟨hI _ _ _ _ m i, z, p, q⟩, d, hNs _ _ _ an i (fun k h => h.1)⟩⟩
    | ret =>
     obtain ⟨b, m⟩ := u
     obtain ⟨hr, p, q, i, d⟩ := fin (some .ret) W3 b
     exact ⟨_, _, hr, .inr ⟨rfl, ⟨.ret, hIx _ _ _ _ _ m i, z, p, q⟩, d⟩⟩
    | exit id =>
     obtain ⟨b, m⟩ := u
     obtain ⟨hr, p, q, i, d⟩ := fin (some (.exit id)) W3 b
     exact ⟨_, _, hr, .inr ⟨rfl, ⟨.exit id, hIx _ _ _ _ _ m i, z, p, q⟩, d⟩⟩
    | goto t =>
     obtain ⟨b, m⟩ := u
     obtain ⟨hr, p, q, i, d⟩ := fin (some (.goto t)) W3 b
     exact ⟨_, _, hr, .inr ⟨rfl, ⟨.goto t, hIx _ _ _ _ _ m i, z, p, q⟩, d⟩⟩
    | panic _ => exact u.elim
    | outgrown => exact u.elim
   | _ => exact af.elim
end
end Go.FK
end

/- === Wcb3 === -/
section
/- Walks, written by my program walk.py out of the specification cb3.py: each theorem says what one function returns and that it leaves memory as it was. -/
namespace Go.Proofs.YtddnhlobnembaaaGreatDoor
open Go Go.RowKit Go.FK _root_.Go.Proofs.Tryz
set_option maxHeartbeats 4000000
set_option maxRecDepth 100000
theorem c_pdq12 (B_ : Nat) (c : Value) (s : List (Int)) (a : Nat) (b : Nat) (z : Nat) (w : World) (hs0 : B_ ≤ w.heap.size) (d : Row w B_ 21 1 encI32 c s) (h1 : a ≤ b) (h2 : b ≤ s.length) (h3 : s.length ≤ 4611686018427387904) (h4 : b ≤ a + 12) :
  Calls Tryz.prog 113 #[c, (N6 a), (N6 b), (N6 z)] w (Ret fun v w' => ∃ (ys : List (Int)), v = (.tuple #[]) ∧ Row w' B_ 21 1 encI32 c ys ∧ (Sw a b s ys) ∧ (Srt ys a b) ∧ Ch (fun k => Value.ownBlock c = some k) w w') := by
 refine wG 134 func113 rfl ?_
 have o := Below.refl B_ w
 have j : B_ ≤ (World.heap w).size := hs0
 have m := Ch.refl (fun k => Value.ownBlock c = some k) w
 have f : ∀ g, Value.ownBlock c = some g → (World.heap w).size ≤ g ∨ (fun k => Value.ownBlock c = some k) g := fun g h => .inr h
 refine wR (zH (nR (zH (nQ (yI (W_unroll 1 (yI (wR (zG (zG (zsb b a (zH (nW (wR (zG (nLe (b - a) 12 ?_ ?_))))))))))))))))
 ·intro h1
  refine nQ (zT (wR (zG (zG (zG (zc (c_insort B_ c s a b _ j d zo zo zo) ?_))))))
  rintro _ t ⟨n, rfl, l, q, p, i⟩
  have o := i.below o j (fun k e => (World.ownsRow.lt d k e).1)
  replace j := Nat.le_trans j i.size
  have d := l
  refine nQ (zS (zE (zK (zE (zK (yC [] ?_))))))
  replace m := m.trans2 i (fun k e => f k e)
  exact ⟨n, rfl, d, za, za, m⟩
 intro r
 exfalso; omega
theorem c_bitsLen (x : Int) (w : World) (h0 : 0 ≤ x) (h1 : x ≤ 18446744073709551615) :
  Calls Tryz.prog 114 #[(.int .u64 x)] w (Ret fun v w' => v = (N6 (Lib.bitLen x.toNat)) ∧ Below w.heap.size w w') :=
 (Tryz.bits_Len x w h0 h1).mono fun e w' h => ⟨_, h.1, rfl, h.2 ▸ Below.refl _ _⟩
theorem it_Keys (r m_rs : Nat) (rs : List (Int × (Int × Int × Int)))  :
  IterP (α := Int) Tryz.prog 98 [.pointer (some ⟨r, 0, none⟩)] (fun x => [.int .i32 x]) (fun l => l.length ≤ rs.length) (fun l => l.Perm (rs.map (·.1))) (fun _ _ _ => True) (fun w => w.heap[r]? = some (.cells [(.map (some m_rs))].toArray 66 (0, 0)) ∧ w.heap[m_rs]? = some (gmObj .i32 vBrk rs)) := by
 intro l J Jx w hN h0 ah ap hY
 refine wG 14 func98 rfl ?_
 have hb := Below.refl w.heap.size w
 have o : w.heap.size ≤ w.heap.size := Nat.le_refl _
 obtain ⟨b, a⟩ := hN
 refine wR (zO 0 b rfl (L_grange (k := .i32) vBrk m_rs rs underlying66 a zk ?_))
 intro b1 w2 j
 have h := yE (zV b) j
 have d := yE (zV a) j
 have y := j.ge o
 replace hb := hb.trans (j.below.mono o)
 replace o := Nat.le_trans o (j.below.size)
 have c := j.here
 refine nQ (yI ?_)
 have u := h0 _ hb
 obtain ⟨K, ag⟩ : ∃ K, K = w2.heap.size := ⟨_, rfl⟩
 rw [← ag] at u
 have s : K ≤ w2.heap.size := by omega
 have ae : w.heap.size ≤ K := by omega
 have p : Iv w.heap.size K b1 := ⟨y, by have := zV c; omega⟩
 replace a := zA a j.below
 replace b := zA b j.below
 refine xN (fun m s0 w0 => ∃ (g : Array Nat) (n : List Int), (m = rs.length - g.size) ∧ (s0.ds = []) ∧ ([0, 5].map s0.f = [(.func (.yield l) #[] #[]), (pt b1 0)]) ∧ (w0.heap[r]? = some (.cells [(.map (some m_rs))].toArray 66 (0, 0))) ∧ (w0.heap[m_rs]? = some (gmObj .i32 vBrk rs)) ∧ (w0.heap[b1]? = some (.mapIter (some m_rs) (List.length rs) g (List.length rs))) ∧ (w.heap.size ≤ w0.heap.size) ∧ (K ≤ w0.heap.size) ∧ (J K n w0) ∧ (TldK rs g n)) _ ⟨(#[]), [], rfl, zk, zk, b, a, c, o, s, u, (TldK.zero _)⟩ ?_
 rintro m4 s5 w6 ⟨g, n, hm, z, al, b, a, c, o, s, u, i1⟩
 refine xK al (wR (L_gnext (k := .i32) (f := vBrk) b1 m_rs rs g zk c a ?_ ?_))
 ·skip
  intro i7 q ay aj ao i
  have t := Ch.refl (Iv w.heap.size K) w6
  replace s := Nat.le_trans s (Nat.le_of_eq i.size.symm)
  replace o := Nat.le_trans o (Nat.le_of_eq i.size.symm)
  replace c := i.here
  replace a := zD a i d
  refine zr (.bool true) (nW (zT (zQ (zB (yI (wR (L_gentry b1 m_rs rs g i7 q zk c a aj (zr (I3 q.1) (zH (nR (zG (zG ?_))))))))))))
  replace t := t.trans2 (Ch.of_wrote i) (fun k e => .inr (e ▸ p))
  replace u := ah _ _ _ _ u t
  clear t
  have v : (n ++ [q.1]).length ≤ rs.length := by have := (i1.push za za).len; rw [this.2]; exact this.1
  replace b := zD b i h
  refine L_yieldR l [(I3 q.1)] zk zk (hY K n q.1 _ u ⟨b, a⟩ ae s v trivial) ?_
  rintro e av (⟨rfl, ak, hk, am⟩ | ⟨rfl, ai, hk⟩)
  ·refine ⟨true, rfl, ?_⟩
   replace c := (hk.same _ p).trans c
   replace o := Nat.le_trans o hk.size
   replace s := Nat.le_trans s hk.size
   replace u := ak
   obtain ⟨b, a⟩ := am
   refine wX true (nQ (zF (zQ (zL (zB ⟨_, ?_, (Array.push g i7), (n ++ [q.1]), rfl, z, zk, b, a, c, o, s, u, ?_⟩)))))
   ·have := (i1.push za za).len; simp only [Array.size_push] at *; omega
   exact i1.push za za
  refine ⟨false, rfl, ?_⟩
  replace o := Nat.le_trans o hk.size
  replace s := Nat.le_trans s hk.size
  refine wX false (nQ (zT (zS (zK (zE (zK (yC [] (hd := z) ?_)))))))
  exact ⟨o, Or.inr ⟨K, _, _, v, ai⟩⟩
 skip
 intro ad
 refine zr (.bool false) (nW (zF (xG (yD (yD (yQ (znrm [] (hd := z) ?_)))))))
 exact ⟨o, Or.inl ⟨K, n, (by exact i1.all za), u⟩⟩
theorem c_AppendSeq (c0_seq m_rs : Nat) (rs : List (Int × (Int × Int × Int))) (w : World) (d : w.heap[c0_seq]? = some (.cells [(.map (some m_rs))].toArray 66 (0, 0))) (f : w.heap[m_rs]? = some (gmObj .i32 vBrk rs)) (hm : rs.length ≤ 4194304) :
  Calls Tryz.prog 112 #[(.slice none 0 0), (.func (.func 98) #[] #[(pt c0_seq 0)])] w (Ret fun v w' => ∃ (ys : List Int) (q0 : Value), v = q0 ∧ Row w' w.heap.size 21 1 encI32 q0 ys ∧ ys.Perm (rs.map (·.1)) ∧ ys.length = rs.length ∧ Below w.heap.size w w') := by
 refine enterM (args := [(.slice none 0 0), (.func (.func 98) #[] #[(pt c0_seq 0)])]) func112 rfl (zk : _ = 13) zk ?_
 have n := Below.refl w.heap.size w
 refine wR (zN [(.slice none 0 0)] 23 ?_)
 intro b1 w2 y
 have s := yE (zV f) y
 have ap := y.ge n.size
 have j := y.here
 refine zH (nW (wR (zG (nQ (yI ?_)))))
 have d := zA d y.below
 have p : c0_seq < w2.heap.size := zV d
 have f := zA f y.below
 have m : m_rs < w2.heap.size := zV f
 have r : b1 < w2.heap.size := zV j
 have n := n.tr y.below
 have aa := n.size
 have az := n
 refine W_rangeP 98 [(pt c0_seq 0)] (fun l => l.length ≤ rs.length) (fun l => l.Perm (rs.map (·.1))) (fun _ _ _ => True) zk (fun _ _ => rfl) (it_Keys c0_seq m_rs rs ) ⟨d, f⟩ ((fun D A B h hc hd => ⟨yA h.1 hc (fun h => Nat.not_lt.2 (hd _ h) p), yA h.2 hc (fun h => Nat.not_lt.2 (hd _ h) m)⟩)) (by intro x; rfl) (fun K t A => ∃ (q : List Int) (i : Value), (A.heap[c0_seq]? = some (.cells [(.map (some m_rs))].toArray 66 (0, 0))) ∧ (A.heap[m_rs]? = some (gmObj .i32 vBrk rs)) ∧ (A.heap[b1]? = some (.cells [i].toArray 23 (0, 0))) ∧ (Row A w.heap.size 21 1 encI32 i q) ∧ (∀ g, Value.ownBlock i = some g → ¬ Iv w2.heap.size K g) ∧ (Below w.heap.size w A) ∧ (q = t)) (fun K c t A => False) ?_ ?_ ?_ ?_ ?_ ?_
 ·intro A hA
  exact ⟨[], (.slice none 0 0), zA d hA, zA f hA, zA j hA, Row.nil _ _ _ _ _, nr_nil _ _, n.trans (hA.mono n.size), by rfl⟩
 ·rintro K t A B ⟨q, i, d, f, j, a, b, n, p1⟩ hc
  exact ⟨q, i, yA d hc (fun h => Nat.not_lt.2 h.1 p), yA f hc (fun h => Nat.not_lt.2 h.1 m), yA j hc (fun h => Nat.not_lt.2 h.1 r), a.ch hc b, b, hc.below n n.size (fun k h => Nat.le_trans aa h.1), p1⟩
 ·intro K c _ A B h hc; exact h.elim
 ·intro l K t x A hi hN a1 hK ao ay
  obtain ⟨q, i, d, f, j, a, b, n, p1⟩ := hi
  have hk := Kp.refl (w2.heap.size) K A
  have ak : ¬ Iv (w2.heap.size) K c0_seq := fun h => Nat.not_lt.2 h.1 p
  have ab : ¬ Iv (w2.heap.size) K m_rs := fun h => Nat.not_lt.2 h.1 m
  have ac : ¬ Iv (w2.heap.size) K b1 := fun h => Nat.not_lt.2 h.1 r
  have d := hN.1
  have f := hN.2
  have aw : (t ++ [x]).length ≤ rs.length := ao
  rw [List.length_append, List.length_singleton] at aw
  have a2 : q.length = t.length := by rw [p1]
  refine zW (zH (zU (zB ⟨hk, ?_⟩)))
  intro w4 u
  have n := u.below n n.size (fun k h => Nat.le_trans aa h.1)
  replace hK := Nat.le_trans hK u.size
  replace hk := Kp.refl (w2.heap.size) K w4
  have j := yA j u ac
  have a := a.ch u b
  refine yI (zW (zO 0 j rfl (zG (wV el23 w.heap.size i q x n.size a zo zk rfl rfl zk rfl zk zk ?_))))
  intro v6 w7 au z am
  have an := nr_app am b hK
  have n := n.tg n.size z a
  replace hk := hk.ch (Ch.of_grown z) hK (fun k e => b k e)
  replace hK := Nat.le_trans hK (z.size)
  have d := yA d u ak
  have d := yH d z (a.ne d zi)
  have f := yA f u ab
  have f := yH f z (a.ne f (by simp [gmObj]))
  have j := yH j z (a.ne j zi)
  have a := au
  have b := an; clear an
  refine wJ b1 0 v6 [i] [v6] 23 zk zk a.one zk j zi rfl ?_
  intro a6 o
  replace hk := hk.ch (Ch.of_wrote o) hK (fun k e h => ac (e ▸ h))
  replace hK := Nat.le_trans hK (Nat.le_of_eq o.size.symm)
  have d := zD d o (zP d j zi)
  have a := a.wrote o (a.ne j zi)
  have j := o.here
  refine zU (zL ?_)
  have n := n.trans (o.below ap)
  have f := zD f o s
  refine wL hk ⟨d, f⟩ ⟨(q ++ [x]), v6, d, f, j, a, b, n, ?_⟩
  rw [p1]
 ·intro K t A ai hi a4 ah
  obtain ⟨q, i, d, f, j, a, b, n, p1⟩ := hi
  refine zL (zB (wR (zO 0 j rfl (zH (nQ (zS (end_retM (ds := [⟨.collected w2.heap.size, #[]⟩]) zk (Lv_mark ah ?_))))))))
  intro a5 ag
  have a := a.wrote ag (a.ne ah zi)
  refine Lv_nil [.tmp 4] [i] rfl ⟨zk, trivial⟩ ?_
  have n := n.trans (ag.below aa)
  exact ⟨q, i, rfl, a, (by rw [p1]; exact ai), (by rw [p1, ai.length_eq, List.length_map]), n⟩
 intro K c _ x A _ h; exact h.elim
theorem c_Sort12 (B_ : Nat) (a : Value) (s : List (Int)) (w : World) (hs0 : B_ ≤ w.heap.size) (b : Row w B_ 21 1 encI32 a s) (h1 : s.length ≤ 12) :
  Calls Tryz.prog 97 #[a] w (Ret fun v w' => ∃ (ys : List (Int)), v = (.tuple #[]) ∧ Row w' B_ 21 1 encI32 a ys ∧ (Sw 0 s.length s ys) ∧ (Srt ys 0 s.length) ∧ Ch (fun k => Value.ownBlock a = some k) w w') := by
 refine wG 11 func97 rfl ?_
 have l := Below.refl B_ w
 have f : B_ ≤ (World.heap w).size := hs0
 have j := Ch.refl (fun k => Value.ownBlock a = some k) w
 have c : ∀ g, Value.ownBlock a = some g → (World.heap w).size ≤ g ∨ (fun k => Value.ownBlock a = some k) g := fun g h => .inr h
 refine wR (zG (zln underlying23 (b.rd).len (zH (nQ (zW (zG (zG (zG (L_conv (k := .i64) (((s).length : Nat) : Int) (((s).length : Nat) : Int) zk underlying144 zk (wrap_u64 _ zo zo) (zc (c_bitsLen (((s).length : Nat) : Int) _ zo zo) ?_))))))))))
 rintro _ q ⟨rfl, d⟩
 have l := l.trans (d.mono f)
 replace f := Nat.le_trans f (d.size)
 have b := b.below d
 refine zc (c_pdq12 B_ a s 0 ((s).length) (Lib.bitLen (((s).length : Nat) : Int).toNat) _ f b zo zo zo zo) ?_
 replace j := j.trans2 (Ch.of_below d) (fun _ h => h.elim)
 rintro _ r ⟨m, rfl, n, o, p, i⟩
 have l := i.below l f (fun k e => (World.ownsRow.lt b k e).1)
 replace f := Nat.le_trans f i.size
 have b := n
 refine zU (znrm [] ?_)
 replace j := j.trans2 i (fun k e => c k e)
 exact ⟨m, rfl, b, za, za, j⟩
theorem c_Sorted12 (c0_seq m_rs : Nat) (rs : List (Int × (Int × Int × Int))) (w : World) (d : w.heap[c0_seq]? = some (.cells [(.map (some m_rs))].toArray 66 (0, 0))) (c : w.heap[m_rs]? = some (gmObj .i32 vBrk rs)) (hm : rs.length ≤ 12) :
  Calls Tryz.prog 59 #[(.func (.func 98) #[] #[(pt c0_seq 0)])] w (Ret fun v w' => ∃ (q0 : Value), v = q0 ∧ Row w' w.heap.size 21 1 encI32 q0 (keysB rs) ∧ Below w.heap.size w w') := by
 refine wG 9 func59 rfl ?_
 have b := Below.refl w.heap.size w
 refine wR (zH (nR (zG (L_inline 96 [(.func (.func 98) #[] #[(pt c0_seq 0)])] zk zk (wG 5 func96 rfl (wR (zH (nR (zG (zc (c_AppendSeq c0_seq m_rs rs _ d c zo) ?_))))))))))
 rintro h q ⟨p, _, rfl, a, o, m, i⟩
 have a := a.base b.size
 refine zH (nQ (zS (yC [h] ?_)))
 show L _ _ _ _ _ _ (Fm.put _ _ h) _
 have b := b.tr i
 refine zH (nR (zG (zc (c_Sort12 w.heap.size h p _ b.size a zo) ?_)))
 rintro _ r ⟨n, rfl, g, j, l, f⟩
 have b := f.below b b.size (fun k e => (World.ownsRow.lt a k e).1)
 have a := g
 exact nR (zG (zH (nQ (zS (yC [h] ⟨h, rfl, a.cast (by exact keys_sorted za za za rfl), b⟩)))))
theorem c_there_g (a : Nat) (m_rs : Nat) (rs : List (Int × (Int × Int × Int))) (b : Value) (w : World) (c : w.heap[a]? = some (.cells [(.map (some m_rs)), b].toArray 69 (0, 0))) (d : w.heap[m_rs]? = some (gmObj .i32 vBrk rs)) :
  Calls Tryz.prog 51 #[(pt a 0)] w (Ret fun v w' => v = (.bool true) ∧ Below w.heap.size w w') := by
 refine wG 12 func51 rfl ?_
 have e := Below.refl w.heap.size w
 exact wR (zH (nR (zG (zr (.bool true) (zG (zw (zG (zw (zr (pt a 0) (zw (zr (pt a 0) (zw (zO 0 c rfl (zw (zr (.bool true) (xE (zH (nQ (zS (yC [(.bool true)] ⟨rfl, e⟩))))))))))))))))))))
theorem it_Rows12 (bx_b q : Nat) (m_rs : Nat) (rs : List (Int × (Int × Int × Int))) (v : Value) (hm : rs.length ≤ 12) :
  Iter (α := Brk) Tryz.prog 58 [.pointer (some ⟨bx_b, 0, none⟩)] (fun x => [.agg #[.int .i32 x.1, .int .i32 x.2.1, .int .u8 x.2.2]]) (rowsB rs) (fun w => w.heap[bx_b]? = some (.cells [(pt q 0)].toArray 27 (0, 0)) ∧ w.heap[q]? = some (.cells [(.map (some m_rs)), v].toArray 69 (0, 0)) ∧ w.heap[m_rs]? = some (gmObj .i32 vBrk rs)) := by
 intro l J Jx w hN h0 ax ar hY
 refine wG 29 func58 rfl ?_
 have hb := Below.refl w.heap.size w
 have j : w.heap.size ≤ w.heap.size := Nat.le_refl _
 obtain ⟨c, b, a⟩ := hN
 refine yF (wR (zO 0 c rfl (zc (c_there_g q m_rs rs v _ b a) ?_)))
 rintro _ w1 ⟨rfl, u⟩
 have hb := hb.trans (u.mono j)
 replace j := Nat.le_trans j (u.size)
 have c := zA c u
 have b := zA b u
 refine wX true (nQ (zF (zQ (zB (wR (zO 0 c rfl (zr (pt q 0) (zFO 0 b rfl (L_inline 60 [(.map (some m_rs))] zk zk (wG 4 func60 rfl (wR (zN [(.map (some m_rs))] 66 ?_))))))))))))
 intro b4 w5 o
 have y := o.ge j
 have hb := hb.trans (o.below.mono j)
 replace j := Nat.le_trans j (o.below.size)
 have d := o.here
 refine zH (nR (zr (.func (.func 98) #[] #[(pt b4 0)]) (zH (nQ (zS (yC [(.func (.func 98) #[] #[(pt b4 0)])] ?_))))))
 show L _ _ _ _ _ _ (Fm.put _ _ (.func (.func 98) #[] #[(pt b4 0)])) _
 have a := zA (zA a u) o.below
 refine zc (c_Sorted12 b4 m_rs rs _ d a zo) ?_
 rintro q7 w8 ⟨_, rfl, h, t⟩
 have h := h.base j
 have hb := hb.trans (t.mono j)
 replace j := Nat.le_trans j (t.size)
 refine zln underlying23 (h.rd).len (zG (nQ (yI ?_)))
 have hJ := h0 _ hb
 obtain ⟨K, ak⟩ : ∃ K, K = w8.heap.size := ⟨_, rfl⟩
 rw [← ak] at hJ
 have hK : K ≤ w8.heap.size := by omega
 have aj : w.heap.size ≤ K := by omega
 have d := zA d t
 have r : Iv w.heap.size K b4 := ⟨y, by have := zV d; omega⟩
 have s : ∀ g, Value.ownBlock q7 = some g → Iv w.heap.size K g := fun g hg => by have := World.ownsRow.lt h g hg; exact ⟨this.1, by omega⟩
 have c := zA (zA c o.below) t
 have a := zA a t
 have b := zA (zA b o.below) t
 refine xN (fun m s0 w0 => ∃ (i : Nat) (p : List Brk), (m = (keysB rs).length - i) ∧ (s0.ds = []) ∧ ([0, 1, 13, 14, 15].map s0.f = [(.func (.yield l) #[] #[]), (pt bx_b 0), q7, (N6 (((keysB rs)).length)), (N6 i)]) ∧ (Row w0 w.heap.size 21 1 encI32 q7 (keysB rs)) ∧ (w0.heap[bx_b]? = some (.cells [(pt q 0)].toArray 27 (0, 0))) ∧ (w0.heap[q]? = some (.cells [(.map (some m_rs)), v].toArray 69 (0, 0))) ∧ (w0.heap[m_rs]? = some (gmObj .i32 vBrk rs)) ∧ (w0.heap[b4]? = some (.cells [(.map (some m_rs))].toArray 66 (0, 0))) ∧ (w.heap.size ≤ w0.heap.size) ∧ (K ≤ w0.heap.size) ∧ (J K p w0) ∧ (i ≤ (keysB rs).length) ∧ (p = (rowsB rs).take i)) _ ⟨0, [], rfl, zk, zk, h, c, b, a, d, j, hK, hJ, (Nat.zero_le _), rfl⟩ ?_
 rintro ay aw a2 ⟨i, p, hm, ae, an, h, c, b, a, d, j, hK, hJ, i1, ac⟩
 refine xK an ?_
 have au := keysB_len rs
 refine wR (nLt i (((keysB rs)).length) ?_ ?_)
 ·intro a5
  refine nW (zT (zQ (zB (yF (yI (wR ?_))))))
  have hz := yL (keysB rs) i zo; obtain ⟨n, ah⟩ := hz
  refine zE1 h.rd el23 i ah rfl fun _ => (zH (nR (zG (zO 0 c rfl (zr (pt q 0) (zFO 0 b rfl (zG (L_glook1 (k := .i32) (f := vBrk) (0, 0, 0) n rs underlying66 underlying21 zk (GmAt.of a) zk zk ?_))))))))
  have z : p ++ [(lookB rs n)] <+: (rowsB rs) := by rw [ac]; exact rows_pre za
  refine L_yield l [(Value.agg #[(I3 ((lookB rs n).1)), (I3 ((lookB rs n).2.1)), (U8 ((lookB rs n).2.2))])] zk zk (hY K p (lookB rs n) _ hJ ⟨c, b, a⟩ aj hK z) ?_
  rintro e a4 (⟨rfl, am, hk, ao⟩ | ⟨rfl, al, hk⟩)
  ·refine ⟨true, rfl, ?_⟩
   have d := (hk.same _ r).trans d
   have h := h.kp hk s
   replace j := Nat.le_trans j hk.size
   replace hK := Nat.le_trans hK hk.size
   replace hJ := am
   obtain ⟨c, b, a⟩ := ao
   refine wX true (nQ (zF (zQ (zL (zB (zW (zad i 1 (zG (zU (zB ⟨_, zo, (i + 1), (p ++ [(lookB rs n)]), rfl, ae, zk, h, c, b, a, d, j, hK, hJ, zo, ?_⟩))))))))))
   rw [ac]; exact rows_take za
  refine ⟨false, rfl, ?_⟩
  replace j := Nat.le_trans j hk.size
  replace hK := Nat.le_trans hK hk.size
  refine wX false (nQ (zT (zS (zK (zE (zE (zK (yC [] (hd := ae) ?_))))))))
  exact ⟨j, Or.inr ⟨K, _, _, z, al⟩⟩
 intro a0
 refine nW (zF (xG (yD (yD (yQ (znrm [] (hd := ae) ?_))))))
 have ai : p = (rowsB rs) := by first | (rw [ac, List.take_of_length_le (by rw [rowsB_len, ← keysB_len]; omega)]; done)
 rw [ai] at hJ
 exact ⟨j, Or.inl ⟨K, hJ⟩⟩
theorem c_Rows (a : Nat) (m_rs : Nat) (rs : List (Int × (Int × Int × Int))) (c : Value) (w : World) (i : w.heap[a]? = some (.cells [(.map (some m_rs)), c].toArray 69 (0, 0))) (h : w.heap[m_rs]? = some (gmObj .i32 vBrk rs)) :
  Calls Tryz.prog 24 #[(pt a 0)] w (Ret fun v w' => ∃ (cb0 : Nat), v = (.func (.func 58) #[] #[(pt cb0 0)]) ∧ w'.heap[cb0]? = some (.cells [(pt a 0)].toArray 27 (0, 0)) ∧ w.heap.size ≤ cb0 ∧ Below w.heap.size w w') := by
 refine wG 4 func24 rfl ?_
 have f := Below.refl w.heap.size w
 refine wR (zN [(pt a 0)] 27 ?_)
 intro g j b
 have e := b.ge f.size
 have d := b.here
 have f := f.tr b.below
 exact zH (nR (zr (.func (.func 58) #[] #[(pt g 0)]) (zH (nQ (zS (yC [(.func (.func 58) #[] #[(pt g 0)])] ⟨g, rfl, d, e, f⟩))))))
theorem c_words_Letter (c : Int) (w : World) :
  Calls Tryz.prog 43 #[(U8 c)] w (Ret fun v w' => v = (.tuple #[(S (letterS c)), (I6 (letterE c))]) ∧ Below w.heap.size w w') := by
 refine wG 11 func43 rfl ?_
 have a := Below.refl w.heap.size w
 refine wR (zH (zH (nW (wR (zG (nQ (yI (wR (wC .u8 c 0 ?_ ?_)))))))))
 ·intro g
  exact zH (nQ (zT (wR (zH (zH (nQ (zS (zK (zE (yC [(S [110]), (I6 0)] ⟨xM (congrArg S (by simp [letterS, *])) (e6 (by simp [letterE, *])), a⟩))))))))))
 intro d
 refine zH (nQ (zF (wR (wC .u8 c 1 ?_ ?_))))
 ·intro e
  exact zH (nQ (zT (wR (zH (zH (nQ (zS (zK (zE (yC [(S [111]), (I6 0)] ⟨xM (congrArg S (by simp [letterS, *])) (e6 (by simp [letterE, *])), a⟩))))))))))
 intro f
 refine zH (nQ (zF (wR (wC .u8 c 2 ?_ ?_))))
 ·intro b
  exact zH (nQ (zT (wR (zH (zH (nQ (zS (zK (zE (yC [(S [99]), (I6 0)] ⟨xM (congrArg S (by simp [letterS, *])) (e6 (by simp [letterE, *])), a⟩))))))))))
 intro h
 exact zH (nQ (zF (zQ (zL (zB (wR (zH (zH (nQ (zS (yC [(S []), (I6 2)] ⟨xM (congrArg S (by simp [letterS, *])) (e6 (by simp [letterE, *])), a⟩)))))))))))
theorem c_words_Side (s : List UInt8) (w : World) (hs : s.length ≤ 1073741824) :
  Calls Tryz.prog 76 #[(S s)] w (Ret fun v w' => v = (.tuple #[(U8 ((sideF s).1)), (I6 ((sideF s).2))]) ∧ Below w.heap.size w w') := by
 refine wG 33 func76 rfl ?_
 have c := Below.refl w.heap.size w
 refine wR (zH (zH (nW (wR (zM 3 [(S [78, 111, 110, 101]), (S [79, 112, 101, 110]), (S [67, 108, 111, 115, 101])] 9 ?_)))))
 intro o r j
 have n := j.ge c.size
 have a : Row r w.heap.size 9 1 encStr (.slice (some ⟨o, 0, none⟩) 3 3) sideTab := Row.made sideTab j n rfl rfl (by first | decide | (simp; done))
 refine zln underlying88 (a.rd).len (zG (nQ (yI ?_)))
 replace c := c.tr j.below
 refine xN (fun m s0 w0 => ∃ (k : Nat), (m = 3 - k) ∧ (s0.ds = []) ∧ ([0, 9, 10, 11].map s0.f = [(S s), (.slice (some ⟨o, 0, none⟩) 3 3), (N6 ((sideTab).length)), (N6 k)]) ∧ (Row w0 w.heap.size 9 1 encStr (.slice (some ⟨o, 0, none⟩) 3 3) sideTab) ∧ (Below w.heap.size w w0) ∧ (k ≤ 3) ∧ (sideFrom s k = sideF s)) _ ⟨0, rfl, zk, zk, a, c, by omega, rfl⟩ ?_
 rintro m4 s5 w6 ⟨k, hm, h, p, a, c, i1, i⟩
 refine xK p ?_
 have y : sideTab.length = 3 := rfl
 refine wR (nLt k ((sideTab).length) ?_ ?_)
 ·intro h7
  refine nW (zT (zQ (zB (yF (yI (wR (zG ?_)))))))
  have u := yL sideTab k zo; obtain ⟨q, l⟩ := u
  have := sideTab_len l
  have b := l
  refine zE1 a.rd el88 k l rfl fun _ => (zH (zH (nR (zG (L_conv (k := .i64) ((k : Nat) : Int) ((k : Nat) : Int) zk underlying24 zk (wrap_u8 _ zo zo) (zH (nR (zG (zc (c_words_Letter ((k : Nat) : Int) _ ) ?_)))))))))
  rintro _ t ⟨rfl, d⟩
  have := letterS_len ((k : Nat) : Int)
  refine zG (zr (S (letterS ((k : Nat) : Int))) (zr (I6 (letterE ((k : Nat) : Int))) (zH (zH (nR (zG (zG (zc (c_words_Alike s (letterS ((k : Nat) : Int)) _ zo zo) ?_))))))))
  rintro _ af ⟨rfl, e⟩
  refine zX (alikeB s (letterS ((k : Nat) : Int))) ?_ ?_
  ·intro ac
   replace c := (c.tr d).tr e
   exact zG (zs (zs (zs (xE (nQ (zT (wR (zG (zH (zH (nQ (zS (zK (zE (zE (zK (zE (yC [(U8 ((k : Nat) : Int)), (I6 0)] (hd := h) ⟨xM (eu (by (rw [← i, wO b]; simp [*]; done))) (e6 (by (rw [← i, wO b]; simp [*]; done))), c⟩))))))))))))))))))
  intro ab
  refine zG (zw (zG (zw (zG (zw (zc (c_words_Alike s q _ zo zo) ?_))))))
  rintro _ z ⟨rfl, g⟩
  refine zX (alikeB s q) ?_ ?_
  ·intro ae
   replace c := ((c.tr d).tr e).tr g
   exact xC (nQ (zT (wR (zG (zH (zH (nQ (zS (zK (zE (zE (zK (zE (yC [(U8 ((k : Nat) : Int)), (I6 0)] (hd := h) ⟨xM (eu (by (rw [← i, wO b]; simp [*]; done))) (e6 (by (rw [← i, wO b]; simp [*]; done))), c⟩))))))))))))))
  intro aa
  refine xC (nQ (zF (zQ (zL (zB (zW (zad k 1 (zG (zU ?_)))))))))
  replace c := ((c.tr d).tr e).tr g
  replace a := ((a.below d).below e).below g
  refine zB ⟨_, zo, (k + 1), rfl, h, zk, a, c, zo, ?_⟩
  rw [← i, wO b]; simp [*]
 intro ad
 exact nW (zF (xG (yD (yD (yQ (zB (wR (zH (zH (nQ (zS (yC [(U8 0), (I6 51)] (hd := h) ⟨xM (eu (by (rw [← i, sideFrom_end (k := k) zo]; done))) (e6 (by (rw [← i, sideFrom_end (k := k) zo]; done))), c⟩))))))))))))
theorem c_Write12 (ag : Nat) (m_rs : Nat) (rs : List (Int × (Int × Int × Int))) (am : Value) (w : World) (j : w.heap[ag]? = some (.cells [(.map (some m_rs)), am].toArray 69 (0, 0))) (f : w.heap[m_rs]? = some (gmObj .i32 vBrk rs)) (hm : rs.length ≤ 12) :
  Calls Tryz.prog 16 #[(pt ag 0)] w (Ret fun v w' => v = (S (writeB rs)) ∧ Below w.heap.size w w') := by
 refine enterM (args := [(pt ag 0)]) func16 rfl (zk : _ = 42) zk ?_
 have q := Below.refl w.heap.size w
 refine wR (zH (nR (zN [(.pointer none), (.slice none 0 0)] 99 ?_)))
 intro b1 w2 ar
 have aj := yE (zV f) ar
 have aw := ar.ge q.size
 have i := ar.here
 have j := zA j ar.below
 have f := zA f ar.below
 refine nW (wR (zG (zc (c_Rows ag m_rs rs am _ j f) ?_)))
 rintro _ w4 ⟨av, rfl, a, a0, a3⟩
 have q := q.tr ar.below
 replace a0 := Nat.le_trans q.size a0
 refine nQ (yI ?_)
 have j := zA j a3
 have af : ag < w4.heap.size := zV j
 have f := zA f a3
 have r : m_rs < w4.heap.size := zV f
 have i := zA i a3
 have ah : b1 < w4.heap.size := zV i
 have z : av < w4.heap.size := zV a
 have q := q.tr a3
 have a1 := q.size
 have bs := q
 refine W_range 58 [(pt av 0)] (rowsB rs) zk (fun _ _ => rfl) (it_Rows12 av ag m_rs rs am zo) ⟨a, j, f⟩ ((fun D A B h hc hd => ⟨yA h.1 hc (fun h => Nat.not_lt.2 (hd _ h) z), yA h.2.1 hc (fun h => Nat.not_lt.2 (hd _ h) af), yA h.2.2 hc (fun h => Nat.not_lt.2 (hd _ h) r)⟩)) (by intro x; rfl) (fun K a4 A => ∃ (pp : Value) (ac : List UInt8) (n : Value), (A.heap[ag]? = some (.cells [(.map (some m_rs)), am].toArray 69 (0, 0))) ∧ (A.heap[m_rs]? = some (gmObj .i32 vBrk rs)) ∧ (A.heap[b1]? = some (.cells [pp, n].toArray 99 (0, 0))) ∧ (A.heap[av]? = some (.cells [(pt ag 0)].toArray 27 (0, 0))) ∧ (Row A w.heap.size 5 1 encByt n ac) ∧ (∀ g, Value.ownBlock n = some g → ¬ Iv w4.heap.size K g) ∧ (Below w.heap.size w A) ∧ (pp = .pointer none ∨ pp = .pointer (some ⟨b1, 0, none⟩)) ∧ (ac = a4.flatMap lineB)) (fun K c a4 A => False) ?_ ?_ ?_ ?_ ?_ ?_
 ·intro A hA
  exact ⟨(.pointer none), [], (.slice none 0 0), zA j hA, zA f hA, zA i hA, zA a hA, Row.nil _ _ _ _ _, nr_nil _ _, q.trans (hA.mono q.size), by exact .inl rfl, by rfl⟩
 ·rintro K a4 A B ⟨pp, ac, n, j, f, i, a, d, m, q, rp, ra⟩ hc
  exact ⟨pp, ac, n, yA j hc (fun h => Nat.not_lt.2 h.1 af), yA f hc (fun h => Nat.not_lt.2 h.1 r), yA i hc (fun h => Nat.not_lt.2 h.1 ah), yA a hc (fun h => Nat.not_lt.2 h.1 z), d.ch hc m, m, hc.below q q.size (fun k h => Nat.le_trans a1 h.1), rp, ra⟩
 ·intro K c _ A B h hc; exact h.elim
 ·intro l K a4 x A hi hN bt hK bf
  obtain ⟨pp, ac, n, j, f, i, a, d, m, q, rp, ra⟩ := hi
  have hk := Kp.refl (w4.heap.size) K A
  have bk : ¬ Iv (w4.heap.size) K ag := fun h => Nat.not_lt.2 h.1 af
  have ax : ¬ Iv (w4.heap.size) K m_rs := fun h => Nat.not_lt.2 h.1 r
  have ay : ¬ Iv (w4.heap.size) K b1 := fun h => Nat.not_lt.2 h.1 ah
  have a2 : ¬ Iv (w4.heap.size) K av := fun h => Nat.not_lt.2 h.1 z
  have a := hN.1
  have j := hN.2.1
  have f := hN.2.2
  have b2 := wrB_len ra bf
  refine zW (zN [(I3 0), (I3 0), (U8 0)] 26 ?_)
  intro b8 w9 p
  have ai := yE (zV f) p
  have bi := p.ge q.size
  have az : ¬ Iv w4.heap.size K b8 := fun h => by have := h.2; have := p.num; omega
  replace hk := hk.ch (Ch.of_below p.below) hK (fun _ h => h.elim)
  replace hK := Nat.le_trans hK (p.below.size)
  have o := p.here
  refine wN [(I3 x.1), (I3 x.2.1), (U8 x.2.2)] o ?_
  intro b5 s
  replace hk := hk.ch (Ch.of_wrote s) hK (fun k e h => az (e ▸ h))
  replace hK := Nat.le_trans hK (Nat.le_of_eq s.size.symm)
  have j := zA j p.below
  have j := zD j s (zP j o zi)
  have i := zA i p.below
  have i := zD i s (zP i o zi)
  have a := zA a p.below
  have a := zD a s (zP a o zi)
  have d := d.below p.below
  have d := d.wrote s (d.ne o zi)
  have o := s.here
  refine zU (zB ⟨hk, ?_⟩)
  intro bo aa
  have q := (q.tr p.below).trans (s.below bi)
  have q := aa.below q q.size (fun k h => Nat.le_trans a1 h.1)
  replace hK := Nat.le_trans hK aa.size
  replace hk := Kp.refl (w4.heap.size) K bo
  have o := yA o aa az
  refine yI (wR (zFO 0 o rfl (zc (c_points_Show x.1 _ ) ?_)))
  rintro _ b0 ⟨rfl, u⟩
  replace hk := hk.ch (Ch.of_below u) hK (fun _ h => h.elim)
  replace hK := Nat.le_trans hK (u.size)
  have := showF_len x.1
  have o := zA o u
  refine zG (zr (S ((showF x.1).1)) (zr (I6 ((showF x.1).2)) (zH (zH (nR (zFO 1 o rfl (zc (c_points_Show x.2.1 _ ) ?_)))))))
  rintro _ b6 ⟨rfl, t⟩
  replace hk := hk.ch (Ch.of_below t) hK (fun _ h => h.elim)
  replace hK := Nat.le_trans hK (t.size)
  have := showF_len x.2.1
  have o := zA o t
  refine zG (zr (S ((showF x.2.1).1)) (zr (I6 ((showF x.2.1).2)) (zH (zH (nR (zFO 2 o rfl (zc (c_words_Letter x.2.2 _ ) ?_)))))))
  rintro _ bv ⟨rfl, ab⟩
  replace hk := hk.ch (Ch.of_below ab) hK (fun _ h => h.elim)
  replace hK := Nat.le_trans hK (ab.size)
  have := letterS_len x.2.2
  have q := ((q.tr u).tr t).tr ab
  have i := zA (zA (zA (yA i aa ay) u) t) ab
  have d := (((d.ch aa m).below u).below t).below ab
  refine zG (zr (S (letterS x.2.2)) (zr (I6 (letterE x.2.2)) (zH (zH (nQ (zW (zG (L_sadd ((showF x.1).1) ([59, 32] : List UInt8) (by (simp only [List.length_append, List.length_cons, List.length_nil]; omega)) zk zk (zG (L_sadd ((showF x.1).1 ++ ([59, 32] : List UInt8)) ((showF x.2.1).1) (by (simp only [List.length_append, List.length_cons, List.length_nil]; omega)) zk zk (L_sadd (((showF x.1).1 ++ ([59, 32] : List UInt8)) ++ (showF x.2.1).1) ([59, 32] : List UInt8) (by (simp only [List.length_append, List.length_cons, List.length_nil]; omega)) zk zk (zG (L_sadd ((((showF x.1).1 ++ ([59, 32] : List UInt8)) ++ (showF x.2.1).1) ++ ([59, 32] : List UInt8)) (letterS x.2.2) (by (simp only [List.length_append, List.length_cons, List.length_nil]; omega)) zk zk (L_sadd (((((showF x.1).1 ++ ([59, 32] : List UInt8)) ++ (showF x.2.1).1) ++ ([59, 32] : List UInt8)) ++ letterS x.2.2) ([10] : List UInt8) (by (simp only [List.length_append, List.length_cons, List.length_nil]; omega)) zk zk (zc (bd_WriteString b1 pp n ac ((((((showF x.1).1 ++ ([59, 32] : List UInt8)) ++ (showF x.2.1).1) ++ ([59, 32] : List UInt8)) ++ letterS x.2.2) ++ ([10] : List UInt8)) w.heap.size _ q.size i aw d za zo (by (simp only [List.length_append, List.length_cons, List.length_nil]; omega))) ?_)))))))))))))))
  rintro _ bw ⟨bg, rfl, bj, a9, bl, ad⟩
  have bb : ∀ k, Dm b1 n k → ¬ Iv (w4.heap.size) K k := fun k e => e.elim (fun x => by rw [x]; exact ay) (fun x => m k x)
  have aq : ∀ g, Value.ownBlock bg = some g → ¬ Iv (w4.heap.size) K g := fun g hg => (bl g hg).elim (fun x y => by have := y.2; omega) (fun e => bb g e)
  replace hk := hk.ch ad hK bb
  replace hK := Nat.le_trans hK ad.size
  have q := ad.below q q.size (fun k e => e.elim (fun x => x ▸ aw) (fun x => (World.ownsRow.lt d k x).1))
  have j := zA (zA (zA (yA j aa bk) u) t) ab
  have j := obj_ch_mut j ad (zP j i zi) (d.ne j zi)
  have f := zA (zA (zA (yA (zD (zA f p.below) s ai) aa ax) u) t) ab
  have f := obj_ch_mut f ad aj (d.ne f (by simp [gmObj]))
  have a := zA (zA (zA (yA a aa a2) u) t) ab
  have a := obj_ch_mut a ad (zP a i zi) (d.ne a zi)
  have i := bj
  refine zU (zL (wL hk ⟨a, j, f⟩ ⟨(pt b1 0), (ac ++ ((((((showF x.1).1 ++ ([59, 32] : List UInt8)) ++ (showF x.2.1).1) ++ ([59, 32] : List UInt8)) ++ letterS x.2.2) ++ ([10] : List UInt8))), bg, j, f, i, a, a9, aq, q, ?_, ?_⟩))
  ·exact .inr rfl
  exact wrB_step ra
 ·intro K A hi b4 ao
  obtain ⟨pp, ac, n, j, f, i, a, d, m, q, rp, ra⟩ := hi
  refine zL (zB (wR ?_))
  have bz := Bld.ofRow za i d aw (d.ne i zi)
  refine zc (bldStr (fun B b l w h hB => Tryz.Builder_String_any_k B b l w h hB) ac _ bz q.size) ?_
  rintro _ b3 ⟨rfl, bh, bd, ap⟩
  have bq := Bld.obj_kept bz ap j (by intro cs X fz e; first | (simp [mapObj] at e; done) | (simp [gmObj] at e; done) | (injection e with _ e2 _; subst e2; decide))
  have bm := Bld.obj_kept bz ap f (by intro cs X fz e; first | (simp [mapObj] at e; done) | (simp [gmObj] at e; done) | (injection e with _ e2 _; subst e2; decide))
  have bc := Bld.obj_kept bz ap a (by intro cs X fz e; first | (simp [mapObj] at e; done) | (simp [gmObj] at e; done) | (injection e with _ e2 _; subst e2; decide))
  have an := Bld.obj_kept bz ap ao (by intro cs X fz e; first | (simp [mapObj] at e; done) | (simp [gmObj] at e; done) | (injection e with _ e2 _; subst e2; decide))
  have ao := an; clear an
  replace bz := bh
  refine zH (nQ (zS (end_retM (ds := [⟨.collected w4.heap.size, #[]⟩]) zk (Lv_mark ao ?_))))
  intro bx a7
  replace bz := Bld.wrote bz a7 ao (by intro cs X fz e; first | (simp [mapObj] at e; done) | (simp [gmObj] at e; done) | (injection e with _ e2 _; subst e2; decide))
  refine Lv_nil [.tmp 2] [(S ac)] rfl ⟨zk, trivial⟩ ?_
  have q := (q.trans bd).trans (a7.below a1)
  exact ⟨congrArg S (by first | rfl | exact ra), q⟩
 intro K c _ x A _ h; exact h.elim
end Go.Proofs.YtddnhlobnembaaaGreatDoor
end

/- === An === -/
section
/- errors.As at a target of type *api.Errno, the error an api.Errno, by its own text: turned to this seat out of the worked example by my program asgen2.py. -/
namespace Go.Proofs.YtddnhlobnembaaaGreatDoor
open Go Go.RowKit Go.Extern.Stop Go.Stop Go.Extern Go.FK
theorem An.valueOf27 (t : Addr) (w : World) : (ReflectliteValue.unpack (.iface 143 (.pointer (some t)))).run Tryz.prog w
  = .ok (.agg #[.pointer (some ⟨7, 143, none⟩), .pointer (some ⟨w.heap.size, 0, none⟩), .int .u64 150]) (w.alloc (.cells #[.pointer (some t)] 143)) := by kernel_rfl
theorem An.type27 (a : Addr) (w : World) : (ReflectliteValue.methodAny (ReflectliteValue.valueError "reflectlite.Value.Type" 0) (fun t _ _ _ => ReflectliteType.toType t) #[.agg #[.pointer (some ⟨7, 143, none⟩), .pointer (some a), .int .u64 150]]).run Tryz.prog w
  = .ok (.iface 180 (.agg #[.pointer (some ⟨7, 143, none⟩)])) w := by kernel_rfl
theorem An.methodKind (h : Value) (w : World) : (Go.method 387 180 (.agg #[h]) "Kind").run Tryz.prog w = .ok (182, h) w := by kernel_rfl
theorem An.kind27 (w : World) : ((ReflectliteType.abiMethod fun t => (fun a : Nat => Value.int IntKind.u8 (a : Int)) <$> Rtype.kind t) #[.pointer (some ⟨7, 143, none⟩)]).run Tryz.prog w = .ok (.int .u8 22) w := by kernel_rfl
theorem An.kind25 (w : World) : ((ReflectliteType.abiMethod fun t => (fun a : Nat => Value.int IntKind.u8 (a : Int)) <$> Rtype.kind t) #[.pointer (some ⟨7, 28, none⟩)]).run Tryz.prog w = .ok (.int .u8 2) w := by kernel_rfl
theorem rlmN (z : Sem Value) (f : TypeId → Addr → Nat → Nat → Sem Value) (v : Value) :
  ReflectliteValue.method z f #[v] = (do match ← ReflectliteValue.parts v with | none => z | some (t, a, fl) => f t a fl (fl % 32)) := rfl
theorem An.parts27 (a : Addr) (w : World) : (ReflectliteValue.parts (.agg #[.pointer (some ⟨7, 143, none⟩), .pointer (some a), .int .u64 150])).run Tryz.prog w = .ok (some (143, a, 150)) w := by kernel_rfl
theorem An.isNil27 (a p : Addr) (W : World) (ha : W.cell? a = some (.pointer (some p))) :
  (ReflectliteValue.method (ReflectliteValue.valueError "reflectlite.Value.IsNil" 0) ReflectliteValue.isNil #[.agg #[.pointer (some ⟨7, 143, none⟩), .pointer (some a), .int .u64 150]]).run Tryz.prog W = .ok (.bool false) W := by
 rw [rlmN]
 simp only [Sem.run_bind, An.parts27, Result.andThen]
 simp [ReflectliteValue.isNil, loadVar, isAgg, underlying, Tryz.underlying143, ha, Result.andThen]
theorem An.methodElem (h : Value) (w : World) : (Go.method 387 180 (.agg #[h]) "Elem").run Tryz.prog w = .ok (208, .agg #[h]) w := by kernel_rfl
theorem An.methodImplements (h : Value) (w : World) : (Go.method 387 180 (.agg #[h]) "Implements").run Tryz.prog w = .ok (209, .agg #[h]) w := by kernel_rfl
theorem An.methodAssignableTo (h : Value) (w : World) : (Go.method 387 180 (.agg #[h]) "AssignableTo").run Tryz.prog w = .ok (206, .agg #[h]) w := by kernel_rfl
theorem An.elem27 (w : World) : (ReflectliteType.method ReflectliteType.elem #[.agg #[.pointer (some ⟨7, 143, none⟩)]]).run Tryz.prog w = .ok (.iface 180 (.agg #[.pointer (some ⟨7, 28, none⟩)])) w := by kernel_rfl
theorem An.implements25 (w : World) : (ReflectliteType.relation "Implements" ReflectliteType.implements_ #[.agg #[.pointer (some ⟨7, 28, none⟩)], .iface 180 (.agg #[.pointer (some ⟨7, 39, none⟩)])]).run Tryz.prog w = .ok (.bool true) w := by kernel_rfl
theorem An.typeOf25 (v : Value) (w : World) : (ReflectliteType.typeOf #[.iface 28 v]).run Tryz.prog w = .ok (.iface 180 (.agg #[.pointer (some ⟨7, 28, none⟩)])) w := by kernel_rfl
theorem An.assignable25 (w : World) : (ReflectliteType.relation "AssignableTo" ReflectliteType.assignableTo #[.agg #[.pointer (some ⟨7, 28, none⟩)], .iface 180 (.agg #[.pointer (some ⟨7, 28, none⟩)])]).run Tryz.prog w = .ok (.bool true) w := by kernel_rfl
theorem An.valueOf25 (e : Int) (w : World) : (ReflectliteValue.unpack (.iface 28 (.int .i64 e))).run Tryz.prog w
  = .ok (.agg #[.pointer (some ⟨7, 28, none⟩), .pointer (some ⟨w.heap.size, 0, none⟩), .int .u64 130]) (w.alloc (.cells #[.int .i64 e] 28)) := by kernel_rfl
theorem An.elemOf27 (w : World) : (Rtype.elem? 143).run Tryz.prog w = .ok (some 28) w := by kernel_rfl
theorem An.mk25 (p : Addr) (w : World) : (ReflectliteValue.mk 28 p ReflectliteValue.flagAddr).run Tryz.prog w = .ok (.agg #[.pointer (some ⟨7, 28, none⟩), .pointer (some p), .int .u64 386]) w := by kernel_rfl
theorem An.elemV27 (a p : Addr) (W : World) (ha : W.cell? a = some (.pointer (some p))) :
  (ReflectliteValue.method (ReflectliteValue.valueError "reflectlite.Value.Elem" 0) ReflectliteValue.elem #[.agg #[.pointer (some ⟨7, 143, none⟩), .pointer (some a), .int .u64 150]]).run Tryz.prog W
   = .ok (.agg #[.pointer (some ⟨7, 28, none⟩), .pointer (some p), .int .u64 386]) W := by
 rw [rlmN]
 simp only [Sem.run_bind, An.parts27, Result.andThen]
 simp [ReflectliteValue.elem, loadVar, isAgg, underlying, Tryz.underlying143, ha, Result.andThen, An.elemOf27, An.mk25]
theorem rlsN (v x : Value) : ReflectliteValue.set #[v, x] = (do
  let (some (dst, a, fl), some (src, b, _)) := (← ReflectliteValue.parts v, ← ReflectliteValue.parts x)
   | unsupported (.noEntry "extern/(internal/reflectlite.Value).Set.zeroValue")
  if fl / ReflectliteValue.flagAddr % 2 == 0 then unsupported (.noEntry "extern/(internal/reflectlite.Value).Set.unaddressable")
  let val ← loadVar src b
  if ← Rtype.directlyAssignable dst src then storeVar dst a val
  else if ← Rtype.implements dst src then
   if (← Rtype.kind src) == 20 then
    match val with
    | .nilIface => unsupported (.noEntry "extern/reflectlite: a nil value of one interface type handed on as a value of another")
    | _ => storeVar dst a val
   else storeVar dst a (.iface src val)
  else panicString ("reflectlite.Set: value of type " ++ (← Rtype.spelt src) ++ " is not assignable to type " ++ (← Rtype.spelt dst))
  pure (.tuple #[])) := rfl
theorem An.parts25a (a : Addr) (w : World) : (ReflectliteValue.parts (.agg #[.pointer (some ⟨7, 28, none⟩), .pointer (some a), .int .u64 386])).run Tryz.prog w = .ok (some (28, a, 386)) w := by kernel_rfl
theorem An.parts25 (a : Addr) (w : World) : (ReflectliteValue.parts (.agg #[.pointer (some ⟨7, 28, none⟩), .pointer (some a), .int .u64 130])).run Tryz.prog w = .ok (some (28, a, 130)) w := by kernel_rfl
theorem An.direct25 (w : World) : (Rtype.directlyAssignable 28 28).run Tryz.prog w = .ok true w := by kernel_rfl
theorem An.set25 (ta b : Addr) (e : Int) (old : Value) (W : World) (hb : W.cell? b = some (.int .i64 e)) (ht : W.cell? ta = some old) (hf : W.frozen? ta = false) :
  (ReflectliteValue.set #[.agg #[.pointer (some ⟨7, 28, none⟩), .pointer (some ta), .int .u64 386], .agg #[.pointer (some ⟨7, 28, none⟩), .pointer (some b), .int .u64 130]]).run Tryz.prog W
   = .ok (.tuple #[]) (W.setCell ta (.int .i64 e)) := by
 rw [rlsN]
 simp only [Sem.run_bind, An.parts25a, An.parts25, Result.andThen]
 simp [ReflectliteValue.flagAddr, loadVar, isAgg, underlying, Tryz.underlying28, hb, Result.andThen, An.direct25, storeVar, Value.cells, storeCells, Addr.add]
 rw [run_store Tryz.prog W ta _ _ (by rfl)]
 simp [ht, hf]
set_option maxHeartbeats 4000000 in
theorem an_hit (e : Int) (t : Addr) (old : Value) (w : World) (hg : w.cell? ⟨0, 0, none⟩ = some (.iface 180 (.agg #[.pointer (some ⟨7, 39, none⟩)]))) (ht0 : w.cell? t = some old) (hf0 : w.frozen? t = false) :
  Calls Tryz.prog 49 #[.iface 28 (.int .i64 e), .iface 143 (.pointer (some t))] w fun ev w' => ev = .returned (.bool true) ∧ w' = ((((w.alloc (.cells #[.pointer (some t)] 143)).alloc (.cells #[.pointer (some ⟨7, 143, none⟩), .pointer (some ⟨w.heap.size, 0, none⟩), .int .u64 150] 156)).alloc (.cells #[.pointer (some ⟨7, 143, none⟩), .pointer (some ⟨w.heap.size, 0, none⟩), .int .u64 150] 156)).alloc (.cells #[.int .i64 e] 28)).setCell t (.int .i64 e) := by
 have z := @run_callFunc_extern Tryz.prog 88 _ (fun args => ReflectliteValue.unpack (args.getD 0 (.tuple #[]))) Tryz.func88 (by kernel_rfl) (by kernel_rfl) (by kernel_rfl) (by kernel_rfl)
 have r := @run_callFunc_extern Tryz.prog 89 _ (ReflectliteValue.methodAny (ReflectliteValue.valueError "reflectlite.Value.Type" 0) (fun t _ _ _ => ReflectliteType.toType t)) Tryz.func89 (by kernel_rfl) (by kernel_rfl) (by kernel_rfl) (by kernel_rfl)
 have u := @run_callFunc_extern Tryz.prog 90 _ (ReflectliteValue.method (ReflectliteValue.valueError "reflectlite.Value.IsNil" 0) ReflectliteValue.isNil) Tryz.func90 (by kernel_rfl) (by kernel_rfl) (by kernel_rfl) (by kernel_rfl)
 have m := @run_callFunc_extern Tryz.prog 182 _ (ReflectliteType.abiMethod fun t => do pure (.int .u8 (← Rtype.kind t))) Tryz.func182 (by kernel_rfl) (by kernel_rfl) (by kernel_rfl) (by kernel_rfl)
 have n := @run_callFunc_extern Tryz.prog 208 _ (ReflectliteType.method ReflectliteType.elem) Tryz.func208 (by kernel_rfl) (by kernel_rfl) (by kernel_rfl) (by kernel_rfl)
 have a := @run_callFunc_extern Tryz.prog 209 _ (ReflectliteType.relation "Implements" ReflectliteType.implements_) Tryz.func209 (by kernel_rfl) (by kernel_rfl) (by kernel_rfl) (by kernel_rfl)
 have p := @run_callFunc_extern Tryz.prog 92 _ ReflectliteType.typeOf Tryz.func92 (by kernel_rfl) (by kernel_rfl) (by kernel_rfl) (by kernel_rfl)
 have l := @run_callFunc_extern Tryz.prog 206 _ (ReflectliteType.relation "AssignableTo" ReflectliteType.assignableTo) Tryz.func206 (by kernel_rfl) (by kernel_rfl) (by kernel_rfl) (by kernel_rfl)
 have q := @run_callFunc_extern Tryz.prog 110 _ (ReflectliteValue.method (ReflectliteValue.valueError "reflectlite.Value.Elem" 0) ReflectliteValue.elem) Tryz.func110 (by kernel_rfl) (by kernel_rfl) (by kernel_rfl) (by kernel_rfl)
 have j := @run_callFunc_extern Tryz.prog 111 _ ReflectliteValue.set Tryz.func111 (by kernel_rfl) (by kernel_rfl) (by kernel_rfl) (by kernel_rfl)
 have tO := An.typeOf25
 have mA := An.methodAssignableTo
 have c := An.assignable25
 have o := An.valueOf25
 have y := An.valueOf27
 have s := An.type27
 have mK := An.methodKind
 have mE := An.methodElem
 have mI := An.methodImplements
 have d := An.kind27
 have i := An.kind25
 have g := An.elem27
 have f := An.implements25
 have v := An.isNil27 ⟨w.heap.size, 0, none⟩ t ((w.alloc (.cells #[.pointer (some t)] 143)).alloc (.cells #[.pointer (some ⟨7, 143, none⟩), .pointer (some ⟨w.heap.size, 0, none⟩), .int .u64 150] 156)) (by simp)
 have hlt : 0 < w.heap.size := by
  rcases Nat.eq_zero_or_pos w.heap.size with b | h
  ·simp [World.cell?, b] at hg
  ·exact h
 have k : ((w.alloc (.cells #[.pointer (some t)] 143)).alloc (.cells #[.pointer (some ⟨7, 143, none⟩), .pointer (some ⟨w.heap.size, 0, none⟩), .int .u64 150] 156)).cell? ⟨0, 0, none⟩ = some (.iface 180 (.agg #[.pointer (some ⟨7, 39, none⟩)])) := by
  rw [World.cell?_alloc_lt _ _ ⟨0, 0, none⟩ (by simp), World.cell?_alloc_lt _ _ ⟨0, 0, none⟩ hlt]; exact hg
 have htl : t.block < w.heap.size := by
  rcases Nat.lt_or_ge t.block w.heap.size with h | h
  ·exact h
  ·simp [World.cell?, Array.getElem?_eq_none h] at ht0
 have el := An.elemV27 ⟨w.heap.size, 0, none⟩ t (((w.alloc (.cells #[.pointer (some t)] 143)).alloc (.cells #[.pointer (some ⟨7, 143, none⟩), .pointer (some ⟨w.heap.size, 0, none⟩), .int .u64 150] 156)).alloc (.cells #[.pointer (some ⟨7, 143, none⟩), .pointer (some ⟨w.heap.size, 0, none⟩), .int .u64 150] 156)) (by rw [World.cell?_alloc_lt _ _ ⟨w.heap.size, 0, none⟩ (by simp; omega)]; simp)
 have st := An.set25 t ⟨w.heap.size + 1 + 1 + 1, 0, none⟩ e old ((((w.alloc (.cells #[.pointer (some t)] 143)).alloc (.cells #[.pointer (some ⟨7, 143, none⟩), .pointer (some ⟨w.heap.size, 0, none⟩), .int .u64 150] 156)).alloc (.cells #[.pointer (some ⟨7, 143, none⟩), .pointer (some ⟨w.heap.size, 0, none⟩), .int .u64 150] 156)).alloc (.cells #[.int .i64 e] 28))
  (by rw [World.cell?_alloc_at _ _ _ _ (by simp)]; rfl)
  (by rw [World.cell?_alloc_lt _ _ t (by simp; omega), World.cell?_alloc_lt _ _ t (by simp; omega), World.cell?_alloc_lt _ _ t (by simp; omega), World.cell?_alloc_lt _ _ t htl]; exact ht0)
  (by rw [World.frozen?_alloc_old _ _ t (by simp; omega), World.frozen?_alloc_old _ _ t (by simp; omega), World.frozen?_alloc_old _ _ t (by simp; omega), World.frozen?_alloc_old _ _ t (Nat.ne_of_lt htl)]; exact hf0)
 go_enter Tryz.func49, Tryz.ntmps49
 go_wp2
 refine wp_loop_rounds 1 ?_
 rw [rounds_succ]
 go_wp2
 go_ret
 exact ⟨rfl, rfl⟩
theorem an_fk (e : Int) (t : Nat) (old : Value) (w : World) (hg : w.cell? ⟨0, 0, none⟩ = some (.iface 180 (.agg #[.pointer (some ⟨7, 39, none⟩)]))) (ht : w.heap[t]? = some (.cells [old].toArray 28 (0, 0))) :
  Calls Tryz.prog 49 #[.iface 28 (.int .i64 e), .iface 143 (.pointer (some ⟨t, 0, none⟩))] w (Ret fun v w' => v = .bool true ∧ ∃ w1, Below w.heap.size w w1 ∧ Wrote w1 w' t (.cells [.int .i64 e].toArray 28 (0, 0))) := by
 have hc : w.cell? ⟨t, 0, none⟩ = some old := by simp [World.cell?, ht]
 have hf : w.frozen? ⟨t, 0, none⟩ = false := by simp [World.frozen?, ht]
 refine (an_hit e ⟨t, 0, none⟩ old w hg hc hf).mono ?_
 rintro ev w' ⟨rfl, rfl⟩
 have hlt := zV ht
 have hb : Below w.heap.size w ((((w.alloc (.cells #[.pointer (some ⟨t, 0, none⟩)] 143)).alloc (.cells #[.pointer (some ⟨7, 143, none⟩), .pointer (some ⟨w.heap.size, 0, none⟩), .int .u64 150] 156)).alloc (.cells #[.pointer (some ⟨7, 143, none⟩), .pointer (some ⟨w.heap.size, 0, none⟩), .int .u64 150] 156)).alloc (.cells #[.int .i64 e] 28)) :=
  ((((Below.refl _ _).alloc (Nat.le_refl _) _).alloc (by simp) _).alloc (by simp; omega) _).alloc (by simp; omega) _
 have a := zA ht hb
 refine ⟨_, rfl, rfl, _, hb, ⟨rfl, rfl, rfl, by simp [World.setCell], ?_, fun k hk => Below.heap_setCell _ _ _ _ hk⟩⟩
 generalize (((w.alloc _).alloc _).alloc _).alloc _ = w4 at a ⊢
 obtain ⟨b, c⟩ := Array.getElem?_eq_some_iff.1 a
 show (w4.heap.modify t _)[t]? = _
 rw [Array.getElem?_eq_getElem (by rw [Array.size_modify]; exact b), Array.getElem_modify_self, c]
 simp
end Go.Proofs.YtddnhlobnembaaaGreatDoor
end

/- === Wcb4 === -/
section
/- Walks, written by my program walk.py out of the specification cb4.py: each theorem says what one function returns and that it leaves memory as it was. -/
namespace Go.Proofs.YtddnhlobnembaaaGreatDoor
open Go Go.RowKit Go.FK _root_.Go.Proofs.Tryz
set_option maxHeartbeats 4000000
set_option maxRecDepth 100000
theorem el79 : Elem Tryz.prog 79 3 1 8 := ⟨underlying79, zk, rfl⟩
theorem c_itoa2 (n : Int) (w : World) (hn0 : 0 ≤ n ∧ n < 100) :
  Calls Tryz.prog 186 #[(I6 n)] w (Ret fun v w' => v = (S (dg2 n)) ∧ Below w.heap.size w w') :=
 itoa2 Tryz.strconv_Itoa_small n w hn0
theorem c_Errno_Error (e : Int) (w : World) (he0 : 0 ≤ e ∧ e < 100) :
  Calls Tryz.prog 185 #[(I6 e)] w (Ret fun v w' => v = (S (errD e)) ∧ Below w.heap.size w w') := by
 refine wG 6 func185 rfl ?_
 have a := Below.refl w.heap.size w
 refine wR (zH (nR (zG (zc (c_itoa2 e _ zo) ?_))))
 rintro _ c ⟨rfl, b⟩
 have := dg2_len e
 have a := a.tr b
 exact L_sadd ([101, 114, 114, 111, 114, 32] : List UInt8) (dg2 e) (by (simp only [List.length_append, List.length_cons, List.length_nil]; omega)) zk zk (zH (nQ (zS (yC [(S (([101, 114, 114, 111, 114, 32] : List UInt8) ++ (dg2 e)))] ⟨congrArg S (by rfl), a⟩))))
theorem c_Fault_Error (a : Nat) (fl : List UInt8) (ln : Int) (cd : Int) (w : World) (m : w.heap[a]? = some (.cells [(S fl), (I6 ln), (I6 cd)].toArray 85 (0, 0))) (hf : fl.length ≤ 1073741824) (hl0 : 0 ≤ ln ∧ ln < 100) (hc0 : 0 ≤ cd ∧ cd < 100) :
  Calls Tryz.prog 199 #[(pt a 0)] w (Ret fun v w' => v = (S (fltD fl ln cd)) ∧ Below w.heap.size w w') := by
 refine wG 41 func199 rfl ?_
 have l := Below.refl w.heap.size w
 have i6 := dg2_len ln
 have i3 := errD_len cd
 refine wR (zH (nW (wR (zG (zr (.bool false) (nQ (zF (zQ (zB (yF (wR (zG (zr (pt a 0) (zFO 0 m rfl (L_seq fl ([] : List UInt8) rfl zk zk ?_ ?_)))))))))))))))
 ·intro h1
  refine nQ (zT (yF (W_invL 13 14 1 [10, 11, 12, 13, 14, 15, 16, 17, 18, 19, 20, 21, 22] [(fun v _ => v = (pt a 0)), (fun v _ => v = (pt a 0)), (fun v _ => v = (pt a 1)), (fun v _ => v = (I6 ln)), (fun v _ => v = (S (dg2 ln))), (fun v _ => v = (S (([108, 105, 110, 101, 32] : List UInt8) ++ (dg2 ln)))), (fun v _ => v = (S ((([108, 105, 110, 101, 32] : List UInt8) ++ (dg2 ln)) ++ ([58, 32] : List UInt8)))), (fun v _ => v = (pt a 0)), (fun v _ => v = (pt a 0)), (fun v _ => v = (pt a 2)), (fun v _ => v = (I6 cd)), (fun v _ => v = (S (errD cd))), (fun v _ => v = (S (((([108, 105, 110, 101, 32] : List UInt8) ++ (dg2 ln)) ++ ([58, 32] : List UInt8)) ++ (errD cd))))] zk zk zk zk zk zk zk zk ⟨(fun v A B h l => h), (fun v A B h l => h), (fun v A B h l => h), (fun v A B h l => h), (fun v A B h l => h), (fun v A B h l => h), (fun v A B h l => h), (fun v A B h l => h), (fun v A B h l => h), (fun v A B h l => h), (fun v A B h l => h), (fun v A B h l => h), (fun v A B h l => h), trivial⟩ ?_ ?_)))
  ·intro w3 j
   refine ⟨?_, ?_, ?_, ?_, ?_, ?_, ?_, ?_, ?_, ?_, ?_, ?_, ?_, trivial⟩
   ·skip
    intro s4 w5 f3 i4 gu i5 Z10 ev
    have ic := j.trans (f3.mono j.size)
    have n : s4.f 0 = (pt a 0) := (gu 0 zk).trans zk
    have d : (s4.put (some 0) (pt a 0)) = s4 := by rw [yM n]
    rw [← d]
    have c := Below.refl w5.heap.size w5
    refine zG (zU ?_)
    exact ⟨rfl, ev _ _ c (xB.trans (congrArg Fm.ds d)) (fun t ht => (yK ht).trans (congrArg (fun q => q.f t) d)) (show Fm.f _ _ = _ from by kernel_rfl)⟩
   ·skip
    intro dv fh e6 hw im fd Z19 e9
    have h5 := j.trans (e6.mono j.size)
    have aq : dv.f 10 = (pt a 0) := fd 0 zk
    have d : (dv.put (some 10) (pt a 0)) = dv := by rw [yM aq]
    rw [← d]
    have c := Below.refl fh.heap.size fh
    refine zr (pt a 0) (zU ?_)
    exact ⟨rfl, e9 _ _ c (xB.trans (congrArg Fm.ds d)) (fun t ht => (yK ht).trans (congrArg (fun q => q.f t) d)) (show Fm.f _ _ = _ from by kernel_rfl)⟩
   ·skip
    intro eo fc fu ia i0 fx Z28 fm
    have h4 := j.trans (fu.mono j.size)
    have ae : eo.f 11 = (pt a 0) := fx 1 zk
    have d : (eo.put (some 11) (pt a 0)) = eo := by rw [yM ae]
    rw [← d]
    have c := Below.refl fc.heap.size fc
    refine zr (pt a 1) (zU ?_)
    exact ⟨rfl, fm _ _ c (xB.trans (congrArg Fm.ds d)) (fun t ht => (yK ht).trans (congrArg (fun q => q.f t) d)) (show Fm.f _ _ = _ from by kernel_rfl)⟩
   ·skip
    intro cx e0 ez h8 h6 es Z37 ft
    have fi := j.trans (ez.mono j.size)
    have z : cx.f 12 = (pt a 1) := es 2 zk
    have d : (cx.put (some 12) (pt a 1)) = cx := by rw [yM z]
    rw [← d]
    have c := Below.refl e0.heap.size e0
    have m := zA m fi
    refine zO 1 m rfl (zU ?_)
    exact ⟨rfl, ft _ _ c (xB.trans (congrArg Fm.ds d)) (fun t ht => (yK ht).trans (congrArg (fun q => q.f t) d)) (show Fm.f _ _ = _ from by kernel_rfl)⟩
   ·skip
    intro cz e5 fj i2 ix fp Z46 fn
    have h9 := j.trans (fj.mono j.size)
    have ah : cz.f 13 = (I6 ln) := fp 3 zk
    have d : (cz.put (some 13) (I6 ln)) = cz := by rw [yM ah]
    rw [← d]
    have c := Below.refl e5.heap.size e5
    refine zc (c_itoa2 ln _ (by first | omega | (simp; omega))) ?_
    rintro _ i7 ⟨rfl, e3⟩
    replace c := c.trans (e3.mono c.size)
    have := dg2_len ln
    refine zU ?_
    exact ⟨rfl, fn _ _ c (xB.trans (congrArg Fm.ds d)) (fun t ht => (yK ht).trans (congrArg (fun q => q.f t) d)) (show Fm.f _ _ = _ from by kernel_rfl)⟩
   ·skip
    intro c1 ey et hx h0 fg Z58 ex
    have ij := j.trans (et.mono j.size)
    have au : c1.f 14 = (S (dg2 ln)) := fg 4 zk
    have d : (c1.put (some 14) (S (dg2 ln))) = c1 := by rw [yM au]
    rw [← d]
    have c := Below.refl ey.heap.size ey
    refine L_sadd ([108, 105, 110, 101, 32] : List UInt8) (dg2 ln) (by (simp only [List.length_append, List.length_cons, List.length_nil]; omega)) zk zk (zU ?_)
    exact ⟨rfl, ex _ _ c (xB.trans (congrArg Fm.ds d)) (fun t ht => (yK ht).trans (congrArg (fun q => q.f t) d)) (show Fm.f _ _ = _ from by kernel_rfl)⟩
   ·skip
    intro cu fq fw iu i1 e1 Z67 fy
    have ie := j.trans (fw.mono j.size)
    have ai : cu.f 15 = (S (([108, 105, 110, 101, 32] : List UInt8) ++ (dg2 ln))) := e1 5 zk
    have d : (cu.put (some 15) (S (([108, 105, 110, 101, 32] : List UInt8) ++ (dg2 ln)))) = cu := by rw [yM ai]
    rw [← d]
    have c := Below.refl fq.heap.size fq
    refine L_sadd (([108, 105, 110, 101, 32] : List UInt8) ++ (dg2 ln)) ([58, 32] : List UInt8) (by (simp only [List.length_append, List.length_cons, List.length_nil]; omega)) zk zk (zU ?_)
    exact ⟨rfl, fy _ _ c (xB.trans (congrArg Fm.ds d)) (fun t ht => (yK ht).trans (congrArg (fun q => q.f t) d)) (show Fm.f _ _ = _ from by kernel_rfl)⟩
   ·skip
    intro cn fe ff ik fs hy Z76 fv
    have iy := j.trans (ff.mono j.size)
    have n : cn.f 0 = (pt a 0) := (fs 0 zk).trans zk
    have d : (cn.put (some 0) (pt a 0)) = cn := by rw [yM n]
    rw [← d]
    have c := Below.refl fe.heap.size fe
    refine zG (zU ?_)
    exact ⟨rfl, fv _ _ c (xB.trans (congrArg Fm.ds d)) (fun t ht => (yK ht).trans (congrArg (fun q => q.f t) d)) (show Fm.f _ _ = _ from by kernel_rfl)⟩
   ·skip
    intro dx e8 fo hz id fb Z85 e4
    have iq := j.trans (fo.mono j.size)
    have aj : dx.f 17 = (pt a 0) := fb 7 zk
    have d : (dx.put (some 17) (pt a 0)) = dx := by rw [yM aj]
    rw [← d]
    have c := Below.refl e8.heap.size e8
    refine zr (pt a 0) (zU ?_)
    exact ⟨rfl, e4 _ _ c (xB.trans (congrArg Fm.ds d)) (fun t ht => (yK ht).trans (congrArg (fun q => q.f t) d)) (show Fm.f _ _ = _ from by kernel_rfl)⟩
   ·skip
    intro d7 ew e7 ih iw fr Z94 fa
    have ii := j.trans (e7.mono j.size)
    have s : d7.f 18 = (pt a 0) := fr 8 zk
    have d : (d7.put (some 18) (pt a 0)) = d7 := by rw [yM s]
    rw [← d]
    have c := Below.refl ew.heap.size ew
    refine zr (pt a 2) (zU ?_)
    exact ⟨rfl, fa _ _ c (xB.trans (congrArg Fm.ds d)) (fun t ht => (yK ht).trans (congrArg (fun q => q.f t) d)) (show Fm.f _ _ = _ from by kernel_rfl)⟩
   ·skip
    intro cs fk eu hj gh ce Z103 dd
    have dr := j.trans (eu.mono j.size)
    have ad : cs.f 19 = (pt a 2) := ce 9 zk
    have d : (cs.put (some 19) (pt a 2)) = cs := by rw [yM ad]
    rw [← d]
    have c := Below.refl fk.heap.size fk
    have m := zA m dr
    refine zO 2 m rfl (zU ?_)
    exact ⟨rfl, dd _ _ c (xB.trans (congrArg Fm.ds d)) (fun t ht => (yK ht).trans (congrArg (fun q => q.f t) d)) (show Fm.f _ _ = _ from by kernel_rfl)⟩
   ·skip
    intro bb b7 dy f4 hi d9 Z112 c6
    have g8 := j.trans (dy.mono j.size)
    have ac : bb.f 20 = (I6 cd) := d9 10 zk
    have d : (bb.put (some 20) (I6 cd)) = bb := by rw [yM ac]
    rw [← d]
    have c := Below.refl b7.heap.size b7
    refine zc (c_Errno_Error cd _ (by first | omega | (simp; omega))) ?_
    rintro _ h7 ⟨rfl, cc⟩
    replace c := c.trans (cc.mono c.size)
    have := errD_len cd
    refine zU ?_
    exact ⟨rfl, c6 _ _ c (xB.trans (congrArg Fm.ds d)) (fun t ht => (yK ht).trans (congrArg (fun q => q.f t) d)) (show Fm.f _ _ = _ from by kernel_rfl)⟩
   skip
   intro a0 b6 cq fz hu bm Z124 cv
   have hr := j.trans (cq.mono j.size)
   have r : a0.f 16 = (S ((([108, 105, 110, 101, 32] : List UInt8) ++ (dg2 ln)) ++ ([58, 32] : List UInt8))) := bm 6 zk
   have ar : a0.f 21 = (S (errD cd)) := bm 11 zk
   have d : ((a0.put (some 16) (S ((([108, 105, 110, 101, 32] : List UInt8) ++ (dg2 ln)) ++ ([58, 32] : List UInt8)))).put (some 21) (S (errD cd))) = a0 := by rw [yM r, yM ar]
   rw [← d]
   have c := Below.refl b6.heap.size b6
   refine L_sadd ((([108, 105, 110, 101, 32] : List UInt8) ++ (dg2 ln)) ++ ([58, 32] : List UInt8)) (errD cd) (by (simp only [List.length_append, List.length_cons, List.length_nil]; omega)) zk zk (zU ?_)
   exact ⟨rfl, cv _ _ c (xB.trans (congrArg Fm.ds d)) (fun t ht => (yK ht).trans (congrArg (fun q => q.f t) d)) (show Fm.f _ _ = _ from by kernel_rfl)⟩
  skip
  intro h2 k h3 a3 ef c3 c9 i
  have eb := a3.trans (ef.mono a3.size)
  have aq : k.f 10 = (pt a 0) := i 0 zo
  have ae : k.f 11 = (pt a 0) := i 1 zo
  have z : k.f 12 = (pt a 1) := i 2 zo
  have ah : k.f 13 = (I6 ln) := i 3 zo
  have au : k.f 14 = (S (dg2 ln)) := i 4 zo
  have ai : k.f 15 = (S (([108, 105, 110, 101, 32] : List UInt8) ++ (dg2 ln))) := i 5 zo
  have r : k.f 16 = (S ((([108, 105, 110, 101, 32] : List UInt8) ++ (dg2 ln)) ++ ([58, 32] : List UInt8))) := i 6 zo
  have aj : k.f 17 = (pt a 0) := i 7 zo
  have s : k.f 18 = (pt a 0) := i 8 zo
  have ad : k.f 19 = (pt a 2) := i 9 zo
  have ac : k.f 20 = (I6 cd) := i 10 zo
  have ar : k.f 21 = (S (errD cd)) := i 11 zo
  have bz : k.f 22 = (S (((([108, 105, 110, 101, 32] : List UInt8) ++ (dg2 ln)) ++ ([58, 32] : List UInt8)) ++ (errD cd))) := i 12 zo
  have b9 := frm_eq [10, 11, 12, 13, 14, 15, 16, 17, 18, 19, 20, 21, 22] [(pt a 0), (pt a 0), (pt a 1), (I6 ln), (S (dg2 ln)), (S (([108, 105, 110, 101, 32] : List UInt8) ++ (dg2 ln))), (S ((([108, 105, 110, 101, 32] : List UInt8) ++ (dg2 ln)) ++ ([58, 32] : List UInt8))), (pt a 0), (pt a 0), (pt a 2), (I6 cd), (S (errD cd)), (S (((([108, 105, 110, 101, 32] : List UInt8) ++ (dg2 ln)) ++ ([58, 32] : List UInt8)) ++ (errD cd)))] rfl c3 c9 ⟨aq, ae, z, ah, au, ai, r, aj, s, ad, ac, ar, bz, trivial⟩
  rw [b9]
  clear b9 aq ae z ah au ai r aj s ad ac ar bz
  refine ip 13 rfl (S (((([108, 105, 110, 101, 32] : List UInt8) ++ (dg2 ln)) ++ ([58, 32] : List UInt8)) ++ (errD cd))) (I_done zk ?_)
  have l := l.tr eb
  exact zB (zS (zE (yC [(S (((([108, 105, 110, 101, 32] : List UInt8) ++ (dg2 ln)) ++ ([58, 32] : List UInt8)) ++ (errD cd)))] ⟨congrArg S (by (unfold fltD; rw [if_pos za]; done)), l⟩)))
 intro il
 refine nQ (zF (zQ (zB (yF (W_invL 18 19 1 [23, 24, 25, 26, 27, 28, 29, 30, 31, 32, 33, 34, 35, 36, 37, 38, 39, 40] [(fun v _ => v = (pt a 0)), (fun v _ => v = (pt a 0)), (fun v _ => v = (pt a 0)), (fun v _ => v = (S fl)), (fun v _ => v = (S (fl ++ ([58] : List UInt8)))), (fun v _ => v = (pt a 0)), (fun v _ => v = (pt a 0)), (fun v _ => v = (pt a 1)), (fun v _ => v = (I6 ln)), (fun v _ => v = (S (dg2 ln))), (fun v _ => v = (S ((fl ++ ([58] : List UInt8)) ++ (dg2 ln)))), (fun v _ => v = (S (((fl ++ ([58] : List UInt8)) ++ (dg2 ln)) ++ ([58, 32] : List UInt8)))), (fun v _ => v = (pt a 0)), (fun v _ => v = (pt a 0)), (fun v _ => v = (pt a 2)), (fun v _ => v = (I6 cd)), (fun v _ => v = (S (errD cd))), (fun v _ => v = (S ((((fl ++ ([58] : List UInt8)) ++ (dg2 ln)) ++ ([58, 32] : List UInt8)) ++ (errD cd))))] zk zk zk zk zk zk zk zk ⟨(fun v A B h l => h), (fun v A B h l => h), (fun v A B h l => h), (fun v A B h l => h), (fun v A B h l => h), (fun v A B h l => h), (fun v A B h l => h), (fun v A B h l => h), (fun v A B h l => h), (fun v A B h l => h), (fun v A B h l => h), (fun v A B h l => h), (fun v A B h l => h), (fun v A B h l => h), (fun v A B h l => h), (fun v A B h l => h), (fun v A B h l => h), (fun v A B h l => h), trivial⟩ ?_ ?_)))))
 ·intro ig b
  refine ⟨?_, ?_, ?_, ?_, ?_, ?_, ?_, ?_, ?_, ?_, ?_, ?_, ?_, ?_, ?_, ?_, ?_, ?_, trivial⟩
  ·skip
   intro bk b0 cf gx ep g7 Z146 d8
   have ho := b.trans (cf.mono b.size)
   have n : bk.f 0 = (pt a 0) := (ep 0 zk).trans zk
   have d : (bk.put (some 0) (pt a 0)) = bk := by rw [yM n]
   rw [← d]
   have c := Below.refl b0.heap.size b0
   refine zG (zU ?_)
   exact ⟨rfl, d8 _ _ c (xB.trans (congrArg Fm.ds d)) (fun t ht => (yK ht).trans (congrArg (fun q => q.f t) d)) (show Fm.f _ _ = _ from by kernel_rfl)⟩
  ·skip
   intro a7 b3 dm f5 hp dt Z155 df
   have hh := b.trans (dm.mono b.size)
   have ao : a7.f 23 = (pt a 0) := dt 0 zk
   have d : (a7.put (some 23) (pt a 0)) = a7 := by rw [yM ao]
   rw [← d]
   have c := Below.refl b3.heap.size b3
   refine zr (pt a 0) (zU ?_)
   exact ⟨rfl, df _ _ c (xB.trans (congrArg Fm.ds d)) (fun t ht => (yK ht).trans (congrArg (fun q => q.f t) d)) (show Fm.f _ _ = _ from by kernel_rfl)⟩
  ·skip
   intro bc b2 dk gy gi d5 Z164 d1
   have gk := b.trans (dk.mono b.size)
   have aw : bc.f 24 = (pt a 0) := d5 1 zk
   have d : (bc.put (some 24) (pt a 0)) = bc := by rw [yM aw]
   rw [← d]
   have c := Below.refl b2.heap.size b2
   refine zr (pt a 0) (zU ?_)
   exact ⟨rfl, d1 _ _ c (xB.trans (congrArg Fm.ds d)) (fun t ht => (yK ht).trans (congrArg (fun q => q.f t) d)) (show Fm.f _ _ = _ from by kernel_rfl)⟩
  ·skip
   intro bi bo ct gp f0 d6 Z173 c4
   have co := b.trans (ct.mono b.size)
   have af : bi.f 25 = (pt a 0) := d6 2 zk
   have d : (bi.put (some 25) (pt a 0)) = bi := by rw [yM af]
   rw [← d]
   have c := Below.refl bo.heap.size bo
   have m := zA m co
   refine zO 0 m rfl (zU ?_)
   exact ⟨rfl, c4 _ _ c (xB.trans (congrArg Fm.ds d)) (fun t ht => (yK ht).trans (congrArg (fun q => q.f t) d)) (show Fm.f _ _ = _ from by kernel_rfl)⟩
  ·skip
   intro a4 b1 da gz f8 cr Z182 cl
   have f2 := b.trans (da.mono b.size)
   have am : a4.f 26 = (S fl) := cr 3 zk
   have d : (a4.put (some 26) (S fl)) = a4 := by rw [yM am]
   rw [← d]
   have c := Below.refl b1.heap.size b1
   refine L_sadd fl ([58] : List UInt8) (by (simp only [List.length_append, List.length_cons, List.length_nil]; omega)) zk zk (zU ?_)
   exact ⟨rfl, cl _ _ c (xB.trans (congrArg Fm.ds d)) (fun t ht => (yK ht).trans (congrArg (fun q => q.f t) d)) (show Fm.f _ _ = _ from by kernel_rfl)⟩
  ·skip
   intro a2 b5 dq hl ec hv Z191 dc
   have gl := b.trans (dq.mono b.size)
   have n : a2.f 0 = (pt a 0) := (ec 0 zk).trans zk
   have d : (a2.put (some 0) (pt a 0)) = a2 := by rw [yM n]
   rw [← d]
   have c := Below.refl b5.heap.size b5
   refine zG (zU ?_)
   exact ⟨rfl, dc _ _ c (xB.trans (congrArg Fm.ds d)) (fun t ht => (yK ht).trans (congrArg (fun q => q.f t) d)) (show Fm.f _ _ = _ from by kernel_rfl)⟩
  ·skip
   intro bl bq el hn gm cm Z200 ck
   have f1 := b.trans (el.mono b.size)
   have av : bl.f 28 = (pt a 0) := cm 5 zk
   have d : (bl.put (some 28) (pt a 0)) = bl := by rw [yM av]
   rw [← d]
   have c := Below.refl bq.heap.size bq
   refine zr (pt a 0) (zU ?_)
   exact ⟨rfl, ck _ _ c (xB.trans (congrArg Fm.ds d)) (fun t ht => (yK ht).trans (congrArg (fun q => q.f t) d)) (show Fm.f _ _ = _ from by kernel_rfl)⟩
  ·skip
   intro a1 bw c7 gc hk dn Z209 cg
   have hm := b.trans (c7.mono b.size)
   have p : a1.f 29 = (pt a 0) := dn 6 zk
   have d : (a1.put (some 29) (pt a 0)) = a1 := by rw [yM p]
   rw [← d]
   have c := Below.refl bw.heap.size bw
   refine zr (pt a 1) (zU ?_)
   exact ⟨rfl, cg _ _ c (xB.trans (congrArg Fm.ds d)) (fun t ht => (yK ht).trans (congrArg (fun q => q.f t) d)) (show Fm.f _ _ = _ from by kernel_rfl)⟩
  ·skip
   intro bh bu ei go gw d0 Z218 eh
   have d3 := b.trans (ei.mono b.size)
   have az : bh.f 30 = (pt a 1) := d0 7 zk
   have d : (bh.put (some 30) (pt a 1)) = bh := by rw [yM az]
   rw [← d]
   have c := Below.refl bu.heap.size bu
   have m := zA m d3
   refine zO 1 m rfl (zU ?_)
   exact ⟨rfl, eh _ _ c (xB.trans (congrArg Fm.ds d)) (fun t ht => (yK ht).trans (congrArg (fun q => q.f t) d)) (show Fm.f _ _ = _ from by kernel_rfl)⟩
  ·skip
   intro a9 b4 cw gj gd dh Z227 dp
   have hg := b.trans (cw.mono b.size)
   have ap : a9.f 31 = (I6 ln) := dh 8 zk
   have d : (a9.put (some 31) (I6 ln)) = a9 := by rw [yM ap]
   rw [← d]
   have c := Below.refl b4.heap.size b4
   refine zc (c_itoa2 ln _ (by first | omega | (simp; omega))) ?_
   rintro _ iv ⟨rfl, en⟩
   replace c := c.trans (en.mono c.size)
   have := dg2_len ln
   refine zU ?_
   exact ⟨rfl, dp _ _ c (xB.trans (congrArg Fm.ds d)) (fun t ht => (yK ht).trans (congrArg (fun q => q.f t) d)) (show Fm.f _ _ = _ from by kernel_rfl)⟩
  ·skip
   intro y bt du g3 he bg Z239 cj
   have g1 := b.trans (du.mono b.size)
   have ay : y.f 27 = (S (fl ++ ([58] : List UInt8))) := bg 4 zk
   have u : y.f 32 = (S (dg2 ln)) := bg 9 zk
   have d : ((y.put (some 27) (S (fl ++ ([58] : List UInt8)))).put (some 32) (S (dg2 ln))) = y := by rw [yM ay, yM u]
   rw [← d]
   have c := Below.refl bt.heap.size bt
   refine L_sadd (fl ++ ([58] : List UInt8)) (dg2 ln) (by (simp only [List.length_append, List.length_cons, List.length_nil]; omega)) zk zk (zU ?_)
   exact ⟨rfl, cj _ _ c (xB.trans (congrArg Fm.ds d)) (fun t ht => (yK ht).trans (congrArg (fun q => q.f t) d)) (show Fm.f _ _ = _ from by kernel_rfl)⟩
  ·skip
   intro ba br cy gb ha er Z248 cp
   have g0 := b.trans (cy.mono b.size)
   have ag : ba.f 33 = (S ((fl ++ ([58] : List UInt8)) ++ (dg2 ln))) := er 10 zk
   have d : (ba.put (some 33) (S ((fl ++ ([58] : List UInt8)) ++ (dg2 ln)))) = ba := by rw [yM ag]
   rw [← d]
   have c := Below.refl br.heap.size br
   refine L_sadd ((fl ++ ([58] : List UInt8)) ++ (dg2 ln)) ([58, 32] : List UInt8) (by (simp only [List.length_append, List.length_cons, List.length_nil]; omega)) zk zk (zU ?_)
   exact ⟨rfl, cp _ _ c (xB.trans (congrArg Fm.ds d)) (fun t ht => (yK ht).trans (congrArg (fun q => q.f t) d)) (show Fm.f _ _ = _ from by kernel_rfl)⟩
  ·skip
   intro a8 bp dw g6 eg f6 Z257 d4
   have f7 := b.trans (dw.mono b.size)
   have n : a8.f 0 = (pt a 0) := (eg 0 zk).trans zk
   have d : (a8.put (some 0) (pt a 0)) = a8 := by rw [yM n]
   rw [← d]
   have c := Below.refl bp.heap.size bp
   refine zG (zU ?_)
   exact ⟨rfl, d4 _ _ c (xB.trans (congrArg Fm.ds d)) (fun t ht => (yK ht).trans (congrArg (fun q => q.f t) d)) (show Fm.f _ _ = _ from by kernel_rfl)⟩
  ·skip
   intro a5 bn ee gf hs ea Z266 de
   have f9 := b.trans (ee.mono b.size)
   have o : a5.f 35 = (pt a 0) := ea 12 zk
   have d : (a5.put (some 35) (pt a 0)) = a5 := by rw [yM o]
   rw [← d]
   have c := Below.refl bn.heap.size bn
   refine zr (pt a 0) (zU ?_)
   exact ⟨rfl, de _ _ c (xB.trans (congrArg Fm.ds d)) (fun t ht => (yK ht).trans (congrArg (fun q => q.f t) d)) (show Fm.f _ _ = _ from by kernel_rfl)⟩
  ·skip
   intro a6 ca em gg g5 ek Z275 d2
   have g2 := b.trans (em.mono b.size)
   have aa : a6.f 36 = (pt a 0) := ek 13 zk
   have d : (a6.put (some 36) (pt a 0)) = a6 := by rw [yM aa]
   rw [← d]
   have c := Below.refl ca.heap.size ca
   refine zr (pt a 2) (zU ?_)
   exact ⟨rfl, d2 _ _ c (xB.trans (congrArg Fm.ds d)) (fun t ht => (yK ht).trans (congrArg (fun q => q.f t) d)) (show Fm.f _ _ = _ from by kernel_rfl)⟩
  ·skip
   intro bj bx c0 g9 gn c2 Z284 c5
   have dg := b.trans (c0.mono b.size)
   have an : bj.f 37 = (pt a 2) := c2 14 zk
   have d : (bj.put (some 37) (pt a 2)) = bj := by rw [yM an]
   rw [← d]
   have c := Below.refl bx.heap.size bx
   have m := zA m dg
   refine zO 2 m rfl (zU ?_)
   exact ⟨rfl, c5 _ _ c (xB.trans (congrArg Fm.ds d)) (fun t ht => (yK ht).trans (congrArg (fun q => q.f t) d)) (show Fm.f _ _ = _ from by kernel_rfl)⟩
  ·skip
   intro be cb dj hc gq ci Z293 ej
   have ga := b.trans (dj.mono b.size)
   have ak : be.f 38 = (I6 cd) := ci 15 zk
   have d : (be.put (some 38) (I6 cd)) = be := by rw [yM ak]
   rw [← d]
   have c := Below.refl cb.heap.size cb
   refine zc (c_Errno_Error cd _ (by first | omega | (simp; omega))) ?_
   rintro _ ir ⟨rfl, c8⟩
   replace c := c.trans (c8.mono c.size)
   have := errD_len cd
   refine zU ?_
   exact ⟨rfl, ej _ _ c (xB.trans (congrArg Fm.ds d)) (fun t ht => (yK ht).trans (congrArg (fun q => q.f t) d)) (show Fm.f _ _ = _ from by kernel_rfl)⟩
  skip
  intro al bs ed gr gs bf Z305 dl
  have gv := b.trans (ed.mono b.size)
  have ax : al.f 34 = (S (((fl ++ ([58] : List UInt8)) ++ (dg2 ln)) ++ ([58, 32] : List UInt8))) := bf 11 zk
  have ab : al.f 39 = (S (errD cd)) := bf 16 zk
  have d : ((al.put (some 34) (S (((fl ++ ([58] : List UInt8)) ++ (dg2 ln)) ++ ([58, 32] : List UInt8)))).put (some 39) (S (errD cd))) = al := by rw [yM ax, yM ab]
  rw [← d]
  have c := Below.refl bs.heap.size bs
  refine L_sadd (((fl ++ ([58] : List UInt8)) ++ (dg2 ln)) ++ ([58, 32] : List UInt8)) (errD cd) (by (simp only [List.length_append, List.length_cons, List.length_nil]; omega)) zk zk (zU ?_)
  exact ⟨rfl, dl _ _ c (xB.trans (congrArg Fm.ds d)) (fun t ht => (yK ht).trans (congrArg (fun q => q.f t) d)) (show Fm.f _ _ = _ from by kernel_rfl)⟩
 skip
 intro iz g io bd di dz ch e
 have db := bd.trans (di.mono bd.size)
 have ao : g.f 23 = (pt a 0) := e 0 zo
 have aw : g.f 24 = (pt a 0) := e 1 zo
 have af : g.f 25 = (pt a 0) := e 2 zo
 have am : g.f 26 = (S fl) := e 3 zo
 have ay : g.f 27 = (S (fl ++ ([58] : List UInt8))) := e 4 zo
 have av : g.f 28 = (pt a 0) := e 5 zo
 have p : g.f 29 = (pt a 0) := e 6 zo
 have az : g.f 30 = (pt a 1) := e 7 zo
 have ap : g.f 31 = (I6 ln) := e 8 zo
 have u : g.f 32 = (S (dg2 ln)) := e 9 zo
 have ag : g.f 33 = (S ((fl ++ ([58] : List UInt8)) ++ (dg2 ln))) := e 10 zo
 have ax : g.f 34 = (S (((fl ++ ([58] : List UInt8)) ++ (dg2 ln)) ++ ([58, 32] : List UInt8))) := e 11 zo
 have o : g.f 35 = (pt a 0) := e 12 zo
 have aa : g.f 36 = (pt a 0) := e 13 zo
 have an : g.f 37 = (pt a 2) := e 14 zo
 have ak : g.f 38 = (I6 cd) := e 15 zo
 have ab : g.f 39 = (S (errD cd)) := e 16 zo
 have bv : g.f 40 = (S ((((fl ++ ([58] : List UInt8)) ++ (dg2 ln)) ++ ([58, 32] : List UInt8)) ++ (errD cd))) := e 17 zo
 have b8 := frm_eq [23, 24, 25, 26, 27, 28, 29, 30, 31, 32, 33, 34, 35, 36, 37, 38, 39, 40] [(pt a 0), (pt a 0), (pt a 0), (S fl), (S (fl ++ ([58] : List UInt8))), (pt a 0), (pt a 0), (pt a 1), (I6 ln), (S (dg2 ln)), (S ((fl ++ ([58] : List UInt8)) ++ (dg2 ln))), (S (((fl ++ ([58] : List UInt8)) ++ (dg2 ln)) ++ ([58, 32] : List UInt8))), (pt a 0), (pt a 0), (pt a 2), (I6 cd), (S (errD cd)), (S ((((fl ++ ([58] : List UInt8)) ++ (dg2 ln)) ++ ([58, 32] : List UInt8)) ++ (errD cd)))] rfl dz ch ⟨ao, aw, af, am, ay, av, p, az, ap, u, ag, ax, o, aa, an, ak, ab, bv, trivial⟩
 rw [b8]
 clear b8 ao aw af am ay av p az ap u ag ax o aa an ak ab bv
 refine ip 18 rfl (S ((((fl ++ ([58] : List UInt8)) ++ (dg2 ln)) ++ ([58, 32] : List UInt8)) ++ (errD cd))) (I_done zk ?_)
 have l := l.tr db
 exact zB (zS (yC [(S ((((fl ++ ([58] : List UInt8)) ++ (dg2 ln)) ++ ([58, 32] : List UInt8)) ++ (errD cd)))] ⟨congrArg S (by (unfold fltD; rw [if_neg za]; done)), l⟩))
theorem c_read_ok (no : Int) (k : Int) (m : List UInt8) (aa : Value) (f : List (List UInt8)) (t : List UInt8) (w : World) (e : Rd w encStr aa f) (hf : ∀ x ∈ f, x.length ≤ 1073741824) (hn : f.length ≤ 1073741824) (hok : (readB k f).2.2 = 0) :
  Calls Tryz.prog 40 #[(Value.agg #[(I6 no), (U8 k), (S m), aa, (S t)])] w (Ret fun v w' => v = (.tuple #[(Value.agg #[(I3 ((readB k f).1.1)), (I3 ((readB k f).1.2.1)), (U8 ((readB k f).1.2.2))]), (.bool ((readB k f).2.1)), .nilIface]) ∧ Below w.heap.size w w') := by
 refine wG 67 func40 rfl ?_
 have n := Below.refl w.heap.size w
 refine wR (zN [(I6 no), (U8 k), (S m), aa, (S t)] 90 ?_)
 intro b1 w2 o
 have ak := o.ge n.size
 have b := o.here
 refine zN [(I3 0), (I3 0), (U8 0)] 26 ?_
 intro z w5 j
 have n := n.tr o.below
 have y := j.ge n.size
 have a := j.here
 have b := zA b j.below
 refine zH (zH (nW (wR (zFO 1 b rfl (nQ (yI (wR (wC .u8 k 2 ?_ ?_))))))))
 ·intro h7
  refine zH (nQ (zT (wR (zr (Value.agg #[(I3 0), (I3 0), (U8 0)]) (zr (.iface 28 (I6 80)) (wN [(I3 0), (I3 0), (U8 0)] a ?_))))))
  intro w8 aj
  have a := aj.here
  refine zH (zH (nQ (zS (zK (zE (xA [.cell 2 26, .tmp 3, .tmp 4] [(Value.agg #[(I3 0), (I3 0), (U8 0)]), (.bool false), (.iface 28 (I6 80))] rfl rfl ⟨⟨⟨z, 0, none⟩, zk, yV [(I3 0), (I3 0), (U8 0)] zk zk (yS a)⟩, zk, zk, trivial⟩ ?_))))))
  exfalso; first | (rw [rd_order za] at hok; first | exact absurd hok za | exact absurd hok (by decide)) | (rw [rd_few za za] at hok; first | exact absurd hok za | exact absurd hok (by decide)) | (rw [rd_none za za] at hok; first | exact absurd hok za | exact absurd hok (by decide)) | (rw [rd_a za za za za] at hok; first | exact absurd hok za | exact absurd hok (by decide)) | (rw [rd_b za za za za za za] at hok; first | exact absurd hok za | exact absurd hok (by decide)) | (rw [rd_s za za za za za za za za] at hok; first | exact absurd hok za | exact absurd hok (by decide)) | (rw [rd_ok za za za za za za za za] at hok; first | exact absurd hok za | exact absurd hok (by decide))
 intro a5
 refine zH (nQ (zF (wR (wC .u8 k 1 ?_ ?_))))
 ·intro a6
  have e := (e.below o.below).below j.below
  refine zH (nQ (zT (wR (zFO 3 b rfl (zln underlying88 (e).len (nNe ((f).length) 3 ?_ ?_))))))
  ·intro aw
   refine nQ (zT (wR (zr (Value.agg #[(I3 0), (I3 0), (U8 0)]) (zr (.iface 28 (I6 80)) (wN [(I3 0), (I3 0), (U8 0)] a ?_)))))
   intro av ac
   have a := ac.here
   refine zH (zH (nQ (zS (zK (zE (xA [.cell 2 26, .tmp 3, .tmp 4] [(Value.agg #[(I3 0), (I3 0), (U8 0)]), (.bool false), (.iface 28 (I6 80))] rfl rfl ⟨⟨⟨z, 0, none⟩, zk, yV [(I3 0), (I3 0), (U8 0)] zk zk (yS a)⟩, zk, zk, trivial⟩ ?_))))))
   exfalso; first | (rw [rd_order za] at hok; first | exact absurd hok za | exact absurd hok (by decide)) | (rw [rd_few za za] at hok; first | exact absurd hok za | exact absurd hok (by decide)) | (rw [rd_none za za] at hok; first | exact absurd hok za | exact absurd hok (by decide)) | (rw [rd_a za za za za] at hok; first | exact absurd hok za | exact absurd hok (by decide)) | (rw [rd_b za za za za za za] at hok; first | exact absurd hok za | exact absurd hok (by decide)) | (rw [rd_s za za za za za za za za] at hok; first | exact absurd hok za | exact absurd hok (by decide)) | (rw [rd_ok za za za za za za za za] at hok; first | exact absurd hok za | exact absurd hok (by decide))
  intro am
  refine nQ (zF (zQ (zL (zB (wR (zFO 3 b rfl ?_))))))
  have hz := yL f 0 zo; obtain ⟨d, s⟩ := hz
  have af := hf _ (List.mem_of_getElem? s)
  refine zE1 e el88 0 s rfl fun _ => (zc (c_points_Hex d _ zo) ?_)
  rintro _ au ⟨rfl, c⟩
  refine zG (zr (I3 ((hexF d).1)) (zr (I6 ((hexF d).2)) (zH (zH (nW (wR (zG (zNe .i64 ((hexF d).2) 0 ?_ ?_))))))))
  ·intro a2
   have a := zA a c
   refine nQ (zT (wR (zr (Value.agg #[(I3 0), (I3 0), (U8 0)]) (zG (zr (.iface 28 (I6 ((hexF d).2))) (wN [(I3 0), (I3 0), (U8 0)] a ?_))))))
   intro an ab
   have a := ab.here
   refine zH (zH (nQ (zS (zE (xA [.cell 2 26, .tmp 3, .tmp 4] [(Value.agg #[(I3 0), (I3 0), (U8 0)]), (.bool false), (.iface 28 (I6 ((hexF d).2)))] rfl rfl ⟨⟨⟨z, 0, none⟩, zk, yV [(I3 0), (I3 0), (U8 0)] zk zk (yS a)⟩, zk, zk, trivial⟩ ?_)))))
   exfalso; first | (rw [rd_order za] at hok; first | exact absurd hok za | exact absurd hok (by decide)) | (rw [rd_few za za] at hok; first | exact absurd hok za | exact absurd hok (by decide)) | (rw [rd_none za za] at hok; first | exact absurd hok za | exact absurd hok (by decide)) | (rw [rd_a za za za za] at hok; first | exact absurd hok za | exact absurd hok (by decide)) | (rw [rd_b za za za za za za] at hok; first | exact absurd hok za | exact absurd hok (by decide)) | (rw [rd_s za za za za za za za za] at hok; first | exact absurd hok za | exact absurd hok (by decide)) | (rw [rd_ok za za za za za za za za] at hok; first | exact absurd hok za | exact absurd hok (by decide))
  intro ao
  have b := zA b c
  refine nQ (zF (zQ (zB (wR (zFO 3 b rfl ?_)))))
  have hz := yL f 1 zo; obtain ⟨g, r⟩ := hz
  have ad := hf _ (List.mem_of_getElem? r)
  have e := e.below c
  refine zE1 e el88 1 r rfl fun _ => (zc (c_points_Hex g _ zo) ?_)
  rintro _ a3 ⟨rfl, i⟩
  refine zG (zr (I3 ((hexF g).1)) (zr (I6 ((hexF g).2)) (zH (zH (nW (wR (zG (zNe .i64 ((hexF g).2) 0 ?_ ?_))))))))
  ·intro al
   have a := zA (zA a c) i
   refine nQ (zT (wR (zr (Value.agg #[(I3 0), (I3 0), (U8 0)]) (zG (zr (.iface 28 (I6 ((hexF g).2))) (wN [(I3 0), (I3 0), (U8 0)] a ?_))))))
   intro az ag
   have a := ag.here
   refine zH (zH (nQ (zS (zE (xA [.cell 2 26, .tmp 3, .tmp 4] [(Value.agg #[(I3 0), (I3 0), (U8 0)]), (.bool false), (.iface 28 (I6 ((hexF g).2)))] rfl rfl ⟨⟨⟨z, 0, none⟩, zk, yV [(I3 0), (I3 0), (U8 0)] zk zk (yS a)⟩, zk, zk, trivial⟩ ?_)))))
   exfalso; first | (rw [rd_order za] at hok; first | exact absurd hok za | exact absurd hok (by decide)) | (rw [rd_few za za] at hok; first | exact absurd hok za | exact absurd hok (by decide)) | (rw [rd_none za za] at hok; first | exact absurd hok za | exact absurd hok (by decide)) | (rw [rd_a za za za za] at hok; first | exact absurd hok za | exact absurd hok (by decide)) | (rw [rd_b za za za za za za] at hok; first | exact absurd hok za | exact absurd hok (by decide)) | (rw [rd_s za za za za za za za za] at hok; first | exact absurd hok za | exact absurd hok (by decide)) | (rw [rd_ok za za za za za za za za] at hok; first | exact absurd hok za | exact absurd hok (by decide))
  intro a1
  have b := zA b i
  refine nQ (zF (zQ (zB (wR (zFO 3 b rfl ?_)))))
  have hz := yL f 2 zo; obtain ⟨h, p⟩ := hz
  have ai := hf _ (List.mem_of_getElem? p)
  have e := e.below i
  refine zE1 e el88 2 p rfl fun _ => (zc (c_words_Side h _ zo) ?_)
  rintro _ ay ⟨rfl, l⟩
  refine zG (zr (U8 ((sideF h).1)) (zr (I6 ((sideF h).2)) (zH (zH (nW (wR (zG (zNe .i64 ((sideF h).2) 0 ?_ ?_))))))))
  ·intro ar
   have a := zA (zA (zA a c) i) l
   refine nQ (zT (wR (zr (Value.agg #[(I3 0), (I3 0), (U8 0)]) (zG (zr (.iface 28 (I6 ((sideF h).2))) (wN [(I3 0), (I3 0), (U8 0)] a ?_))))))
   intro ax ah
   have a := ah.here
   refine zH (zH (nQ (zS (zE (xA [.cell 2 26, .tmp 3, .tmp 4] [(Value.agg #[(I3 0), (I3 0), (U8 0)]), (.bool false), (.iface 28 (I6 ((sideF h).2)))] rfl rfl ⟨⟨⟨z, 0, none⟩, zk, yV [(I3 0), (I3 0), (U8 0)] zk zk (yS a)⟩, zk, zk, trivial⟩ ?_)))))
   exfalso; first | (rw [rd_order za] at hok; first | exact absurd hok za | exact absurd hok (by decide)) | (rw [rd_few za za] at hok; first | exact absurd hok za | exact absurd hok (by decide)) | (rw [rd_none za za] at hok; first | exact absurd hok za | exact absurd hok (by decide)) | (rw [rd_a za za za za] at hok; first | exact absurd hok za | exact absurd hok (by decide)) | (rw [rd_b za za za za za za] at hok; first | exact absurd hok za | exact absurd hok (by decide)) | (rw [rd_s za za za za za za za za] at hok; first | exact absurd hok za | exact absurd hok (by decide)) | (rw [rd_ok za za za za za za za za] at hok; first | exact absurd hok za | exact absurd hok (by decide))
  intro a0
  have a := zA (zA (zA a c) i) l
  refine nQ (zF (zQ (zB (wR (zG (zG (zG (zr (Value.agg #[(I3 ((hexF d).1)), (I3 ((hexF g).1)), (U8 ((sideF h).1))]) (wN [(I3 ((hexF d).1)), (I3 ((hexF g).1)), (U8 ((sideF h).1))] a ?_)))))))))
  intro aq q
  have a := q.here
  refine zH (zH (nQ (zS (xA [.cell 2 26, .tmp 3, .tmp 4] [(Value.agg #[(I3 ((hexF d).1)), (I3 ((hexF g).1)), (U8 ((sideF h).1))]), (.bool true), .nilIface] rfl rfl ⟨⟨⟨z, 0, none⟩, zk, yV [(I3 ((hexF d).1)), (I3 ((hexF g).1)), (U8 ((sideF h).1))] zk zk (yS a)⟩, zk, zk, trivial⟩ ?_))))
  have n := ((((n.tr j.below).tr c).tr i).tr l).trans (q.below y)
  exact ⟨qA (by (rw [rd_ok za za za za za za za za]; done)) (eb (by (rw [rd_ok za za za za za za za za]; done))) rfl, n⟩
 intro ap
 refine zH (nQ (zF (wR (zr (Value.agg #[(I3 0), (I3 0), (U8 0)]) (wN [(I3 0), (I3 0), (U8 0)] a ?_)))))
 intro a4 u
 have a := u.here
 refine zH (zH (nQ (zS (zK (zE (xA [.cell 2 26, .tmp 3, .tmp 4] [(Value.agg #[(I3 0), (I3 0), (U8 0)]), (.bool false), .nilIface] rfl rfl ⟨⟨⟨z, 0, none⟩, zk, yV [(I3 0), (I3 0), (U8 0)] zk zk (yS a)⟩, zk, zk, trivial⟩ ?_))))))
 have n := (n.tr j.below).trans (u.below y)
 exact ⟨qA (by (rw [rd_none za za]; done)) (eb (by (rw [rd_none za za]; done))) rfl, n⟩
theorem c_read_bad (no : Int) (k : Int) (m : List UInt8) (ad : Value) (f : List (List UInt8)) (t : List UInt8) (w : World) (g : Rd w encStr ad f) (hf : ∀ x ∈ f, x.length ≤ 1073741824) (hn : f.length ≤ 1073741824) (hbad : (readB k f).2.2 ≠ 0) :
  Calls Tryz.prog 40 #[(Value.agg #[(I6 no), (U8 k), (S m), ad, (S t)])] w (Ret fun v w' => v = (.tuple #[(Value.agg #[(I3 0), (I3 0), (U8 0)]), (.bool false), (.iface 28 (I6 ((readB k f).2.2)))]) ∧ Below w.heap.size w w') := by
 refine wG 67 func40 rfl ?_
 have l := Below.refl w.heap.size w
 refine wR (zN [(I6 no), (U8 k), (S m), ad, (S t)] 90 ?_)
 intro b1 w2 p
 have al := p.ge l.size
 have b := p.here
 refine zN [(I3 0), (I3 0), (U8 0)] 26 ?_
 intro b4 w5 j
 have l := l.tr p.below
 have n := j.ge l.size
 have a := j.here
 have b := zA b j.below
 refine zH (zH (nW (wR (zFO 1 b rfl (nQ (yI (wR (wC .u8 k 2 ?_ ?_))))))))
 ·intro h7
  refine zH (nQ (zT (wR (zr (Value.agg #[(I3 0), (I3 0), (U8 0)]) (zr (.iface 28 (I6 80)) (wN [(I3 0), (I3 0), (U8 0)] a ?_))))))
  intro w8 ag
  have a := ag.here
  refine zH (zH (nQ (zS (zK (zE (xA [.cell 2 26, .tmp 3, .tmp 4] [(Value.agg #[(I3 0), (I3 0), (U8 0)]), (.bool false), (.iface 28 (I6 80))] rfl rfl ⟨⟨⟨b4, 0, none⟩, zk, yV [(I3 0), (I3 0), (U8 0)] zk zk (yS a)⟩, zk, zk, trivial⟩ ?_))))))
  have l := (l.tr j.below).trans (ag.below n)
  exact ⟨qA rfl rfl (congrArg (fun z => Value.iface 28 (I6 z)) (by (rw [rd_order za]; done))), l⟩
 intro a6
 refine zH (nQ (zF (wR (wC .u8 k 1 ?_ ?_))))
 ·intro a7
  have g := (g.below p.below).below j.below
  refine zH (nQ (zT (wR (zFO 3 b rfl (zln underlying88 (g).len (nNe ((f).length) 3 ?_ ?_))))))
  ·intro ax
   refine nQ (zT (wR (zr (Value.agg #[(I3 0), (I3 0), (U8 0)]) (zr (.iface 28 (I6 80)) (wN [(I3 0), (I3 0), (U8 0)] a ?_)))))
   intro aw r
   have a := r.here
   refine zH (zH (nQ (zS (zK (zE (xA [.cell 2 26, .tmp 3, .tmp 4] [(Value.agg #[(I3 0), (I3 0), (U8 0)]), (.bool false), (.iface 28 (I6 80))] rfl rfl ⟨⟨⟨b4, 0, none⟩, zk, yV [(I3 0), (I3 0), (U8 0)] zk zk (yS a)⟩, zk, zk, trivial⟩ ?_))))))
   have l := (l.tr j.below).trans (r.below n)
   exact ⟨qA rfl rfl (congrArg (fun z => Value.iface 28 (I6 z)) (by (rw [rd_few za za]; done))), l⟩
  intro an
  refine nQ (zF (zQ (zL (zB (wR (zFO 3 b rfl ?_))))))
  have hz := yL f 0 zo; obtain ⟨e, y⟩ := hz
  have ai := hf _ (List.mem_of_getElem? y)
  refine zE1 g el88 0 y rfl fun _ => (zc (c_points_Hex e _ zo) ?_)
  rintro _ av ⟨rfl, c⟩
  refine zG (zr (I3 ((hexF e).1)) (zr (I6 ((hexF e).2)) (zH (zH (nW (wR (zG (zNe .i64 ((hexF e).2) 0 ?_ ?_))))))))
  ·intro a3
   have a := zA a c
   refine nQ (zT (wR (zr (Value.agg #[(I3 0), (I3 0), (U8 0)]) (zG (zr (.iface 28 (I6 ((hexF e).2))) (wN [(I3 0), (I3 0), (U8 0)] a ?_))))))
   intro ao q
   have a := q.here
   refine zH (zH (nQ (zS (zE (xA [.cell 2 26, .tmp 3, .tmp 4] [(Value.agg #[(I3 0), (I3 0), (U8 0)]), (.bool false), (.iface 28 (I6 ((hexF e).2)))] rfl rfl ⟨⟨⟨b4, 0, none⟩, zk, yV [(I3 0), (I3 0), (U8 0)] zk zk (yS a)⟩, zk, zk, trivial⟩ ?_)))))
   have l := ((l.tr j.below).tr c).trans (q.below n)
   exact ⟨qA rfl rfl (congrArg (fun z => Value.iface 28 (I6 z)) (by (rw [rd_a za za za za]; done))), l⟩
  intro ap
  have b := zA b c
  refine nQ (zF (zQ (zB (wR (zFO 3 b rfl ?_)))))
  have hz := yL f 1 zo; obtain ⟨h, u⟩ := hz
  have ae := hf _ (List.mem_of_getElem? u)
  have g := g.below c
  refine zE1 g el88 1 u rfl fun _ => (zc (c_points_Hex h _ zo) ?_)
  rintro _ a4 ⟨rfl, d⟩
  refine zG (zr (I3 ((hexF h).1)) (zr (I6 ((hexF h).2)) (zH (zH (nW (wR (zG (zNe .i64 ((hexF h).2) 0 ?_ ?_))))))))
  ·intro am
   have a := zA (zA a c) d
   refine nQ (zT (wR (zr (Value.agg #[(I3 0), (I3 0), (U8 0)]) (zG (zr (.iface 28 (I6 ((hexF h).2))) (wN [(I3 0), (I3 0), (U8 0)] a ?_))))))
   intro a0 aa
   have a := aa.here
   refine zH (zH (nQ (zS (zE (xA [.cell 2 26, .tmp 3, .tmp 4] [(Value.agg #[(I3 0), (I3 0), (U8 0)]), (.bool false), (.iface 28 (I6 ((hexF h).2)))] rfl rfl ⟨⟨⟨b4, 0, none⟩, zk, yV [(I3 0), (I3 0), (U8 0)] zk zk (yS a)⟩, zk, zk, trivial⟩ ?_)))))
   have l := (((l.tr j.below).tr c).tr d).trans (aa.below n)
   exact ⟨qA rfl rfl (congrArg (fun z => Value.iface 28 (I6 z)) (by (rw [rd_b za za za za za za]; done))), l⟩
  intro a2
  have b := zA b d
  refine nQ (zF (zQ (zB (wR (zFO 3 b rfl ?_)))))
  have hz := yL f 2 zo; obtain ⟨i, s⟩ := hz
  have ak := hf _ (List.mem_of_getElem? s)
  have g := g.below d
  refine zE1 g el88 2 s rfl fun _ => (zc (c_words_Side i _ zo) ?_)
  rintro _ az ⟨rfl, o⟩
  refine zG (zr (U8 ((sideF i).1)) (zr (I6 ((sideF i).2)) (zH (zH (nW (wR (zG (zNe .i64 ((sideF i).2) 0 ?_ ?_))))))))
  ·intro au
   have a := zA (zA (zA a c) d) o
   refine nQ (zT (wR (zr (Value.agg #[(I3 0), (I3 0), (U8 0)]) (zG (zr (.iface 28 (I6 ((sideF i).2))) (wN [(I3 0), (I3 0), (U8 0)] a ?_))))))
   intro ay ab
   have a := ab.here
   refine zH (zH (nQ (zS (zE (xA [.cell 2 26, .tmp 3, .tmp 4] [(Value.agg #[(I3 0), (I3 0), (U8 0)]), (.bool false), (.iface 28 (I6 ((sideF i).2)))] rfl rfl ⟨⟨⟨b4, 0, none⟩, zk, yV [(I3 0), (I3 0), (U8 0)] zk zk (yS a)⟩, zk, zk, trivial⟩ ?_)))))
   have l := ((((l.tr j.below).tr c).tr d).tr o).trans (ab.below n)
   exact ⟨qA rfl rfl (congrArg (fun z => Value.iface 28 (I6 z)) (by (rw [rd_s za za za za za za za za]; done))), l⟩
  intro a1
  have a := zA (zA (zA a c) d) o
  refine nQ (zF (zQ (zB (wR (zG (zG (zG (zr (Value.agg #[(I3 ((hexF e).1)), (I3 ((hexF h).1)), (U8 ((sideF i).1))]) (wN [(I3 ((hexF e).1)), (I3 ((hexF h).1)), (U8 ((sideF i).1))] a ?_)))))))))
  intro ar af
  have a := af.here
  refine zH (zH (nQ (zS (xA [.cell 2 26, .tmp 3, .tmp 4] [(Value.agg #[(I3 ((hexF e).1)), (I3 ((hexF h).1)), (U8 ((sideF i).1))]), (.bool true), .nilIface] rfl rfl ⟨⟨⟨b4, 0, none⟩, zk, yV [(I3 ((hexF e).1)), (I3 ((hexF h).1)), (U8 ((sideF i).1))] zk zk (yS a)⟩, zk, zk, trivial⟩ ?_))))
  exfalso; first | (rw [rd_order za] at hbad; exact hbad rfl) | (rw [rd_few za za] at hbad; exact hbad rfl) | (rw [rd_none za za] at hbad; exact hbad rfl) | (rw [rd_a za za za za] at hbad; exact hbad rfl) | (rw [rd_b za za za za za za] at hbad; exact hbad rfl) | (rw [rd_s za za za za za za za za] at hbad; exact hbad rfl) | (rw [rd_ok za za za za za za za za] at hbad; exact hbad rfl)
 intro aq
 refine zH (nQ (zF (wR (zr (Value.agg #[(I3 0), (I3 0), (U8 0)]) (wN [(I3 0), (I3 0), (U8 0)] a ?_)))))
 intro a5 aj
 have a := aj.here
 refine zH (zH (nQ (zS (zK (zE (xA [.cell 2 26, .tmp 3, .tmp 4] [(Value.agg #[(I3 0), (I3 0), (U8 0)]), (.bool false), .nilIface] rfl rfl ⟨⟨⟨b4, 0, none⟩, zk, yV [(I3 0), (I3 0), (U8 0)] zk zk (yS a)⟩, zk, zk, trivial⟩ ?_))))))
 exfalso; first | (rw [rd_order za] at hbad; exact hbad rfl) | (rw [rd_few za za] at hbad; exact hbad rfl) | (rw [rd_none za za] at hbad; exact hbad rfl) | (rw [rd_a za za za za] at hbad; exact hbad rfl) | (rw [rd_b za za za za za za] at hbad; exact hbad rfl) | (rw [rd_s za za za za za za za za] at hbad; exact hbad rfl) | (rw [rd_ok za za za za za za za za] at hbad; exact hbad rfl)
theorem c_code (e : Int) (w : World) (hty : w.cell? ⟨0, 0, none⟩ = some (.iface 180 (.agg #[.pointer (some ⟨7, 39, none⟩)]))) :
  Calls Tryz.prog 41 #[(.iface 28 (I6 e))] w (Ret fun v w' => v = (I6 e) ∧ Below w.heap.size w w') := by
 refine wG 8 func41 rfl ?_
 have c := Below.refl w.heap.size w
 refine wR (zH (nR (zN [(I6 0)] 28 ?_)))
 intro h j b
 have d := b.ge c.size
 have a := b.here
 have c := c.tr b.below
 refine nR (zG (zr (.iface 143 (pt h 0)) (zc (an_fk e h (I6 0) _ (xJ hty c) a) ?_)))
 rintro _ k ⟨rfl, i, g, f⟩
 have a := f.here
 have c := (c.tr g).trans (f.below d)
 exact nR (zO 0 a rfl (zH (nQ (zS (yC [(I6 e)] ⟨rfl, c⟩)))))
end Go.Proofs.YtddnhlobnembaaaGreatDoor
end

/- === Wcb5 === -/
section
/- Walks, written by my program walk.py out of the specification cb5.py: each theorem says what one function returns and that it leaves memory as it was. -/
namespace Go.Proofs.YtddnhlobnembaaaGreatDoor
open Go Go.RowKit Go.FK _root_.Go.Proofs.Tryz
set_option maxHeartbeats 4000000
set_option maxRecDepth 100000
theorem c_Parse_ok (file : List UInt8) (text : List UInt8) (w : World) (hty : w.cell? ⟨0, 0, none⟩ = some (.iface 180 (.agg #[.pointer (some ⟨7, 39, none⟩)]))) (hs : text.length ≤ 33554432) (hok : (parF text).2.2 = 0) :
  Calls Tryz.prog 15 #[(S file), (S text)] w (Ret fun v w' => ∃ (cb0 mb0 : Nat), v = (.tuple #[(pt cb0 0), .nilIface]) ∧ w'.heap[cb0]? = some (.cells [(.map (some mb0)), (.map none)].toArray 69 (0, 0)) ∧ w.heap.size ≤ cb0 ∧ w'.heap[mb0]? = some (gmObj .i32 vBrk (kv (parF text).1.1)) ∧ w.heap.size ≤ mb0 ∧ Below w.heap.size w w') := by
 refine enterM (args := [(S file), (S text)]) func15 rfl (zk : _ = 83) zk ?_
 have hb := Below.refl w.heap.size w
 refine wR (zN [(S file)] 9 ?_)
 intro b1 w2 dj
 have ei := dj.ge hb.size
 have o := dj.here
 refine zN [(.pointer none)] 27 ?_
 intro b4 w5 c9
 have hb := hb.tr dj.below
 have dv := c9.ge hb.size
 have m := c9.here
 refine zN [.nilIface] 39 ?_
 intro b7 w8 cx
 have hb := hb.tr c9.below
 have dy := cx.ge hb.size
 have n := cx.here
 refine nR (L_gmk (T := 66) .i32 vBrk ?_)
 intro bn fl ba
 have o := zA (zA o c9.below) cx.below
 have ck := yE (zV o) ba
 have m := zA m cx.below
 have bm := yE (zV m) ba
 have ce := NE.symm bm
 have bk := yE (zV n) ba
 have cd := NE.symm bk
 have hb := hb.tr cx.below
 have ci := ba.ge hb.size
 have j := ba.here
 refine zr (Value.agg #[(.map (some bn)), (.map none)]) (zN [(.map (some bn)), (.map none)] 69 ?_)
 intro bc e0 be
 have b6 := yE (zV j) be
 have ca := NE.symm b6
 have hb := hb.tr ba.below
 have dg := be.ge hb.size
 have b := be.here
 refine zN [(.pointer none)] 27 ?_
 intro dn e8 a5
 have m := zA (zA m ba.below) be.below
 have cp := yE (zV m) a5
 have j := zA j be.below
 have bl := yE (zV j) a5
 have cf := NE.symm bl
 have hb := hb.tr be.below
 have d4 := a5.ge hb.size
 have q := a5.here
 refine z1 0 (pt bc 0) [(pt bc 0)] q ?_
 intro e9 bi
 have o := zA (zA (zA o ba.below) be.below) a5.below
 have o := zD o bi (zP o q zi)
 have n := zA (zA (zA n ba.below) be.below) a5.below
 have n := zD n bi (zP n q zi)
 have b := zA b a5.below
 have b := zD b bi (zP b q zi)
 have q := bi.here
 refine nR (zN [(.slice none 0 0)] 22 ?_)
 intro de ff a6
 have j := zD (zA j a5.below) bi bl
 have bj := yE (zV j) a6
 have cj := NE.symm bj
 have hb := (hb.tr a5.below).trans (bi.below d4)
 have d2 := a6.ge hb.size
 have p := a6.here
 refine nR (zN [(.slice none 0 0)] 79 ?_)
 intro dd eu a3
 have j := zA j a6.below
 have bf := yE (zV j) a3
 have cc := NE.symm bf
 have hb := hb.tr a6.below
 have d3 := a3.ge hb.size
 have r := a3.here
 refine nW (wR (zG (zc (c_lines_Each text _ ) ?_)))
 rintro _ ah ⟨b2, rfl, f, bu, a8⟩
 have j := zA j a3.below
 have bv := NE_ge (zV j) bu
 have bs := NE.symm bv
 have hb := hb.tr a3.below
 replace bu := Nat.le_trans hb.size bu
 refine nQ (yI ?_)
 have o := zA (zA (zA o a6.below) a3.below) a8
 have b0 : b1 < ah.heap.size := zV o
 have m := zA (zA (zA (zD (zA m a5.below) bi cp) a6.below) a3.below) a8
 have bw : b4 < ah.heap.size := zV m
 have n := zA (zA (zA n a6.below) a3.below) a8
 have cb : b7 < ah.heap.size := zV n
 have j := zA j a8
 have bb : bn < ah.heap.size := zV j
 have b := zA (zA (zA b a6.below) a3.below) a8
 have bp : bc < ah.heap.size := zV b
 have q := zA (zA (zA q a6.below) a3.below) a8
 have b5 : dn < ah.heap.size := zV q
 have p := zA (zA p a3.below) a8
 have b8 : de < ah.heap.size := zV p
 have r := zA r a8
 have b3 : dd < ah.heap.size := zV r
 have a7 : b2 < ah.heap.size := zV f
 have hb := hb.tr a8
 have c2 := hb.size
 have eh := hb
 refine W_range 66 [(pt b2 0)] (toldF text) zk (fun _ _ => rfl) (it_lines_Each_1 b2 text (by first | omega | assumption)) f ((fun D A B h hc hd => yA h hc (fun h => Nat.not_lt.2 (hd _ h) a7))) (by intro x; rfl) (fun K c1 A => ∃ (a9 : List Brk) (bo : List Int) (ml : List (Int × Brk)) (ai : Value) (al : Value), (A.heap[b1]? = some (.cells [(S file)].toArray 9 (0, 0))) ∧ (A.heap[b4]? = some (.cells [(.pointer none)].toArray 27 (0, 0))) ∧ (A.heap[b7]? = some (.cells [.nilIface].toArray 39 (0, 0))) ∧ (A.heap[bn]? = some (gmObj .i32 vBrk ml)) ∧ (A.heap[bc]? = some (.cells [(.map (some bn)), (.map none)].toArray 69 (0, 0))) ∧ (A.heap[dn]? = some (.cells [(pt bc 0)].toArray 27 (0, 0))) ∧ (A.heap[de]? = some (.cells [ai].toArray 22 (0, 0))) ∧ (A.heap[dd]? = some (.cells [al].toArray 79 (0, 0))) ∧ (A.heap[b2]? = some (.cells [(S text)].toArray 9 (0, 0))) ∧ (Row A w.heap.size 26 3 encBrk ai a9) ∧ (∀ g, Value.ownBlock ai = some g → ¬ Iv ah.heap.size K g) ∧ (Row A w.heap.size 3 1 encInt al bo) ∧ (∀ g, Value.ownBlock al = some g → ¬ Iv ah.heap.size K g) ∧ (Below w.heap.size w A) ∧ (ParI c1 a9 bo) ∧ (ml = kv a9) ∧ (a9.length ≤ c1.length) ∧ (bo.length = a9.length)) (fun K c c1 A => False) ?_ ?_ ?_ ?_ ?_ ?_
 ·intro A hA
  exact ⟨[], [], [], (.slice none 0 0), (.slice none 0 0), zA o hA, zA m hA, zA n hA, zA j hA, zA b hA, zA q hA, zA p hA, zA r hA, zA f hA, Row.nil _ _ _ _ _, nr_nil _ _, Row.nil _ _ _ _ _, nr_nil _ _, hb.trans (hA.mono hb.size), by exact ParI.nil, by rfl, by exact Nat.le_refl _, by rfl⟩
 ·rintro K c1 A B ⟨a9, bo, ml, ai, al, o, m, n, j, b, q, p, r, f, a, z, i, y, hb, p1, p2, p3, p4⟩ hc
  exact ⟨a9, bo, ml, ai, al, yA o hc (fun h => Nat.not_lt.2 h.1 b0), yA m hc (fun h => Nat.not_lt.2 h.1 bw), yA n hc (fun h => Nat.not_lt.2 h.1 cb), yA j hc (fun h => Nat.not_lt.2 h.1 bb), yA b hc (fun h => Nat.not_lt.2 h.1 bp), yA q hc (fun h => Nat.not_lt.2 h.1 b5), yA p hc (fun h => Nat.not_lt.2 h.1 b8), yA r hc (fun h => Nat.not_lt.2 h.1 b3), yA f hc (fun h => Nat.not_lt.2 h.1 a7), a.ch hc z, z, i.ch hc y, y, hc.below hb hb.size (fun k h => Nat.le_trans c2 h.1), p1, p2, p3, p4⟩
 ·intro K c _ A B h hc; exact h.elim
 ·intro l K c1 x A hi hN ej hK bx
  obtain ⟨a9, bo, ml, ai, al, o, m, n, j, b, q, p, r, f, a, z, i, y, hb, p1, p2, p3, p4⟩ := hi
  have hk := Kp.refl (ah.heap.size) K A
  have di : ¬ Iv (ah.heap.size) K b1 := fun h => Nat.not_lt.2 h.1 b0
  have dl : ¬ Iv (ah.heap.size) K b4 := fun h => Nat.not_lt.2 h.1 bw
  have dk : ¬ Iv (ah.heap.size) K b7 := fun h => Nat.not_lt.2 h.1 cb
  have co : ¬ Iv (ah.heap.size) K bn := fun h => Nat.not_lt.2 h.1 bb
  have db : ¬ Iv (ah.heap.size) K bc := fun h => Nat.not_lt.2 h.1 bp
  have dm : ¬ Iv (ah.heap.size) K dn := fun h => Nat.not_lt.2 h.1 b5
  have c5 : ¬ Iv (ah.heap.size) K de := fun h => Nat.not_lt.2 h.1 b8
  have cy : ¬ Iv (ah.heap.size) K dd := fun h => Nat.not_lt.2 h.1 b3
  have ct : ¬ Iv (ah.heap.size) K b2 := fun h => Nat.not_lt.2 h.1 a7
  have f := hN
  have e3 := told_short (pre_mem bx)
  have eg := bx.length_le; rw [List.length_append, List.length_singleton] at eg
  have en := told_len text
  have el := scan_flen x.1 x.2
  have ef := scan_parts (no := x.1) (s := x.2) 1073741824 zo
  refine wR (zN [(I6 0)] 3 ?_)
  intro du fc aj
  have bg := yE (zV j) aj
  have cl := NE.symm bg
  have dz := aj.ge hb.size
  have c3 : ¬ Iv ah.heap.size K du := fun h => by have := h.2; have := aj.num; omega
  have an := i.new_ne aj
  replace hk := hk.ch (Ch.of_below aj.below) hK (fun _ h => h.elim)
  replace hK := Nat.le_trans hK (aj.below.size)
  have u := aj.here
  refine z1 0 (I6 x.1) [(I6 x.1)] u ?_
  intro e2 aq
  replace hk := hk.ch (Ch.of_wrote aq) hK (fun k e h => c3 (e ▸ h))
  replace hK := Nat.le_trans hK (Nat.le_of_eq aq.size.symm)
  have o := zA o aj.below
  have o := zD o aq (zP o u zi)
  have m := zA m aj.below
  have m := zD m aq (zP m u zi)
  have n := zA n aj.below
  have n := zD n aq (zP n u zi)
  have b := zA b aj.below
  have b := zD b aq (zP b u zi)
  have q := zA q aj.below
  have q := zD q aq (zP q u zi)
  have p := zA p aj.below
  have p := zD p aq (zP p u zi)
  have r := zA r aj.below
  have r := zD r aq (zP r u zi)
  have f := zA f aj.below
  have f := zD f aq (zP f u zi)
  have a := a.below aj.below
  have a := a.wrote aq (a.ne u zi)
  have u := aq.here
  refine nQ (zW (zH (zU (zB ⟨hk, ?_⟩))))
  intro ec aw
  have hb := (hb.tr aj.below).trans (aq.below dz)
  have hb := aw.below hb hb.size (fun k h => Nat.le_trans c2 h.1)
  replace hK := Nat.le_trans hK aw.size
  replace hk := Kp.refl (ah.heap.size) K ec
  have u := yA u aw c3
  refine yI (wR (zr (.func (.func 38) #[] #[(pt b1 0), (pt du 0)]) (zH (nR (zO 0 u rfl (zG (zc (c_lines_Scan x.1 x.2 _ (by first | omega | assumption)) ?_)))))))
  rintro _ es ⟨da, rfl, am, ar⟩
  have dq := nr_row (K0 := ah.heap.size) am hK
  have o := yA o aw di
  have cz := Row.nb_call am o
  have f := yA f aw ct
  have cr := Row.nb_call am f
  have am := am.base hb.size
  replace hk := hk.ch (Ch.of_below ar) hK (fun _ h => h.elim)
  replace hK := Nat.le_trans hK (ar.size)
  have := scan_err x.1 x.2
  refine zG (zr (Value.agg #[(I6 ((scanF x.1 x.2).1.1)), (U8 ((scanF x.1 x.2).1.2.1)), (S ((scanF x.1 x.2).1.2.2.1)), da, (S ((scanF x.1 x.2).1.2.2.2.2))]) (zr (I6 ((scanF x.1 x.2).2)) (zN [(I6 0), (U8 0), (S []), (.slice none 0 0), (S [])] 90 ?_)))
  intro dt e6 ad
  have j := zA (yA (zD (zA j aj.below) aq bg) aw co) ar
  have bd := yE (zV j) ad
  have hb := hb.tr ar
  have c4 := ad.ge hb.size
  have dc : ¬ Iv ah.heap.size K dt := fun h => by have := h.2; have := ad.num; omega
  replace hk := hk.ch (Ch.of_below ad.below) hK (fun _ h => h.elim)
  replace hK := Nat.le_trans hK (ad.below.size)
  have ae := ad.here
  have am := am.below ad.below
  refine wH dt 0 [(I6 ((scanF x.1 x.2).1.1)), (U8 ((scanF x.1 x.2).1.2.1)), (S ((scanF x.1 x.2).1.2.2.1)), da, (S ((scanF x.1 x.2).1.2.2.2.2))] [(I6 0), (U8 0), (S []), (.slice none 0 0), (S [])] [(I6 ((scanF x.1 x.2).1.1)), (U8 ((scanF x.1 x.2).1.2.1)), (S ((scanF x.1 x.2).1.2.2.1)), da, (S ((scanF x.1 x.2).1.2.2.2.2))] 90 zk zk (xL rfl (xL rfl (xL rfl (xL am.one (xL rfl rfl))))) zk ae zk rfl ?_
  intro fj ag
  replace hk := hk.ch (Ch.of_wrote ag) hK (fun k e h => dc (e ▸ h))
  replace hK := Nat.le_trans hK (Nat.le_of_eq ag.size.symm)
  have o := zA (zA o ar) ad.below
  have o := zD o ag (zP o ae zi)
  have m := zA (zA (yA m aw dl) ar) ad.below
  have m := zD m ag (zP m ae zi)
  have n := zA (zA (yA n aw dk) ar) ad.below
  have n := zD n ag (zP n ae zi)
  have b := zA (zA (yA b aw db) ar) ad.below
  have b := zD b ag (zP b ae zi)
  have q := zA (zA (yA q aw dm) ar) ad.below
  have q := zD q ag (zP q ae zi)
  have p := zA (zA (yA p aw c5) ar) ad.below
  have p := zD p ag (zP p ae zi)
  have r := zA (zA (yA r aw cy) ar) ad.below
  have r := zD r ag (zP r ae zi)
  have f := zA (zA f ar) ad.below
  have f := zD f ag (zP f ae zi)
  have u := zA (zA u ar) ad.below
  have u := zD u ag (zP u ae zi)
  have a := ((a.ch aw z).below ar).below ad.below
  have a := a.wrote ag (a.ne ae zi)
  have i := ((((i.below aj.below).wrote aq an).ch aw y).below ar).below ad.below
  have i := i.wrote ag (i.ne ae zi)
  have am := am.wrote ag (am.ne ae zi)
  have ae := ag.here
  refine zH (nW (wR (zG (zNe .i64 ((scanF x.1 x.2).2) 0 ?_ ?_))))
  ·intro dr
   exfalso; (rw [par_scan p1 bx dr] at hok; exact dr hok)
  intro fd
  refine nQ (zF (zQ (zB (wR (zOW ae ?_)))))
  by_cases df : (readB ((scanF x.1 x.2).1.2.1) ((scanF x.1 x.2).1.2.2.2.1)).2.2 = 0
  ·skip
   refine zc (c_read_ok ((scanF x.1 x.2).1.1) ((scanF x.1 x.2).1.2.1) ((scanF x.1 x.2).1.2.2.1) da ((scanF x.1 x.2).1.2.2.2.1) ((scanF x.1 x.2).1.2.2.2.2) _ am.rd (by exact ef.1) zo (by first | omega | assumption)) ?_
   rintro _ ey ⟨rfl, ab⟩
   replace hk := hk.ch (Ch.of_below ab) hK (fun _ h => h.elim)
   replace hK := Nat.le_trans hK (ab.size)
   refine zG (zr (Value.agg #[(I3 ((readB ((scanF x.1 x.2).1.2.1) ((scanF x.1 x.2).1.2.2.2.1)).1.1)), (I3 ((readB ((scanF x.1 x.2).1.2.1) ((scanF x.1 x.2).1.2.2.2.1)).1.2.1)), (U8 ((readB ((scanF x.1 x.2).1.2.1) ((scanF x.1 x.2).1.2.2.2.1)).1.2.2))]) (zr (.bool ((readB ((scanF x.1 x.2).1.2.1) ((scanF x.1 x.2).1.2.2.2.1)).2.1)) (zX ((readB ((scanF x.1 x.2).1.2.1) ((scanF x.1 x.2).1.2.2.2.1)).2.1) ?_ ?_)))
   ·intro fk
    refine zr .nilIface (zN [(I3 0), (I3 0), (U8 0)] 26 ?_)
    intro ea ew af
    have j := zA (zD (zA j ad.below) ag bd) ab
    have ax := yE (zV j) af
    have b9 := NE.symm ax
    have hb := ((hb.tr ad.below).trans (ag.below c4)).tr ab
    have cm := af.ge hb.size
    have bt : ¬ Iv ah.heap.size K ea := fun h => by have := h.2; have := af.num; omega
    have a := a.below ab
    have aa := a.new_ne af
    replace hk := hk.ch (Ch.of_below af.below) hK (fun _ h => h.elim)
    replace hK := Nat.le_trans hK (af.below.size)
    have t := af.here
    refine wN [(I3 ((readB ((scanF x.1 x.2).1.2.1) ((scanF x.1 x.2).1.2.2.2.1)).1.1)), (I3 ((readB ((scanF x.1 x.2).1.2.1) ((scanF x.1 x.2).1.2.2.2.1)).1.2.1)), (U8 ((readB ((scanF x.1 x.2).1.2.1) ((scanF x.1 x.2).1.2.2.2.1)).1.2.2))] t ?_
    intro er ao
    replace hk := hk.ch (Ch.of_wrote ao) hK (fun k e h => bt (e ▸ h))
    replace hK := Nat.le_trans hK (Nat.le_of_eq ao.size.symm)
    have o := zA (zA o ab) af.below
    have o := zD o ao (zP o t zi)
    have m := zA (zA m ab) af.below
    have m := zD m ao (zP m t zi)
    have n := zA (zA n ab) af.below
    have n := zD n ao (zP n t zi)
    have b := zA (zA b ab) af.below
    have b := zD b ao (zP b t zi)
    have q := zA (zA q ab) af.below
    have q := zD q ao (zP q t zi)
    have p := zA (zA p ab) af.below
    have p := zD p ao (zP p t zi)
    have r := zA (zA r ab) af.below
    have r := zD r ao (zP r t zi)
    have f := zA (zA f ab) af.below
    have f := zD f ao (zP f t zi)
    have u := zA (zA u ab) af.below
    have u := zD u ao (zP u t zi)
    have i := (i.below ab).below af.below
    have i := i.wrote ao (i.ne t zi)
    have t := ao.here
    have hb := (hb.tr af.below).trans (ao.below cm)
    have j := zD (zA j af.below) ao ax
    refine zH (zH (nW (wR (zG (zr (.bool false) (nQ (zF (zQ (zB (yF (wR (zG (wX true (nQ (zF (zQ (zB (yF (wR (zO 0 q rfl (zOW t (zc (c_add bc bn ml (.map none) ((readB ((scanF x.1 x.2).1.2.1) ((scanF x.1 x.2).1.2.2.2.1)).1.1) ((readB ((scanF x.1 x.2).1.2.1) ((scanF x.1 x.2).1.2.2.2.1)).1.2.1) ((readB ((scanF x.1 x.2).1.2.1) ((scanF x.1 x.2).1.2.2.2.1)).1.2.2) w.heap.size _ hb.size b j ci) ?_))))))))))))))))))))))
    rintro _ ex ⟨rfl, d1, av⟩
    replace hk := hk.ch av hK (fun k e h => co (e ▸ h))
    replace hK := Nat.le_trans hK av.size
    have hb := av.below hb hb.size (fun k e => e ▸ ci)
    have a := (a.below af.below).wrote ao aa
    have a := a.ch av (fun g e d => (a.ne j (by simp [gmObj])) (d ▸ e))
    have i := i.ch av (fun g e d => (i.ne j (by simp [gmObj])) (d ▸ e))
    have j := d1
    refine zH (nR (zG (zNe .i64 (addE ml (((readB ((scanF x.1 x.2).1.2.1) ((scanF x.1 x.2).1.2.2.2.1)).1.1), ((readB ((scanF x.1 x.2).1.2.1) ((scanF x.1 x.2).1.2.2.2.1)).1.2.1), ((readB ((scanF x.1 x.2).1.2.1) ((scanF x.1 x.2).1.2.2.2.1)).1.2.2))) 0 ?_ ?_)))
    ·intro dx
     exfalso; (rw [par_add2 p1 bx p2 za za za dx] at hok; exact dx hok)
    intro et
    have t := yA t av (fun e => b9 e)
    have p := yA p av (fun e => cj e)
    refine nQ (zF (zQ (zB (wR (zO 0 p rfl (zOW t (wV el22 w.heap.size ai a9 ((readB ((scanF x.1 x.2).1.2.1) ((scanF x.1 x.2).1.2.2.2.1)).1.1, (readB ((scanF x.1 x.2).1.2.1) ((scanF x.1 x.2).1.2.2.2.1)).1.2.1, (readB ((scanF x.1 x.2).1.2.1) ((scanF x.1 x.2).1.2.2.2.1)).1.2.2) hb.size a zo zk rfl rfl zk rfl zk zk ?_)))))))
    intro dh fb dw a0 cu
    have cv := nr_app cu z hK
    have cq := wP cu aa (zV t)
    have hb := hb.tg hb.size a0 a
    replace hk := hk.ch (Ch.of_grown a0) hK (fun k e => z k e)
    replace hK := Nat.le_trans hK (a0.size)
    have o := yA o av (fun e => ck e)
    have o := yH o a0 (a.ne o zi)
    have m := yA m av (fun e => bm e)
    have m := yH m a0 (a.ne m zi)
    have n := yA n av (fun e => bk e)
    have n := yH n a0 (a.ne n zi)
    have j := yH j a0 (a.ne j (by simp [gmObj]))
    have b := yA b av (fun e => ca e)
    have b := yH b a0 (a.ne b zi)
    have q := yA q av (fun e => cf e)
    have q := yH q a0 (a.ne q zi)
    have p := yH p a0 (a.ne p zi)
    have r := yA r av (fun e => cc e)
    have r := yH r a0 (a.ne r zi)
    have f := yA f av (fun e => bs e)
    have f := yH f a0 (a.ne f zi)
    have u := yA u av (fun e => cl e)
    have u := yH u a0 (a.ne u zi)
    have i := i.grown a0 (i.apart a zk)
    have aa := cq
    have a := dw
    have z := cv; clear cv
    refine wJ de 0 dh [ai] [dh] 22 zk zk a.one zk p zi rfl ?_
    intro ep au
    replace hk := hk.ch (Ch.of_wrote au) hK (fun k e h => c5 (e ▸ h))
    replace hK := Nat.le_trans hK (Nat.le_of_eq au.size.symm)
    have o := zD o au (zP o p zi)
    have m := zD m au (zP m p zi)
    have n := zD n au (zP n p zi)
    have b := zD b au (zP b p zi)
    have q := zD q au (zP q p zi)
    have r := zD r au (zP r p zi)
    have f := zD f au (zP f p zi)
    have u := zD u au (zP u p zi)
    have a := a.wrote au (a.ne p zi)
    have i := i.wrote au (i.ne p zi)
    have p := au.here
    have hb := hb.trans (au.below d2)
    refine nQ (zW (zO 0 r rfl (zO 0 u rfl (wV el79 w.heap.size al bo x.1 hb.size i zo zk rfl rfl zk rfl zk zk ?_))))
    intro dp e1 d0 a1 cw
    have cv := nr_app cw y hK
    have c0 := wP cw an (zV u)
    have hb := hb.tg hb.size a1 i
    replace hk := hk.ch (Ch.of_grown a1) hK (fun k e => y k e)
    replace hK := Nat.le_trans hK (a1.size)
    have o := yH o a1 (i.ne o zi)
    have m := yH m a1 (i.ne m zi)
    have n := yH n a1 (i.ne n zi)
    have j := zD j au bj
    have j := yH j a1 (i.ne j (by simp [gmObj]))
    have b := yH b a1 (i.ne b zi)
    have q := yH q a1 (i.ne q zi)
    have p := yH p a1 (i.ne p zi)
    have r := yH r a1 (i.ne r zi)
    have f := yH f a1 (i.ne f zi)
    have a := a.grown a1 (a.apart i zk)
    have an := c0
    have i := d0
    have y := cv; clear cv
    refine wJ dd 0 dp [al] [dp] 79 zk zk i.one zk r zi rfl ?_
    intro ek ay
    replace hk := hk.ch (Ch.of_wrote ay) hK (fun k e h => cy (e ▸ h))
    replace hK := Nat.le_trans hK (Nat.le_of_eq ay.size.symm)
    have o := zD o ay (zP o r zi)
    have m := zD m ay (zP m r zi)
    have n := zD n ay (zP n r zi)
    have b := zD b ay (zP b r zi)
    have q := zD q ay (zP q r zi)
    have p := zD p ay (zP p r zi)
    have f := zD f ay (zP f r zi)
    have a := a.wrote ay (a.ne r zi)
    have i := i.wrote ay (i.ne r zi)
    have r := ay.here
    refine zU (zL ?_)
    have hb := hb.trans (ay.below d3)
    have j := zD j ay bf
    refine wL hk f ⟨(a9 ++ [((readB ((scanF x.1 x.2).1.2.1) ((scanF x.1 x.2).1.2.2.2.1)).1.1, (readB ((scanF x.1 x.2).1.2.1) ((scanF x.1 x.2).1.2.2.2.1)).1.2.1, (readB ((scanF x.1 x.2).1.2.1) ((scanF x.1 x.2).1.2.2.2.1)).1.2.2)]), (bo ++ [x.1]), (addM ml (((readB ((scanF x.1 x.2).1.2.1) ((scanF x.1 x.2).1.2.2.2.1)).1.1), ((readB ((scanF x.1 x.2).1.2.1) ((scanF x.1 x.2).1.2.2.2.1)).1.2.1), ((readB ((scanF x.1 x.2).1.2.1) ((scanF x.1 x.2).1.2.2.2.1)).1.2.2))), dh, dp, o, m, n, j, b, q, p, r, f, a, z, i, y, hb, ?_, ?_, ?_, ?_⟩
    ·exact ParI.add p1 za za za (add_kv p2 za)
    ·exact addM_kv p2 za
    ·(simp only [List.length_append, List.length_cons, List.length_nil]; omega)
    (simp only [List.length_append, List.length_cons, List.length_nil]; omega)
   intro fa
   refine zr .nilIface (zN [(I3 0), (I3 0), (U8 0)] 26 ?_)
   intro eb ev ak
   have j := zA (zD (zA j ad.below) ag bd) ab
   have ax := yE (zV j) ak
   have hb := ((hb.tr ad.below).trans (ag.below c4)).tr ab
   have cm := ak.ge hb.size
   have bt : ¬ Iv ah.heap.size K eb := fun h => by have := h.2; have := ak.num; omega
   have a := a.below ab
   have aa := a.new_ne ak
   replace hk := hk.ch (Ch.of_below ak.below) hK (fun _ h => h.elim)
   replace hK := Nat.le_trans hK (ak.below.size)
   have t := ak.here
   refine wN [(I3 ((readB ((scanF x.1 x.2).1.2.1) ((scanF x.1 x.2).1.2.2.2.1)).1.1)), (I3 ((readB ((scanF x.1 x.2).1.2.1) ((scanF x.1 x.2).1.2.2.2.1)).1.2.1)), (U8 ((readB ((scanF x.1 x.2).1.2.1) ((scanF x.1 x.2).1.2.2.2.1)).1.2.2))] t ?_
   intro e7 az
   replace hk := hk.ch (Ch.of_wrote az) hK (fun k e h => bt (e ▸ h))
   replace hK := Nat.le_trans hK (Nat.le_of_eq az.size.symm)
   have o := zA (zA o ab) ak.below
   have o := zD o az (zP o t zi)
   have m := zA (zA m ab) ak.below
   have m := zD m az (zP m t zi)
   have n := zA (zA n ab) ak.below
   have n := zD n az (zP n t zi)
   have b := zA (zA b ab) ak.below
   have b := zD b az (zP b t zi)
   have q := zA (zA q ab) ak.below
   have q := zD q az (zP q t zi)
   have p := zA (zA p ab) ak.below
   have p := zD p az (zP p t zi)
   have r := zA (zA r ab) ak.below
   have r := zD r az (zP r t zi)
   have f := zA (zA f ab) ak.below
   have f := zD f az (zP f t zi)
   have i := (i.below ab).below ak.below
   have i := i.wrote az (i.ne t zi)
   refine zH (zH (nW (wR (zG (zr (.bool false) (nQ (zF (zQ (zB (yF (wR (zG (wX false (nQ (zT (xG (yD (yQ ?_))))))))))))))))))
   have hb := (hb.tr ak.below).trans (az.below cm)
   have j := zD (zA j ak.below) az ax
   have a := (a.below ak.below).wrote az aa
   refine wL hk f ⟨a9, bo, ml, ai, al, o, m, n, j, b, q, p, r, f, a, z, i, y, hb, ?_, ?_, ?_, ?_⟩
   ·exact ParI.skip p1 za za za
   ·exact p2
   ·(simp only [List.length_append, List.length_cons, List.length_nil]; omega)
   exact p4
  skip
  exfalso; rw [par_read p1 bx za df] at hok; exact df hok
 ·intro K A hi e5 a2
  obtain ⟨a9, bo, ml, ai, al, o, m, n, j, b, q, p, r, f, a, z, i, y, hb, p1, p2, p3, p4⟩ := hi
  have cn : NE bn (ah.heap.size) := Nat.ne_of_lt bb
  refine zL (zB (yF (wR (zO 0 p rfl (zO 0 q rfl (zr (.func (.func 30) #[(pt bc 0)] #[]) (zc (c_idx ai a9 bc bn ml (.map none) [] _ a.rd b (GmAt.of j) (.inl ⟨rfl, rfl⟩) (by (have := told_len text; omega))) ?_)))))))
  rintro _ eo ⟨rfl, bh⟩
  refine zH (nR (zG (zGe .i64 (idxL ml a9) 0 ?_ ?_)))
  ·intro ed
   exfalso; (rw [par_lone2 p1 p2 ed] at hok; cases hok)
  intro fg
  have m := zA m bh
  have q := zA q bh
  refine nQ (zF (zQ (zB (wR (zO 0 q rfl (z1 0 (pt bc 0) [(pt bc 0)] m ?_))))))
  intro ez bq
  have n := zA n bh
  have n := zD n bq (zP n m zi)
  have b := zA b bh
  have b := zD b bq (zP b m zi)
  have a2 := zA a2 bh
  have a2 := zD a2 bq (zP a2 m zi)
  have m := bq.here
  refine z1 0 .nilIface [.nilIface] n ?_
  intro fe br
  have m := zD m br (zP m n zi)
  have b := zD b br (zP b n zi)
  have a2 := zD a2 br (zP a2 n zi)
  have n := br.here
  refine nQ (zS (end_retM (ds := [⟨.collected ah.heap.size, #[]⟩]) zk (Lv_mark a2 ?_)))
  intro fi bz
  have m := zD m bz (zP m a2 zi)
  have n := zD n bz (zP n a2 zi)
  have b := zD b bz (zP b a2 zi)
  refine Lv_nil [.cell 4 27, .cell 5 39] [(pt bc 0), .nilIface] rfl ⟨⟨⟨b4, 0, none⟩, zk, load_one zk (zR m rfl)⟩, ⟨⟨b7, 0, none⟩, zk, load_one zk (zR n rfl)⟩, trivial⟩ ?_
  have em : ml = (kv (parF text).1.1) := by (rw [par_ok2 p1 p2 za]; exact p2)
  have j := zD (zD (zD (zA j bh) bq ce) br cd) bz cn
  rw [em] at j
  have hb := (((hb.tr bh).trans (bq.below dv)).trans (br.below dy)).trans (bz.below c2)
  exact ⟨bc, bn, rfl, b, dg, j, ci, hb⟩
 intro K c _ x A _ h; exact h.elim
theorem c_Parse_bad (file : List UInt8) (text : List UInt8) (w : World) (hty : w.cell? ⟨0, 0, none⟩ = some (.iface 180 (.agg #[.pointer (some ⟨7, 39, none⟩)]))) (hs : text.length ≤ 33554432) (hbad : (parF text).2.2 ≠ 0) :
  Calls Tryz.prog 15 #[(S file), (S text)] w (Ret fun v w' => ∃ (cb0 : Nat), v = (.tuple #[(.pointer none), (.iface 83 (pt cb0 0))]) ∧ w'.heap[cb0]? = some (.cells [(S file), (I6 ((parF text).2.1)), (I6 ((parF text).2.2))].toArray 85 (0, 0)) ∧ w.heap.size ≤ cb0 ∧ Below w.heap.size w w') := by
 refine enterM (args := [(S file), (S text)]) func15 rfl (zk : _ = 83) zk ?_
 have y := Below.refl w.heap.size w
 refine wR (zN [(S file)] 9 ?_)
 intro b1 w2 e1
 have gf := e1.ge y.size
 have i := e1.here
 refine zN [(.pointer none)] 27 ?_
 intro b4 w5 et
 have y := y.tr e1.below
 have di := et.ge y.size
 have b := et.here
 refine zN [.nilIface] 39 ?_
 intro b7 w8 ec
 have y := y.tr et.below
 have dj := ec.ge y.size
 have f := ec.here
 refine nR (L_gmk (T := 66) .i32 vBrk ?_)
 intro c5 hy b2
 have i := zA (zA i et.below) ec.below
 have cr := yE (zV i) b2
 have b := zA b ec.below
 have cw := yE (zV b) b2
 have cm := yE (zV f) b2
 have y := y.tr ec.below
 have d9 := b2.ge y.size
 have q := b2.here
 refine zr (Value.agg #[(.map (some c5)), (.map none)]) (zN [(.map (some c5)), (.map none)] 69 ?_)
 intro cq g6 b9
 have dh := yE (zV q) b9
 have b8 := NE.symm dh
 have y := y.tr b2.below
 have fp := b9.ge y.size
 have m := b9.here
 refine zN [(.pointer none)] 27 ?_
 intro ex hj bp
 have b := zA (zA b b2.below) b9.below
 have cz := yE (zV b) bp
 have b3 := NE.symm cz
 have q := zA q b9.below
 have co := yE (zV q) bp
 have ck := NE.symm co
 have y := y.tr b9.below
 have fl := bp.ge y.size
 have o := bp.here
 refine z1 0 (pt cq 0) [(pt cq 0)] o ?_
 intro hl cj
 have i := zA (zA (zA i b2.below) b9.below) bp.below
 have i := zD i cj (zP i o zi)
 have f := zA (zA (zA f b2.below) b9.below) bp.below
 have f := zD f cj (zP f o zi)
 have m := zA m bp.below
 have m := zD m cj (zP m o zi)
 have o := cj.here
 refine nR (zN [(.slice none 0 0)] 22 ?_)
 intro ew hp bv
 have q := zD (zA q bp.below) cj co
 have cl := yE (zV q) bv
 have dt := NE.symm cl
 have y := (y.tr bp.below).trans (cj.below fl)
 have fi := bv.ge y.size
 have r := bv.here
 refine nR (zN [(.slice none 0 0)] 79 ?_)
 intro dz gy bm
 have q := zA q bv.below
 have cd := yE (zV q) bm
 have dn := NE.symm cd
 have y := y.tr bv.below
 have fk := bm.ge y.size
 have p := bm.here
 refine nW (wR (zG (zc (c_lines_Each text _ ) ?_)))
 rintro _ ai ⟨c1, rfl, a, de, b0⟩
 have q := zA q bm.below
 have df := NE_ge (zV q) de
 have bx := NE.symm df
 have y := y.tr bm.below
 replace de := Nat.le_trans y.size de
 refine nQ (yI ?_)
 have i := zA (zA (zA i bv.below) bm.below) b0
 have ce : b1 < ai.heap.size := zV i
 have b := zA (zA (zA (zD (zA b bp.below) cj cz) bv.below) bm.below) b0
 have cb : b4 < ai.heap.size := zV b
 have f := zA (zA (zA f bv.below) bm.below) b0
 have cv : b7 < ai.heap.size := zV f
 have q := zA q b0
 have c0 : c5 < ai.heap.size := zV q
 have m := zA (zA (zA m bv.below) bm.below) b0
 have b5 : cq < ai.heap.size := zV m
 have o := zA (zA (zA o bv.below) bm.below) b0
 have cp : ex < ai.heap.size := zV o
 have r := zA (zA r bm.below) b0
 have dk : ew < ai.heap.size := zV r
 have p := zA p b0
 have dg : dz < ai.heap.size := zV p
 have bh : c1 < ai.heap.size := zV a
 have y := y.tr b0
 have c2 := y.size
 have ga := y
 refine W_range 66 [(pt c1 0)] (toldF text) zk (fun _ _ => rfl) (it_lines_Each_1 c1 text (by first | omega | assumption)) a ((fun D A B h hc hd => yA h hc (fun h => Nat.not_lt.2 (hd _ h) bh))) (by intro x; rfl) (fun K c9 A => ∃ (bf : List Brk) (ca : List Int) (ml : List (Int × Brk)) (ao : Value) (af : Value), (A.heap[b1]? = some (.cells [(S file)].toArray 9 (0, 0))) ∧ (A.heap[b4]? = some (.cells [(.pointer none)].toArray 27 (0, 0))) ∧ (A.heap[b7]? = some (.cells [.nilIface].toArray 39 (0, 0))) ∧ (A.heap[c5]? = some (gmObj .i32 vBrk ml)) ∧ (A.heap[cq]? = some (.cells [(.map (some c5)), (.map none)].toArray 69 (0, 0))) ∧ (A.heap[ex]? = some (.cells [(pt cq 0)].toArray 27 (0, 0))) ∧ (A.heap[ew]? = some (.cells [ao].toArray 22 (0, 0))) ∧ (A.heap[dz]? = some (.cells [af].toArray 79 (0, 0))) ∧ (A.heap[c1]? = some (.cells [(S text)].toArray 9 (0, 0))) ∧ (Row A w.heap.size 26 3 encBrk ao bf) ∧ (∀ g, Value.ownBlock ao = some g → ¬ Iv ai.heap.size K g) ∧ (Row A w.heap.size 3 1 encInt af ca) ∧ (∀ g, Value.ownBlock af = some g → ¬ Iv ai.heap.size K g) ∧ (Below w.heap.size w A) ∧ (ParI c9 bf ca) ∧ (ml = kv bf) ∧ (bf.length ≤ c9.length) ∧ (ca.length = bf.length)) (fun K c c9 A => (∃ (bq : Nat) (no : Int) (e : Int), (c = .ret) ∧ (A.heap[b1]? = some (.cells [(S file)].toArray 9 (0, 0))) ∧ (A.heap[b4]? = some (.cells [(.pointer none)].toArray 27 (0, 0))) ∧ (A.heap[b7]? = some (.cells [(.iface 83 (pt bq 0))].toArray 39 (0, 0))) ∧ (A.heap[cq]? = some (.cells [(.map (some c5)), (.map none)].toArray 69 (0, 0))) ∧ (A.heap[ex]? = some (.cells [(pt cq 0)].toArray 27 (0, 0))) ∧ (A.heap[c1]? = some (.cells [(S text)].toArray 9 (0, 0))) ∧ (A.heap[bq]? = some (.cells [(S file), (I6 no), (I6 e)].toArray 85 (0, 0))) ∧ (w.heap.size ≤ bq) ∧ (¬ Iv ai.heap.size K bq) ∧ (Below w.heap.size w A) ∧ ((parF text).2 = (no, e)) ∧ (e ≠ 0))) ?_ ?_ ?_ ?_ ?_ ?_
 ·intro A hA
  exact ⟨[], [], [], (.slice none 0 0), (.slice none 0 0), zA i hA, zA b hA, zA f hA, zA q hA, zA m hA, zA o hA, zA r hA, zA p hA, zA a hA, Row.nil _ _ _ _ _, nr_nil _ _, Row.nil _ _ _ _ _, nr_nil _ _, y.trans (hA.mono y.size), by exact ParI.nil, by rfl, by exact Nat.le_refl _, by rfl⟩
 ·rintro K c9 A B ⟨bf, ca, ml, ao, af, i, b, f, q, m, o, r, p, a, n, ad, j, ac, y, p1, p2, p3, p4⟩ hc
  exact ⟨bf, ca, ml, ao, af, yA i hc (fun h => Nat.not_lt.2 h.1 ce), yA b hc (fun h => Nat.not_lt.2 h.1 cb), yA f hc (fun h => Nat.not_lt.2 h.1 cv), yA q hc (fun h => Nat.not_lt.2 h.1 c0), yA m hc (fun h => Nat.not_lt.2 h.1 b5), yA o hc (fun h => Nat.not_lt.2 h.1 cp), yA r hc (fun h => Nat.not_lt.2 h.1 dk), yA p hc (fun h => Nat.not_lt.2 h.1 dg), yA a hc (fun h => Nat.not_lt.2 h.1 bh), n.ch hc ad, ad, j.ch hc ac, ac, hc.below y y.size (fun k h => Nat.le_trans c2 h.1), p1, p2, p3, p4⟩
 ·rintro K c c9 A B (⟨bq, no, e, fz, i, b, f, m, o, a, cy, ef, dq, y, q1, q2⟩) hc
  exact ⟨bq, no, e, fz, yA i hc (fun h => Nat.not_lt.2 h.1 ce), yA b hc (fun h => Nat.not_lt.2 h.1 cb), yA f hc (fun h => Nat.not_lt.2 h.1 cv), yA m hc (fun h => Nat.not_lt.2 h.1 b5), yA o hc (fun h => Nat.not_lt.2 h.1 cp), yA a hc (fun h => Nat.not_lt.2 h.1 bh), yA cy hc dq, ef, dq, hc.below y y.size (fun k h => Nat.le_trans c2 h.1), q1, q2⟩
 ·intro l K c9 x A hi hN gl hK cc
  obtain ⟨bf, ca, ml, ao, af, i, b, f, q, m, o, r, p, a, n, ad, j, ac, y, p1, p2, p3, p4⟩ := hi
  have hk := Kp.refl (ai.heap.size) K A
  have e0 : ¬ Iv (ai.heap.size) K b1 := fun h => Nat.not_lt.2 h.1 ce
  have db : ¬ Iv (ai.heap.size) K b4 := fun h => Nat.not_lt.2 h.1 cb
  have c8 : ¬ Iv (ai.heap.size) K b7 := fun h => Nat.not_lt.2 h.1 cv
  have dv : ¬ Iv (ai.heap.size) K c5 := fun h => Nat.not_lt.2 h.1 c0
  have eu : ¬ Iv (ai.heap.size) K cq := fun h => Nat.not_lt.2 h.1 b5
  have e3 : ¬ Iv (ai.heap.size) K ex := fun h => Nat.not_lt.2 h.1 cp
  have en : ¬ Iv (ai.heap.size) K ew := fun h => Nat.not_lt.2 h.1 dk
  have ed : ¬ Iv (ai.heap.size) K dz := fun h => Nat.not_lt.2 h.1 dg
  have d2 : ¬ Iv (ai.heap.size) K c1 := fun h => Nat.not_lt.2 h.1 bh
  have a := hN
  have ha := told_short (pre_mem cc)
  have fy := cc.length_le; rw [List.length_append, List.length_singleton] at fy
  have gp := told_len text
  have gn := scan_flen x.1 x.2
  have ff := scan_parts (no := x.1) (s := x.2) 1073741824 zo
  refine wR (zN [(I6 0)] 3 ?_)
  intro eb hm aq
  have cg := yE (zV q) aq
  have cs := NE.symm cg
  have fg := aq.ge y.size
  have em : ¬ Iv ai.heap.size K eb := fun h => by have := h.2; have := aq.num; omega
  have aw := j.new_ne aq
  replace hk := hk.ch (Ch.of_below aq.below) hK (fun _ h => h.elim)
  replace hK := Nat.le_trans hK (aq.below.size)
  have u := aq.here
  refine z1 0 (I6 x.1) [(I6 x.1)] u ?_
  intro g7 ay
  replace hk := hk.ch (Ch.of_wrote ay) hK (fun k e h => em (e ▸ h))
  replace hK := Nat.le_trans hK (Nat.le_of_eq ay.size.symm)
  have i := zA i aq.below
  have i := zD i ay (zP i u zi)
  have b := zA b aq.below
  have b := zD b ay (zP b u zi)
  have f := zA f aq.below
  have f := zD f ay (zP f u zi)
  have m := zA m aq.below
  have m := zD m ay (zP m u zi)
  have o := zA o aq.below
  have o := zD o ay (zP o u zi)
  have r := zA r aq.below
  have r := zD r ay (zP r u zi)
  have p := zA p aq.below
  have p := zD p ay (zP p u zi)
  have a := zA a aq.below
  have a := zD a ay (zP a u zi)
  have n := n.below aq.below
  have n := n.wrote ay (n.ne u zi)
  have u := ay.here
  refine nQ (zW (zH (zU (zB ⟨hk, ?_⟩))))
  intro fu a6
  have y := (y.tr aq.below).trans (ay.below fg)
  have y := a6.below y y.size (fun k h => Nat.le_trans c2 h.1)
  replace hK := Nat.le_trans hK a6.size
  replace hk := Kp.refl (ai.heap.size) K fu
  have u := yA u a6 em
  refine yI (wR (zr (.func (.func 38) #[] #[(pt b1 0), (pt eb 0)]) (zH (nR (zO 0 u rfl (zG (zc (c_lines_Scan x.1 x.2 _ (by first | omega | assumption)) ?_)))))))
  rintro _ gv ⟨ee, rfl, au, a2⟩
  have e5 := nr_row (K0 := ai.heap.size) au hK
  have i := yA i a6 e0
  have eh := Row.nb_call au i
  have a := yA a a6 d2
  have dx := Row.nb_call au a
  have au := au.base y.size
  replace hk := hk.ch (Ch.of_below a2) hK (fun _ h => h.elim)
  replace hK := Nat.le_trans hK (a2.size)
  have := scan_err x.1 x.2
  refine zG (zr (Value.agg #[(I6 ((scanF x.1 x.2).1.1)), (U8 ((scanF x.1 x.2).1.2.1)), (S ((scanF x.1 x.2).1.2.2.1)), ee, (S ((scanF x.1 x.2).1.2.2.2.2))]) (zr (I6 ((scanF x.1 x.2).2)) (zN [(I6 0), (U8 0), (S []), (.slice none 0 0), (S [])] 90 ?_)))
  intro fa hf ah
  have q := zA (yA (zD (zA q aq.below) ay cg) a6 dv) a2
  have b6 := yE (zV q) ah
  have y := y.tr a2
  have dd := ah.ge y.size
  have ev : ¬ Iv ai.heap.size K fa := fun h => by have := h.2; have := ah.num; omega
  replace hk := hk.ch (Ch.of_below ah.below) hK (fun _ h => h.elim)
  replace hK := Nat.le_trans hK (ah.below.size)
  have al := ah.here
  have au := au.below ah.below
  refine wH fa 0 [(I6 ((scanF x.1 x.2).1.1)), (U8 ((scanF x.1 x.2).1.2.1)), (S ((scanF x.1 x.2).1.2.2.1)), ee, (S ((scanF x.1 x.2).1.2.2.2.2))] [(I6 0), (U8 0), (S []), (.slice none 0 0), (S [])] [(I6 ((scanF x.1 x.2).1.1)), (U8 ((scanF x.1 x.2).1.2.1)), (S ((scanF x.1 x.2).1.2.2.1)), ee, (S ((scanF x.1 x.2).1.2.2.2.2))] 90 zk zk (xL rfl (xL rfl (xL rfl (xL au.one (xL rfl rfl))))) zk al zk rfl ?_
  intro hv ak
  replace hk := hk.ch (Ch.of_wrote ak) hK (fun k e h => ev (e ▸ h))
  replace hK := Nat.le_trans hK (Nat.le_of_eq ak.size.symm)
  have i := zA (zA i a2) ah.below
  have i := zD i ak (zP i al zi)
  have b := zA (zA (yA b a6 db) a2) ah.below
  have b := zD b ak (zP b al zi)
  have f := zA (zA (yA f a6 c8) a2) ah.below
  have f := zD f ak (zP f al zi)
  have m := zA (zA (yA m a6 eu) a2) ah.below
  have m := zD m ak (zP m al zi)
  have o := zA (zA (yA o a6 e3) a2) ah.below
  have o := zD o ak (zP o al zi)
  have r := zA (zA (yA r a6 en) a2) ah.below
  have r := zD r ak (zP r al zi)
  have p := zA (zA (yA p a6 ed) a2) ah.below
  have p := zD p ak (zP p al zi)
  have a := zA (zA a a2) ah.below
  have a := zD a ak (zP a al zi)
  have u := zA (zA u a2) ah.below
  have u := zD u ak (zP u al zi)
  have n := ((n.ch a6 ad).below a2).below ah.below
  have n := n.wrote ak (n.ne al zi)
  have j := ((((j.below aq.below).wrote ay aw).ch a6 ac).below a2).below ah.below
  have j := j.wrote ak (j.ne al zi)
  have au := au.wrote ak (au.ne al zi)
  have al := ak.here
  refine zH (nW (wR (zG (zNe .i64 ((scanF x.1 x.2).2) 0 ?_ ?_))))
  ·intro gq
   refine nQ (zT (wR (zG (zG (L_inline 38 [(I6 ((scanF x.1 x.2).2)), (pt b1 0), (pt eb 0)] zk zk (wG 11 func38 rfl (wR (zH (nR (zO 0 i rfl (zO 0 u rfl (zG (zr (Value.agg #[(S file), (I6 x.1), (I6 ((scanF x.1 x.2).2))]) (zN [(S file), (I6 x.1), (I6 ((scanF x.1 x.2).2))] 85 ?_))))))))))))))
   intro dp g2 bk
   have y := (y.tr ah.below).trans (ak.below dd)
   have el := bk.ge y.size
   have dy : ¬ Iv ai.heap.size K dp := fun h => by have := h.2; have := bk.num; omega
   replace hk := hk.ch (Ch.of_below bk.below) hK (fun _ h => h.elim)
   replace hK := Nat.le_trans hK (bk.below.size)
   have a1 := bk.here
   refine zr (.iface 83 (pt dp 0)) (zH (nQ (zS (yC [(.iface 83 (pt dp 0))] ?_))))
   show L _ _ _ _ _ _ (Fm.put _ _ (.iface 83 (pt dp 0))) _
   have b := zA b bk.below
   refine z1 0 (.pointer none) [(.pointer none)] b ?_
   intro hu bt
   replace hk := hk.ch (Ch.of_wrote bt) hK (fun k e h => db (e ▸ h))
   replace hK := Nat.le_trans hK (Nat.le_of_eq bt.size.symm)
   have i := zA i bk.below
   have i := zD i bt (zP i b zi)
   have f := zA f bk.below
   have f := zD f bt (zP f b zi)
   have m := zA m bk.below
   have m := zD m bt (zP m b zi)
   have a := zA a bk.below
   have a := zD a bt (zP a b zi)
   have a1 := zD a1 bt (zP a1 b zi)
   have b := bt.here
   refine z1 0 (.iface 83 (pt dp 0)) [(.iface 83 (pt dp 0))] f ?_
   intro hg bu
   replace hk := hk.ch (Ch.of_wrote bu) hK (fun k e h => c8 (e ▸ h))
   replace hK := Nat.le_trans hK (Nat.le_of_eq bu.size.symm)
   have i := zD i bu (zP i f zi)
   have b := zD b bu (zP b f zi)
   have m := zD m bu (zP m f zi)
   have o := zD (zA o bk.below) bt b3
   have o := zD o bu (zP o f zi)
   have a := zD a bu (zP a f zi)
   have a1 := zD a1 bu (zP a1 f zi)
   have f := bu.here
   refine nQ (zS (zE (zK ?_)))
   have y := ((y.tr bk.below).trans (bt.below di)).trans (bu.below dj)
   refine round_ret hk (⟨dp, x.1, ((scanF x.1 x.2).2), rfl, i, b, f, m, o, a, a1, el, dy, y, ?_, ?_⟩)
   ·exact par_scan p1 cc za
   assumption
  intro hw
  refine nQ (zF (zQ (zB (wR (zOW al ?_)))))
  by_cases gd : (readB ((scanF x.1 x.2).1.2.1) ((scanF x.1 x.2).1.2.2.2.1)).2.2 = 0
  ·skip
   refine zc (c_read_ok ((scanF x.1 x.2).1.1) ((scanF x.1 x.2).1.2.1) ((scanF x.1 x.2).1.2.2.1) ee ((scanF x.1 x.2).1.2.2.2.1) ((scanF x.1 x.2).1.2.2.2.2) _ au.rd (by exact ff.1) zo (by first | omega | assumption)) ?_
   rintro _ gr ⟨rfl, ae⟩
   replace hk := hk.ch (Ch.of_below ae) hK (fun _ h => h.elim)
   replace hK := Nat.le_trans hK (ae.size)
   refine zG (zr (Value.agg #[(I3 ((readB ((scanF x.1 x.2).1.2.1) ((scanF x.1 x.2).1.2.2.2.1)).1.1)), (I3 ((readB ((scanF x.1 x.2).1.2.1) ((scanF x.1 x.2).1.2.2.2.1)).1.2.1)), (U8 ((readB ((scanF x.1 x.2).1.2.1) ((scanF x.1 x.2).1.2.2.2.1)).1.2.2))]) (zr (.bool ((readB ((scanF x.1 x.2).1.2.1) ((scanF x.1 x.2).1.2.2.2.1)).2.1)) (zX ((readB ((scanF x.1 x.2).1.2.1) ((scanF x.1 x.2).1.2.2.2.1)).2.1) ?_ ?_)))
   ·intro g9
    refine zr .nilIface (zN [(I3 0), (I3 0), (U8 0)] 26 ?_)
    intro fs g5 an
    have q := zA (zD (zA q ah.below) ak b6) ae
    have a9 := yE (zV q) an
    have dl := NE.symm a9
    have y := ((y.tr ah.below).trans (ak.below dd)).tr ae
    have cu := an.ge y.size
    have bz : ¬ Iv ai.heap.size K fs := fun h => by have := h.2; have := an.num; omega
    have n := n.below ae
    have z := n.new_ne an
    replace hk := hk.ch (Ch.of_below an.below) hK (fun _ h => h.elim)
    replace hK := Nat.le_trans hK (an.below.size)
    have t := an.here
    refine wN [(I3 ((readB ((scanF x.1 x.2).1.2.1) ((scanF x.1 x.2).1.2.2.2.1)).1.1)), (I3 ((readB ((scanF x.1 x.2).1.2.1) ((scanF x.1 x.2).1.2.2.2.1)).1.2.1)), (U8 ((readB ((scanF x.1 x.2).1.2.1) ((scanF x.1 x.2).1.2.2.2.1)).1.2.2))] t ?_
    intro hr ax
    replace hk := hk.ch (Ch.of_wrote ax) hK (fun k e h => bz (e ▸ h))
    replace hK := Nat.le_trans hK (Nat.le_of_eq ax.size.symm)
    have i := zA (zA i ae) an.below
    have i := zD i ax (zP i t zi)
    have b := zA (zA b ae) an.below
    have b := zD b ax (zP b t zi)
    have f := zA (zA f ae) an.below
    have f := zD f ax (zP f t zi)
    have m := zA (zA m ae) an.below
    have m := zD m ax (zP m t zi)
    have o := zA (zA o ae) an.below
    have o := zD o ax (zP o t zi)
    have r := zA (zA r ae) an.below
    have r := zD r ax (zP r t zi)
    have p := zA (zA p ae) an.below
    have p := zD p ax (zP p t zi)
    have a := zA (zA a ae) an.below
    have a := zD a ax (zP a t zi)
    have u := zA (zA u ae) an.below
    have u := zD u ax (zP u t zi)
    have j := (j.below ae).below an.below
    have j := j.wrote ax (j.ne t zi)
    have t := ax.here
    have y := (y.tr an.below).trans (ax.below cu)
    have q := zD (zA q an.below) ax a9
    refine zH (zH (nW (wR (zG (zr (.bool false) (nQ (zF (zQ (zB (yF (wR (zG (wX true (nQ (zF (zQ (zB (yF (wR (zO 0 o rfl (zOW t (zc (c_add cq c5 ml (.map none) ((readB ((scanF x.1 x.2).1.2.1) ((scanF x.1 x.2).1.2.2.2.1)).1.1) ((readB ((scanF x.1 x.2).1.2.1) ((scanF x.1 x.2).1.2.2.2.1)).1.2.1) ((readB ((scanF x.1 x.2).1.2.1) ((scanF x.1 x.2).1.2.2.2.1)).1.2.2) w.heap.size _ y.size m q d9) ?_))))))))))))))))))))))
    rintro _ hn ⟨rfl, fb, aj⟩
    replace hk := hk.ch aj hK (fun k e h => dv (e ▸ h))
    replace hK := Nat.le_trans hK aj.size
    have y := aj.below y y.size (fun k e => e ▸ d9)
    have n := (n.below an.below).wrote ax z
    have n := n.ch aj (fun g e d => (n.ne q (by simp [gmObj])) (d ▸ e))
    have j := j.ch aj (fun g e d => (j.ne q (by simp [gmObj])) (d ▸ e))
    have q := fb
    refine zH (nR (zG (zNe .i64 (addE ml (((readB ((scanF x.1 x.2).1.2.1) ((scanF x.1 x.2).1.2.2.2.1)).1.1), ((readB ((scanF x.1 x.2).1.2.1) ((scanF x.1 x.2).1.2.2.2.1)).1.2.1), ((readB ((scanF x.1 x.2).1.2.1) ((scanF x.1 x.2).1.2.2.2.1)).1.2.2))) 0 ?_ ?_)))
    ·intro hh
     refine nQ (zT (wR (zG (zG (L_inline 38 [(I6 (addE ml (((readB ((scanF x.1 x.2).1.2.1) ((scanF x.1 x.2).1.2.2.2.1)).1.1), ((readB ((scanF x.1 x.2).1.2.1) ((scanF x.1 x.2).1.2.2.2.1)).1.2.1), ((readB ((scanF x.1 x.2).1.2.1) ((scanF x.1 x.2).1.2.2.2.1)).1.2.2)))), (pt b1 0), (pt eb 0)] zk zk (wG 11 func38 rfl ?_))))))
     have i := yA i aj (fun e => cr e)
     have u := yA u aj (fun e => cs e)
     refine wR (zH (nR (zO 0 i rfl (zO 0 u rfl (zG (zr (Value.agg #[(S file), (I6 x.1), (I6 (addE ml (((readB ((scanF x.1 x.2).1.2.1) ((scanF x.1 x.2).1.2.2.2.1)).1.1), ((readB ((scanF x.1 x.2).1.2.1) ((scanF x.1 x.2).1.2.2.2.1)).1.2.1), ((readB ((scanF x.1 x.2).1.2.1) ((scanF x.1 x.2).1.2.2.2.1)).1.2.2))))]) (zN [(S file), (I6 x.1), (I6 (addE ml (((readB ((scanF x.1 x.2).1.2.1) ((scanF x.1 x.2).1.2.2.2.1)).1.1), ((readB ((scanF x.1 x.2).1.2.1) ((scanF x.1 x.2).1.2.2.2.1)).1.2.1), ((readB ((scanF x.1 x.2).1.2.1) ((scanF x.1 x.2).1.2.2.2.1)).1.2.2))))] 85 ?_)))))))
     intro du g3 bl
     have d8 := bl.ge y.size
     have d1 : ¬ Iv ai.heap.size K du := fun h => by have := h.2; have := bl.num; omega
     replace hk := hk.ch (Ch.of_below bl.below) hK (fun _ h => h.elim)
     replace hK := Nat.le_trans hK (bl.below.size)
     have az := bl.here
     refine zr (.iface 83 (pt du 0)) (zH (nQ (zS (yC [(.iface 83 (pt du 0))] ?_))))
     show L _ _ _ _ _ _ (Fm.put _ _ (.iface 83 (pt du 0))) _
     have b := zA (yA b aj (fun e => cw e)) bl.below
     refine z1 0 (.pointer none) [(.pointer none)] b ?_
     intro gs bs
     replace hk := hk.ch (Ch.of_wrote bs) hK (fun k e h => db (e ▸ h))
     replace hK := Nat.le_trans hK (Nat.le_of_eq bs.size.symm)
     have i := zA i bl.below
     have i := zD i bs (zP i b zi)
     have f := zA (yA f aj (fun e => cm e)) bl.below
     have f := zD f bs (zP f b zi)
     have m := zA (yA m aj (fun e => b8 e)) bl.below
     have m := zD m bs (zP m b zi)
     have a := zA (yA a aj (fun e => bx e)) bl.below
     have a := zD a bs (zP a b zi)
     have az := zD az bs (zP az b zi)
     have b := bs.here
     refine z1 0 (.iface 83 (pt du 0)) [(.iface 83 (pt du 0))] f ?_
     intro gx br
     replace hk := hk.ch (Ch.of_wrote br) hK (fun k e h => c8 (e ▸ h))
     replace hK := Nat.le_trans hK (Nat.le_of_eq br.size.symm)
     have i := zD i br (zP i f zi)
     have b := zD b br (zP b f zi)
     have m := zD m br (zP m f zi)
     have o := zD (zA (yA o aj (fun e => ck e)) bl.below) bs b3
     have o := zD o br (zP o f zi)
     have a := zD a br (zP a f zi)
     have az := zD az br (zP az f zi)
     have f := br.here
     refine nQ (zS (zE (zK ?_)))
     have y := ((y.tr bl.below).trans (bs.below di)).trans (br.below dj)
     refine round_ret hk (⟨du, x.1, (addE ml (((readB ((scanF x.1 x.2).1.2.1) ((scanF x.1 x.2).1.2.2.2.1)).1.1), ((readB ((scanF x.1 x.2).1.2.1) ((scanF x.1 x.2).1.2.2.2.1)).1.2.1), ((readB ((scanF x.1 x.2).1.2.1) ((scanF x.1 x.2).1.2.2.2.1)).1.2.2))), rfl, i, b, f, m, o, a, az, d8, d1, y, ?_, ?_⟩)
     ·exact par_add2 p1 cc p2 za za za za
     assumption
    intro gm
    have t := yA t aj (fun e => dl e)
    have r := yA r aj (fun e => dt e)
    refine nQ (zF (zQ (zB (wR (zO 0 r rfl (zOW t (wV el22 w.heap.size ao bf ((readB ((scanF x.1 x.2).1.2.1) ((scanF x.1 x.2).1.2.2.2.1)).1.1, (readB ((scanF x.1 x.2).1.2.1) ((scanF x.1 x.2).1.2.2.2.1)).1.2.1, (readB ((scanF x.1 x.2).1.2.1) ((scanF x.1 x.2).1.2.2.2.1)).1.2.2) y.size n zo zk rfl rfl zk rfl zk zk ?_)))))))
    intro ey g1 e6 a8 ej
    have ea := nr_app ej ad hK
    have dw := wP ej z (zV t)
    have y := y.tg y.size a8 n
    replace hk := hk.ch (Ch.of_grown a8) hK (fun k e => ad k e)
    replace hK := Nat.le_trans hK (a8.size)
    have i := yA i aj (fun e => cr e)
    have i := yH i a8 (n.ne i zi)
    have b := yA b aj (fun e => cw e)
    have b := yH b a8 (n.ne b zi)
    have f := yA f aj (fun e => cm e)
    have f := yH f a8 (n.ne f zi)
    have q := yH q a8 (n.ne q (by simp [gmObj]))
    have m := yA m aj (fun e => b8 e)
    have m := yH m a8 (n.ne m zi)
    have o := yA o aj (fun e => ck e)
    have o := yH o a8 (n.ne o zi)
    have r := yH r a8 (n.ne r zi)
    have p := yA p aj (fun e => dn e)
    have p := yH p a8 (n.ne p zi)
    have a := yA a aj (fun e => bx e)
    have a := yH a a8 (n.ne a zi)
    have u := yA u aj (fun e => cs e)
    have u := yH u a8 (n.ne u zi)
    have j := j.grown a8 (j.apart n zk)
    have z := dw
    have n := e6
    have ad := ea; clear ea
    refine wJ ew 0 ey [ao] [ey] 22 zk zk n.one zk r zi rfl ?_
    intro go a5
    replace hk := hk.ch (Ch.of_wrote a5) hK (fun k e h => en (e ▸ h))
    replace hK := Nat.le_trans hK (Nat.le_of_eq a5.size.symm)
    have i := zD i a5 (zP i r zi)
    have b := zD b a5 (zP b r zi)
    have f := zD f a5 (zP f r zi)
    have m := zD m a5 (zP m r zi)
    have o := zD o a5 (zP o r zi)
    have p := zD p a5 (zP p r zi)
    have a := zD a a5 (zP a r zi)
    have u := zD u a5 (zP u r zi)
    have n := n.wrote a5 (n.ne r zi)
    have j := j.wrote a5 (j.ne r zi)
    have r := a5.here
    have y := y.trans (a5.below fi)
    refine nQ (zW (zO 0 p rfl (zO 0 u rfl (wV el79 w.heap.size af ca x.1 y.size j zo zk rfl rfl zk rfl zk zk ?_))))
    intro e2 g0 fh bg d5
    have ea := nr_app d5 ac hK
    have ei := wP d5 aw (zV u)
    have y := y.tg y.size bg j
    replace hk := hk.ch (Ch.of_grown bg) hK (fun k e => ac k e)
    replace hK := Nat.le_trans hK (bg.size)
    have i := yH i bg (j.ne i zi)
    have b := yH b bg (j.ne b zi)
    have f := yH f bg (j.ne f zi)
    have q := zD q a5 cl
    have q := yH q bg (j.ne q (by simp [gmObj]))
    have m := yH m bg (j.ne m zi)
    have o := yH o bg (j.ne o zi)
    have r := yH r bg (j.ne r zi)
    have p := yH p bg (j.ne p zi)
    have a := yH a bg (j.ne a zi)
    have n := n.grown bg (n.apart j zk)
    have aw := ei
    have j := fh
    have ac := ea; clear ea
    refine wJ dz 0 e2 [af] [e2] 79 zk zk j.one zk p zi rfl ?_
    intro he ba
    replace hk := hk.ch (Ch.of_wrote ba) hK (fun k e h => ed (e ▸ h))
    replace hK := Nat.le_trans hK (Nat.le_of_eq ba.size.symm)
    have i := zD i ba (zP i p zi)
    have b := zD b ba (zP b p zi)
    have f := zD f ba (zP f p zi)
    have m := zD m ba (zP m p zi)
    have o := zD o ba (zP o p zi)
    have r := zD r ba (zP r p zi)
    have a := zD a ba (zP a p zi)
    have n := n.wrote ba (n.ne p zi)
    have j := j.wrote ba (j.ne p zi)
    have p := ba.here
    refine zU (zL ?_)
    have y := y.trans (ba.below fk)
    have q := zD q ba cd
    refine wL hk a ⟨(bf ++ [((readB ((scanF x.1 x.2).1.2.1) ((scanF x.1 x.2).1.2.2.2.1)).1.1, (readB ((scanF x.1 x.2).1.2.1) ((scanF x.1 x.2).1.2.2.2.1)).1.2.1, (readB ((scanF x.1 x.2).1.2.1) ((scanF x.1 x.2).1.2.2.2.1)).1.2.2)]), (ca ++ [x.1]), (addM ml (((readB ((scanF x.1 x.2).1.2.1) ((scanF x.1 x.2).1.2.2.2.1)).1.1), ((readB ((scanF x.1 x.2).1.2.1) ((scanF x.1 x.2).1.2.2.2.1)).1.2.1), ((readB ((scanF x.1 x.2).1.2.1) ((scanF x.1 x.2).1.2.2.2.1)).1.2.2))), ey, e2, i, b, f, q, m, o, r, p, a, n, ad, j, ac, y, ?_, ?_, ?_, ?_⟩
    ·exact ParI.add p1 za za za (add_kv p2 za)
    ·exact addM_kv p2 za
    ·(simp only [List.length_append, List.length_cons, List.length_nil]; omega)
    (simp only [List.length_append, List.length_cons, List.length_nil]; omega)
   intro gz
   refine zr .nilIface (zN [(I3 0), (I3 0), (U8 0)] 26 ?_)
   intro fw g8 ar
   have q := zA (zD (zA q ah.below) ak b6) ae
   have a9 := yE (zV q) ar
   have y := ((y.tr ah.below).trans (ak.below dd)).tr ae
   have cu := ar.ge y.size
   have bz : ¬ Iv ai.heap.size K fw := fun h => by have := h.2; have := ar.num; omega
   have n := n.below ae
   have z := n.new_ne ar
   replace hk := hk.ch (Ch.of_below ar.below) hK (fun _ h => h.elim)
   replace hK := Nat.le_trans hK (ar.below.size)
   have t := ar.here
   refine wN [(I3 ((readB ((scanF x.1 x.2).1.2.1) ((scanF x.1 x.2).1.2.2.2.1)).1.1)), (I3 ((readB ((scanF x.1 x.2).1.2.1) ((scanF x.1 x.2).1.2.2.2.1)).1.2.1)), (U8 ((readB ((scanF x.1 x.2).1.2.1) ((scanF x.1 x.2).1.2.2.2.1)).1.2.2))] t ?_
   intro gw a7
   replace hk := hk.ch (Ch.of_wrote a7) hK (fun k e h => bz (e ▸ h))
   replace hK := Nat.le_trans hK (Nat.le_of_eq a7.size.symm)
   have i := zA (zA i ae) ar.below
   have i := zD i a7 (zP i t zi)
   have b := zA (zA b ae) ar.below
   have b := zD b a7 (zP b t zi)
   have f := zA (zA f ae) ar.below
   have f := zD f a7 (zP f t zi)
   have m := zA (zA m ae) ar.below
   have m := zD m a7 (zP m t zi)
   have o := zA (zA o ae) ar.below
   have o := zD o a7 (zP o t zi)
   have r := zA (zA r ae) ar.below
   have r := zD r a7 (zP r t zi)
   have p := zA (zA p ae) ar.below
   have p := zD p a7 (zP p t zi)
   have a := zA (zA a ae) ar.below
   have a := zD a a7 (zP a t zi)
   have j := (j.below ae).below ar.below
   have j := j.wrote a7 (j.ne t zi)
   refine zH (zH (nW (wR (zG (zr (.bool false) (nQ (zF (zQ (zB (yF (wR (zG (wX false (nQ (zT (xG (yD (yQ ?_))))))))))))))))))
   have y := (y.tr ar.below).trans (a7.below cu)
   have q := zD (zA q ar.below) a7 a9
   have n := (n.below ar.below).wrote a7 z
   refine wL hk a ⟨bf, ca, ml, ao, af, i, b, f, q, m, o, r, p, a, n, ad, j, ac, y, ?_, ?_, ?_, ?_⟩
   ·exact ParI.skip p1 za za za
   ·exact p2
   ·(simp only [List.length_append, List.length_cons, List.length_nil]; omega)
   exact p4
  skip
  refine zc (c_read_bad ((scanF x.1 x.2).1.1) ((scanF x.1 x.2).1.2.1) ((scanF x.1 x.2).1.2.2.1) ee ((scanF x.1 x.2).1.2.2.2.1) ((scanF x.1 x.2).1.2.2.2.2) _ au.rd (by exact ff.1) zo (by first | omega | assumption)) ?_
  rintro _ ho ⟨rfl, bn⟩
  replace hk := hk.ch (Ch.of_below bn) hK (fun _ h => h.elim)
  replace hK := Nat.le_trans hK (bn.size)
  refine zG (zr (Value.agg #[(I3 0), (I3 0), (U8 0)]) (zr (.bool false) (zr (.iface 28 (I6 ((readB ((scanF x.1 x.2).1.2.1) ((scanF x.1 x.2).1.2.2.2.1)).2.2))) (zN [(I3 0), (I3 0), (U8 0)] 26 ?_))))
  intro fc gb ap
  have y := ((y.tr ah.below).trans (ak.below dd)).tr bn
  have cu := ap.ge y.size
  have bz : ¬ Iv ai.heap.size K fc := fun h => by have := h.2; have := ap.num; omega
  have n := n.below bn
  have z := n.new_ne ap
  replace hk := hk.ch (Ch.of_below ap.below) hK (fun _ h => h.elim)
  replace hK := Nat.le_trans hK (ap.below.size)
  have t := ap.here
  refine wN [(I3 0), (I3 0), (U8 0)] t ?_
  intro f5 bc
  replace hk := hk.ch (Ch.of_wrote bc) hK (fun k e h => bz (e ▸ h))
  replace hK := Nat.le_trans hK (Nat.le_of_eq bc.size.symm)
  have i := zA (zA i bn) ap.below
  have i := zD i bc (zP i t zi)
  have b := zA (zA b bn) ap.below
  have b := zD b bc (zP b t zi)
  have f := zA (zA f bn) ap.below
  have f := zD f bc (zP f t zi)
  have m := zA (zA m bn) ap.below
  have m := zD m bc (zP m t zi)
  have o := zA (zA o bn) ap.below
  have o := zD o bc (zP o t zi)
  have a := zA (zA a bn) ap.below
  have a := zD a bc (zP a t zi)
  have u := zA (zA u bn) ap.below
  have u := zD u bc (zP u t zi)
  have y := (y.tr ap.below).trans (bc.below cu)
  refine zH (zH (nW (wR (zG (zr (.bool true) (nQ (zT (wR (zG (zG (zc (c_code ((readB ((scanF x.1 x.2).1.2.1) ((scanF x.1 x.2).1.2.2.2.1)).2.2) _ (xJ hty y)) ?_)))))))))))
  rintro _ gc ⟨rfl, be⟩
  replace hk := hk.ch (Ch.of_below be) hK (fun _ h => h.elim)
  replace hK := Nat.le_trans hK (be.size)
  refine L_inline 38 [(I6 ((readB ((scanF x.1 x.2).1.2.1) ((scanF x.1 x.2).1.2.2.2.1)).2.2)), (pt b1 0), (pt eb 0)] zk zk (wG 11 func38 rfl ?_)
  have i := zA i be
  have u := zA u be
  refine wR (zH (nR (zO 0 i rfl (zO 0 u rfl (zG (zr (Value.agg #[(S file), (I6 x.1), (I6 ((readB ((scanF x.1 x.2).1.2.1) ((scanF x.1 x.2).1.2.2.2.1)).2.2))]) (zN [(S file), (I6 x.1), (I6 ((readB ((scanF x.1 x.2).1.2.1) ((scanF x.1 x.2).1.2.2.2.1)).2.2))] 85 ?_)))))))
  intro ct gi av
  have y := y.tr be
  have d6 := av.ge y.size
  have d0 : ¬ Iv ai.heap.size K ct := fun h => by have := h.2; have := av.num; omega
  replace hk := hk.ch (Ch.of_below av.below) hK (fun _ h => h.elim)
  replace hK := Nat.le_trans hK (av.below.size)
  have a0 := av.here
  refine zr (.iface 83 (pt ct 0)) (zH (nQ (zS (yC [(.iface 83 (pt ct 0))] ?_))))
  show L _ _ _ _ _ _ (Fm.put _ _ (.iface 83 (pt ct 0))) _
  have b := zA (zA b be) av.below
  refine z1 0 (.pointer none) [(.pointer none)] b ?_
  intro f2 bd
  replace hk := hk.ch (Ch.of_wrote bd) hK (fun k e h => db (e ▸ h))
  replace hK := Nat.le_trans hK (Nat.le_of_eq bd.size.symm)
  have i := zA i av.below
  have i := zD i bd (zP i b zi)
  have f := zA (zA f be) av.below
  have f := zD f bd (zP f b zi)
  have m := zA (zA m be) av.below
  have m := zD m bd (zP m b zi)
  have a := zA (zA a be) av.below
  have a := zD a bd (zP a b zi)
  have a0 := zD a0 bd (zP a0 b zi)
  have b := bd.here
  refine z1 0 (.iface 83 (pt ct 0)) [(.iface 83 (pt ct 0))] f ?_
  intro f3 bb
  replace hk := hk.ch (Ch.of_wrote bb) hK (fun k e h => c8 (e ▸ h))
  replace hK := Nat.le_trans hK (Nat.le_of_eq bb.size.symm)
  have i := zD i bb (zP i f zi)
  have b := zD b bb (zP b f zi)
  have m := zD m bb (zP m f zi)
  have o := zD (zA (zA o be) av.below) bd b3
  have o := zD o bb (zP o f zi)
  have a := zD a bb (zP a f zi)
  have a0 := zD a0 bb (zP a0 f zi)
  have f := bb.here
  refine nQ (zS (zE (zK ?_)))
  have y := ((y.tr av.below).trans (bd.below di)).trans (bb.below dj)
  refine round_ret hk (⟨ct, x.1, ((readB ((scanF x.1 x.2).1.2.1) ((scanF x.1 x.2).1.2.2.2.1)).2.2), rfl, i, b, f, m, o, a, a0, d6, d0, y, ?_, ?_⟩)
  ·exact par_read p1 cc za za
  assumption
 ·intro K A hi fv aa
  obtain ⟨bf, ca, ml, ao, af, i, b, f, q, m, o, r, p, a, n, ad, j, ac, y, p1, p2, p3, p4⟩ := hi
  refine zL (zB (yF (wR (zO 0 r rfl (zO 0 o rfl (zr (.func (.func 30) #[(pt cq 0)] #[]) (zc (c_idx ao bf cq c5 ml (.map none) [] _ n.rd m (GmAt.of q) (.inl ⟨rfl, rfl⟩) (by (have := told_len text; omega))) ?_)))))))
  rintro _ f1 ⟨rfl, a4⟩
  refine zH (nR (zG (zGe .i64 (idxL ml bf) 0 ?_ ?_)))
  ·intro gh
   have gu := idxL_bd ml bf
   refine nQ (zT (yF (W_heldJ 9 10 zk zk zk ?_)))
   intro f8 a3
   refine ⟨fun w => (w.heap[b1]? = some (.cells [(S file)].toArray 9 (0, 0))) ∧ (w.heap[dz]? = some (.cells [af].toArray 79 (0, 0))) ∧ (Rd w encInt af ca), ?_⟩
   have i := zA (zA i a4) a3
   have p := zA (zA p a4) a3
   have j := (j.below a4).below a3
   refine jt 0 [0, 5, 6, 7, 9] rfl (S file) ⟨i, p, j.rd⟩ (yY b1 0 (S file) zk zf (fun w2 h2 => zR h2.1 rfl)) (hq := (zC (zC yX))) (jt 1 [1, 3, 4, 5, 6, 7, 9] rfl af ⟨i, p, j.rd⟩ (yY dz 0 af zk zf (fun w2 h2 => zR h2.2.1 rfl)) (hq := (zC (zC yX))) (jp 2 [2, 3, 4, 5, 6, 7, 9] rfl (I6 (idxL ml bf)) ⟨i, p, j.rd⟩ (hq := (zC (zC yX))) ?_))
   have hz := yL ca ((idxL ml bf).toNat) (by first | omega | assumption); obtain ⟨dm, d4⟩ := hz
   have hz := (j.rd).at (k := 1) zj d4; obtain ⟨d7, da, eg, fo⟩ := hz
   refine jt 3 [3, 4, 5, 6, 7, 9] rfl (pt d7 (da + ((idxL ml bf).toNat) * 1)) ⟨i, p, j.rd⟩ (R_ixaddrZ (k := .i64) af (idxL ml bf) ((idxL ml bf).toNat) _ d7 da zo el79 eg (by first | omega | assumption) zk zk) (hq := (zC (zC yX))) (jt 4 [4, 5, 6, 7, 9] rfl (I6 dm) ⟨i, p, j.rd⟩ (yY d7 (da + ((idxL ml bf).toNat) * 1) (I6 dm) zk zf (fun w2 h2 => Rd.later (k := 1) h2.2.2 zj eg d4 0 _ rfl)) (hq := (zC (zC yX))) (jp 5 [5, 6, 7, 9] rfl (Value.agg #[(S file), (I6 dm), (I6 82)]) ⟨i, p, j.rd⟩ (hq := (zC (zC yX))) (hrun := fun _ _ => zk) ?_))
   refine J_all2 6 8 zk ?_ ?_
   ·skip
    refine J_op 6 rfl ?_ rfl
    refine zN [(S file), (I6 dm), (I6 82)] 85 ?_
    intro c3 gk bj
    have y := (y.tr a4).tr a3
    have dr := bj.ge y.size
    have ag := bj.here
    refine zU ?_
    have i := zA i bj.below
    have p := zA p bj.below
    have j := j.below bj.below
    refine ⟨rfl, .inr ⟨i, p, j.rd⟩, jp 7 [7, 9] rfl (.iface 83 (pt c3 0)) ⟨i, p, j.rd⟩ (hq := (zC (zC yX))) (J_all1 8 zk (J_op 8 rfl ?_ rfl))⟩
    have b := zA (zA (zA b a4) a3) bj.below
    refine z1 0 (.pointer none) [(.pointer none)] b ?_
    intro f4 bo
    have i := zD i bo (zP i b zi)
    have f := zA (zA (zA f a4) a3) bj.below
    have f := zD f bo (zP f b zi)
    have p := zD p bo (zP p b zi)
    have aa := zA (zA (zA aa a4) a3) bj.below
    have aa := zD aa bo (zP aa b zi)
    have ag := zD ag bo (zP ag b zi)
    have j := j.wrote bo (j.ne b zi)
    have b := bo.here
    refine zU ?_
    refine ⟨rfl, .inr ⟨i, p, j.rd⟩, J_all1 9 zk (J_op 9 rfl ?_ rfl)⟩
    refine z1 0 (.iface 83 (pt c3 0)) [(.iface 83 (pt c3 0))] f ?_
    intro f6 cf
    have b := zD b cf (zP b f zi)
    have aa := zD aa cf (zP aa f zi)
    have ag := zD ag cf (zP ag f zi)
    have f := cf.here
    refine zU ?_
    refine ⟨rfl, .inl rfl, J_done zk (zB (zS (zE (end_retM (ds := [⟨.collected ai.heap.size, #[]⟩]) zk (Lv_mark aa ?_)))))⟩
    intro e8 dc
    have b := zD b dc (zP b aa zi)
    have f := zD f dc (zP f aa zi)
    have ag := zD ag dc (zP ag aa zi)
    refine Lv_nil [.cell 4 27, .cell 5 39] [(.pointer none), (.iface 83 (pt c3 0))] rfl ⟨⟨⟨b4, 0, none⟩, zk, load_one zk (zR b rfl)⟩, ⟨⟨b7, 0, none⟩, zk, load_one zk (zR f rfl)⟩, trivial⟩ ?_
    have oE : e8.heap[c3]? = some (.cells [(S file), (I6 ((parF text).2.1)), (I6 ((parF text).2.2))].toArray 85 (0, 0)) := by (rw [par_lone3 p1 p2 za za]; exact ag)
    have y := (((y.tr bj.below).trans (bo.below di)).trans (cf.below dj)).trans (dc.below c2)
    exact ⟨c3, rfl, oE, dr, y⟩
   skip
   refine J_op 8 rfl ?_ rfl
   have b := zA (zA b a4) a3
   refine z1 0 (.pointer none) [(.pointer none)] b ?_
   intro gj bw
   have i := zD i bw (zP i b zi)
   have f := zA (zA f a4) a3
   have f := zD f bw (zP f b zi)
   have p := zD p bw (zP p b zi)
   have aa := zA (zA aa a4) a3
   have aa := zD aa bw (zP aa b zi)
   have j := j.wrote bw (j.ne b zi)
   have b := bw.here
   refine zU ?_
   refine ⟨rfl, .inr ⟨i, p, j.rd⟩, J_all1 6 zk (J_op 6 rfl ?_ rfl)⟩
   refine zN [(S file), (I6 dm), (I6 82)] 85 ?_
   intro c4 gg bi
   have y := ((y.tr a4).tr a3).trans (bw.below di)
   have dr := bi.ge y.size
   have ag := bi.here
   refine zU ?_
   have i := zA i bi.below
   have p := zA p bi.below
   have j := j.below bi.below
   refine ⟨rfl, .inr ⟨i, p, j.rd⟩, jp 7 [7, 9] rfl (.iface 83 (pt c4 0)) ⟨i, p, j.rd⟩ (hq := (zC (zC yX))) (J_all1 9 zk (J_op 9 rfl ?_ rfl))⟩
   have f := zA f bi.below
   refine z1 0 (.iface 83 (pt c4 0)) [(.iface 83 (pt c4 0))] f ?_
   intro f9 ci
   have b := zA b bi.below
   have b := zD b ci (zP b f zi)
   have aa := zA aa bi.below
   have aa := zD aa ci (zP aa f zi)
   have ag := zD ag ci (zP ag f zi)
   have f := ci.here
   refine zU ?_
   refine ⟨rfl, .inl rfl, J_done zk (zB (zS (zE (end_retM (ds := [⟨.collected ai.heap.size, #[]⟩]) zk (Lv_mark aa ?_)))))⟩
   intro fj c6
   have b := zD b c6 (zP b aa zi)
   have f := zD f c6 (zP f aa zi)
   have ag := zD ag c6 (zP ag aa zi)
   refine Lv_nil [.cell 4 27, .cell 5 39] [(.pointer none), (.iface 83 (pt c4 0))] rfl ⟨⟨⟨b4, 0, none⟩, zk, load_one zk (zR b rfl)⟩, ⟨⟨b7, 0, none⟩, zk, load_one zk (zR f rfl)⟩, trivial⟩ ?_
   have oE : fj.heap[c4]? = some (.cells [(S file), (I6 ((parF text).2.1)), (I6 ((parF text).2.2))].toArray 85 (0, 0)) := by (rw [par_lone3 p1 p2 za za]; exact ag)
   have y := ((y.tr bi.below).trans (ci.below dj)).trans (c6.below c2)
   exact ⟨c4, rfl, oE, dr, y⟩
  intro fd
  exfalso; (rw [par_ok2 p1 p2 fd] at hbad; exact hbad rfl)
 intro K c fe x0 A cc hx fv aa
 obtain ⟨c9, ek⟩ : ∃ c9, c9 = fe ++ [x0] := ⟨_, rfl⟩
 rw [← ek] at cc; try rw [← ek] at hx
 rcases hx with ⟨bq, no, e, rfl, i, b, f, m, o, a, cy, ef, dq, y, q1, q2⟩
 obtain rfl : no = (parF text).2.1 := by rw [q1]
 obtain rfl : e = (parF text).2.2 := by rw [q1]
 refine zS (zK (zE (end_retM (ds := [⟨.collected ai.heap.size, #[]⟩]) zk (Lv_mark aa ?_))))
 intro e9 c7
 have b := zD b c7 (zP b aa zi)
 have f := zD f c7 (zP f aa zi)
 have cy := zD cy c7 (zP cy aa zi)
 refine Lv_nil [.cell 4 27, .cell 5 39] [(.pointer none), (.iface 83 (pt bq 0))] rfl ⟨⟨⟨b4, 0, none⟩, zk, load_one zk (zR b rfl)⟩, ⟨⟨b7, 0, none⟩, zk, load_one zk (zR f rfl)⟩, trivial⟩ ?_
 have oE : e9.heap[bq]? = some (.cells [(S file), (I6 ((parF text).2.1)), (I6 ((parF text).2.2))].toArray 85 (0, 0)) := by exact cy
 have y := y.trans (c7.below c2)
 exact ⟨bq, rfl, oE, ef, y⟩
end Go.Proofs.YtddnhlobnembaaaGreatDoor
end

/- === Wcb6 === -/
section
/- Walks, written by my program walk.py out of the specification cb6.py: each theorem says what one function returns and that it leaves memory as it was. -/
namespace Go.Proofs.YtddnhlobnembaaaGreatDoor
open Go Go.RowKit Go.FK _root_.Go.Proofs.Tryz
set_option maxHeartbeats 4000000
set_option maxRecDepth 100000
set_option maxRecDepth 100000
theorem awk_par : parF ([48, 48, 50, 56, 59, 32, 48, 48, 50, 57, 59, 32, 111, 10] : List UInt8) = (([(40, 41, 1)], [1]), 1, 82) := by kernel_rfl
theorem awk_new : newB ([(40, 41, 1), (41, 40, 2)] : List Brk) = none := by kernel_rfl
theorem el50 : Elem Tryz.prog 50 52 2 8 := ⟨underlying50, zk, rfl⟩
theorem c_round (w : World) :
  Calls Tryz.prog 27 #[] w (Ret fun v w' => ∃ (q0 : Value), v = q0 ∧ Row w' w.heap.size 26 3 encBrk q0 ([(40, 41, 1), (41, 40, 2)] : List Brk) ∧ Below w.heap.size w w') := by
 refine wG 4 func27 rfl ?_
 have d := Below.refl w.heap.size w
 refine wR (zH (nR (zr (Value.agg #[(I3 40), (I3 41), (U8 1)]) (zr (Value.agg #[(I3 41), (I3 40), (U8 2)]) (zM 2 [(I3 40), (I3 41), (U8 1), (I3 41), (I3 40), (U8 2)] 26 ?_)))))
 intro e f a
 have b := a.ge d.size
 have c : Row f w.heap.size 26 3 encBrk (.slice (some ⟨e, 0, none⟩) 2 2) ([(40, 41, 1), (41, 40, 2)] : List (Int × Int × Int)) := Row.made ([(40, 41, 1), (41, 40, 2)] : List (Int × Int × Int)) a b rfl rfl (by first | decide | (simp; done))
 have d := d.tr a.below
 exact zH (nQ (zS (yC [(.slice (some ⟨e, 0, none⟩) 2 2)] ⟨(.slice (some ⟨e, 0, none⟩) 2 2), rfl, c.cast (by rfl), d⟩)))
theorem c_awake8 (w : World) (hty : w.cell? ⟨0, 0, none⟩ = some (.iface 180 (.agg #[.pointer (some ⟨7, 39, none⟩)]))) :
  Calls Tryz.prog 14 #[] w (Ret fun v w' => v = (.bool true) ∧ Below w.heap.size w w') := by
 refine wG 61 func14 rfl ?_
 have g := Below.refl w.heap.size w
 refine wR (zH (nR (zc (c_round  _ ) ?_)))
 rintro q1 w2 ⟨_, rfl, j, z⟩
 have j := j.base g.size
 refine zc (c_New_ok q1 ([(40, 41, 1), (41, 40, 2)] : List Brk) _ j.rd (by first | omega | decide | (simp; done)) (by exact awk_new)) ?_
 rintro _ t ⟨l, o, rfl, a, k, b, h, r⟩
 have g := g.tr z
 replace k := Nat.le_trans g.size k
 replace h := Nat.le_trans g.size h
 have g := g.tr r
 refine zG (zr (pt l 0) (zr (I6 0) (zr (I6 0) (zH (zH (zH (nR (zc (calls_as (c_Parse_bad ([102] : List UInt8) ([48, 48, 50, 56, 59, 32, 48, 48, 50, 57, 59, 32, 111, 10] : List UInt8) _ (xJ hty g) (by first | omega | decide | (simp; done)) (by (rw [awk_par]; decide))) (zk : _ = fun v w' => ∃ (cb0 : Nat), v = (.tuple #[(.pointer none), (.iface 83 (pt cb0 0))]) ∧ w'.heap[cb0]? = some (.cells [(S [102]), (I6 1), (I6 82)].toArray 85 (0, 0)) ∧ t.heap.size ≤ cb0 ∧ Below t.heap.size t w')) ?_))))))))
 rintro _ w9 ⟨n, rfl, c, e, i⟩
 replace e := Nat.le_trans g.size e
 have a := zA a i
 have b := zA b i
 refine zG (zr (.pointer none) (zr (.iface 83 (pt n 0)) (zH (zH (nW (wR (zG (zr (.bool false) (zG (zw (zG (zw (zr (.bool false) (xC (zG (zw (zG (zw (zr (.bool false) (xC (zG (zw (zG (zw (zr (.bool false) (xC (zG (zw (zG (zw (zr (.bool false) (xC (nQ (zF (zQ (zB (wR (zG (zc (xF l o (kv ([(40, 41, 1), (41, 40, 2)] : List Brk)) (.map none) [] 40 _ a (GmAt.of b) (.inl ⟨rfl, rfl⟩)) ?_)))))))))))))))))))))))))))))))))))))))
 rintro _ af ⟨rfl, f⟩
 refine zG (zr (I3 ((brkF (kv ([(40, 41, 1), (41, 40, 2)] : List Brk)) 40).1)) (zr (U8 ((brkF (kv ([(40, 41, 1), (41, 40, 2)] : List Brk)) 40).2)) (zH (zH (nR (zG (wC .i32 ((brkF (kv ([(40, 41, 1), (41, 40, 2)] : List Brk)) 40).1) 41 ?_ ?_)))))))
 ·intro ai
  refine zG (zw (zG (zw (wC .u8 ((brkF (kv ([(40, 41, 1), (41, 40, 2)] : List Brk)) 40).2) 1 ?_ ?_))))
  ·intro ah
   have a := zA a f
   have b := zA b f
   refine xE (zG (zw (zG (zw (zc (yT l o (kv ([(40, 41, 1), (41, 40, 2)] : List Brk)) (.map none) [] 40 41 _ a (GmAt.of b) (.inl ⟨rfl, rfl⟩)) ?_)))))
   rintro _ ac ⟨rfl, d⟩
   refine zX (mtcF (kv ([(40, 41, 1), (41, 40, 2)] : List Brk)) [] 40 41) ?_ ?_
   ·intro ae
    have a := zA a d
    have b := zA b d
    refine xE (zG (zw (zG (zw (zc (c_Write12 l o (kv ([(40, 41, 1), (41, 40, 2)] : List Brk)) (.map none) _ a b (by (simp [kv]; done))) ?_)))))
    rintro _ ad ⟨rfl, m⟩
    have := writeB_len (kv ([(40, 41, 1), (41, 40, 2)] : List Brk))
    refine zw (L_seq (writeB (kv ([(40, 41, 1), (41, 40, 2)] : List Brk))) ([48, 48, 50, 56, 59, 32, 48, 48, 50, 57, 59, 32, 111, 10, 48, 48, 50, 57, 59, 32, 48, 48, 50, 56, 59, 32, 99, 10] : List UInt8) rfl zk zk ?_ ?_)
    ·intro aj
     have c := zA (zA (zA c f) d) m
     refine xE (zG (zw (zG (zw (zc (c_Fault_Error n ([102] : List UInt8) 1 82 _ c (by first | omega | decide | (simp; done)) (by first | omega | decide | (simp; done)) (by first | omega | decide | (simp; done))) ?_)))))
     rintro _ ab ⟨rfl, p⟩
     refine zw (L_seq (fltD ([102] : List UInt8) 1 82) ([102, 58, 49, 58, 32, 101, 114, 114, 111, 114, 32, 56, 50] : List UInt8) rfl zk zk ?_ ?_)
     ·intro ag
      have g := ((((g.tr i).tr f).tr d).tr m).tr p
      exact xE (zH (nQ (zS (yC [(.bool true)] ⟨rfl, g⟩))))
     intro s
     exfalso; exact s zk
    intro q
    exfalso; exact q zk
   intro y
   exfalso; exact absurd (y.symm.trans zk) (by decide : ¬ false = true)
  intro u
  exfalso; exact u zk
 intro aa
 exfalso; exact aa zk
theorem it0_Rows (d : Nat)  :
  Iter (α := Brk) Tryz.prog 58 [.pointer (some ⟨d, 0, none⟩)] (fun x => [.agg #[.int .i32 x.1, .int .i32 x.2.1, .int .u8 x.2.2]]) ([] : List Brk) (fun w => w.heap[d]? = some (.cells [(.pointer none)].toArray 27 (0, 0))) := by
 intro l J Jx w n k o j q
 refine wG 29 func58 rfl ?_
 have g := Below.refl w.heap.size w
 have e : w.heap.size ≤ w.heap.size := Nat.le_refl _
 have a := n
 refine yF (wR (zO 0 a rfl (zc (c_there_nil  _ ) ?_)))
 rintro _ i ⟨rfl, c⟩
 have g := g.trans (c.mono e)
 replace e := Nat.le_trans e (c.size)
 refine wX false (nQ (zT (zS (zE (yC [] ?_)))))
 have f := k _ g
 obtain ⟨K, h⟩ : ∃ K, K = i.heap.size := ⟨_, rfl⟩
 rw [← h] at f
 have p : K ≤ i.heap.size := by omega
 have m : w.heap.size ≤ K := by omega
 have b : [] = ([] : List Brk) := by rfl
 rw [b] at f
 exact ⟨e, Or.inl ⟨K, f⟩⟩
theorem c_Rows0 (w : World) :
  Calls Tryz.prog 24 #[(.pointer none)] w (Ret fun v w' => ∃ (cb0 : Nat), v = (.func (.func 58) #[] #[(pt cb0 0)]) ∧ w'.heap[cb0]? = some (.cells [(.pointer none)].toArray 27 (0, 0)) ∧ w.heap.size ≤ cb0 ∧ Below w.heap.size w w') := by
 refine wG 4 func24 rfl ?_
 have d := Below.refl w.heap.size w
 refine wR (zN [(.pointer none)] 27 ?_)
 intro e f a
 have c := a.ge d.size
 have b := a.here
 have d := d.tr a.below
 exact zH (nR (zr (.func (.func 58) #[] #[(pt e 0)]) (zH (nQ (zS (yC [(.func (.func 58) #[] #[(pt e 0)])] ⟨e, rfl, b, c, d⟩))))))
theorem c_Write0 (w : World) :
  Calls Tryz.prog 16 #[(.pointer none)] w (Ret fun v w' => v = (S []) ∧ Below w.heap.size w w') := by
 refine enterM (args := [(.pointer none)]) func16 rfl (zk : _ = 42) zk ?_
 have n := Below.refl w.heap.size w
 refine wR (zH (nR (zN [(.pointer none), (.slice none 0 0)] 99 ?_)))
 intro b1 w2 ad
 have ak := ad.ge n.size
 have i := ad.here
 refine nW (wR (zG (zc (c_Rows0  _ ) ?_)))
 rintro _ w4 ⟨s, rfl, f, t, ai⟩
 have n := n.tr ad.below
 replace t := Nat.le_trans n.size t
 refine nQ (yI ?_)
 have i := zA i ai
 have p : b1 < w4.heap.size := zV i
 have m : s < w4.heap.size := zV f
 have n := n.tr ai
 have y := n.size
 have aw := n
 refine W_range 58 [(pt s 0)] ([] : List Brk) zk (fun _ _ => rfl) (it0_Rows s ) f ((fun D A B h hc hd => yA h hc (fun h => Nat.not_lt.2 (hd _ h) m))) (by intro x; rfl) (fun K u A => ∃ (pp : Value) (o : List UInt8) (d : Value), (A.heap[b1]? = some (.cells [pp, d].toArray 99 (0, 0))) ∧ (A.heap[s]? = some (.cells [(.pointer none)].toArray 27 (0, 0))) ∧ (Row A w.heap.size 5 1 encByt d o) ∧ (∀ g, Value.ownBlock d = some g → ¬ Iv w4.heap.size K g) ∧ (Below w.heap.size w A) ∧ (pp = .pointer none ∨ pp = .pointer (some ⟨b1, 0, none⟩)) ∧ (o = []) ∧ (u = [])) (fun K c u A => False) ?_ ?_ ?_ ?_ ?_ ?_
 ·intro A hA
  exact ⟨(.pointer none), [], (.slice none 0 0), zA i hA, zA f hA, Row.nil _ _ _ _ _, nr_nil _ _, n.trans (hA.mono n.size), by exact .inl rfl, by rfl, by rfl⟩
 ·rintro K u A B ⟨pp, o, d, i, f, j, a, n, rp, ra, rn⟩ hc
  exact ⟨pp, o, d, yA i hc (fun h => Nat.not_lt.2 h.1 p), yA f hc (fun h => Nat.not_lt.2 h.1 m), j.ch hc a, a, hc.below n n.size (fun k h => Nat.le_trans y h.1), rp, ra, rn⟩
 ·intro K c _ A B h hc; exact h.elim
 ·intro l K u x A hi hN ax hK aj
  obtain ⟨pp, o, d, i, f, j, a, n, rp, ra, rn⟩ := hi
  have hk := Kp.refl (w4.heap.size) K A
  have av : ¬ Iv (w4.heap.size) K b1 := fun h => Nat.not_lt.2 h.1 p
  have an : ¬ Iv (w4.heap.size) K s := fun h => Nat.not_lt.2 h.1 m
  exfalso; have := aj.length_le; simp at this
 ·intro K A hi az r
  obtain ⟨pp, o, d, i, f, j, a, n, rp, ra, rn⟩ := hi
  refine zL (zB (wR ?_))
  have bz := Bld.ofRow za i j ak (j.ne i zi)
  refine zc (bldStr (fun B b l w h hB => Tryz.Builder_String_any_k B b l w h hB) o _ bz n.size) ?_
  rintro _ w8 ⟨rfl, ah, ap, aa⟩
  have ag := Bld.obj_kept bz aa f (by intro cs X fz e; first | (simp [mapObj] at e; done) | (simp [gmObj] at e; done) | (injection e with _ e2 _; subst e2; decide))
  have q := Bld.obj_kept bz aa r (by intro cs X fz e; first | (simp [mapObj] at e; done) | (simp [gmObj] at e; done) | (injection e with _ e2 _; subst e2; decide))
  have r := q; clear q
  replace bz := ah
  refine zH (nQ (zS (end_retM (ds := [⟨.collected w4.heap.size, #[]⟩]) zk (Lv_mark r ?_))))
  intro ay z
  replace bz := Bld.wrote bz z r (by intro cs X fz e; first | (simp [mapObj] at e; done) | (simp [gmObj] at e; done) | (injection e with _ e2 _; subst e2; decide))
  refine Lv_nil [.tmp 2] [(S o)] rfl ⟨zk, trivial⟩ ?_
  have n := (n.trans ap).trans (z.below y)
  exact ⟨congrArg S (by first | rfl | exact ra), n⟩
 intro K c _ x A _ h; exact h.elim
theorem c_Twins0 (b : Value) (l : List (Int × Int)) (w : World) (g : Rd w encTw b l) :
  Calls Tryz.prog 21 #[(.pointer none), b] w (Ret fun v w' => v = (.tuple #[(.pointer none), (I6 0), (I6 1)]) ∧ Below w.heap.size w w') := by
 refine wG 128 func21 rfl ?_
 have d := Below.refl w.heap.size w
 refine wR (zN [(.pointer none)] 27 ?_)
 intro h i a
 have f := a.ge d.size
 have c := a.here
 refine zH (zH (zH (nW (wR (zO 0 c rfl (zc (c_there_nil  _ ) ?_))))))
 rintro _ j ⟨rfl, e⟩
 have d := (d.tr a.below).tr e
 exact wX false (nQ (zT (wR (zH (zH (zH (nQ (zS (zE (yC [(.pointer none), (I6 0), (I6 1)] ⟨rfl, d⟩))))))))))
theorem c_furrowlaw08_BracketsNil (r : Int) (q : Int) (aa : Value) (l : List (Int × Int)) (w : World) (aj : Rd w encTw aa l) (hty : w.cell? ⟨0, 0, none⟩ = some (.iface 180 (.agg #[.pointer (some ⟨7, 39, none⟩)]))) :
  Calls Tryz.prog 7 #[(I3 r), (I3 q), aa] w (Ret fun v w' => v = (.bool true) ∧ Below w.heap.size w w') := by
 refine enterM (args := [(I3 r), (I3 q), aa]) func7 rfl (zk : _ = 81) zk ?_
 have f := Below.refl w.heap.size w
 refine wR (zH (nW (wR (zc (c_awake8  _ (xJ hty f)) ?_))))
 rintro _ w1 ⟨rfl, al⟩
 refine wX true (nQ (zF (zQ (zB (wR (zH (nR (zG (zG (zc (c_Bracket_nil r _ ) ?_))))))))))
 rintro _ w4 ⟨rfl, aq⟩
 have aj := (aj.below al).below aq
 refine zG (zr (I3 0) (zr (U8 0) (zH (zH (nR (zG (zG (zc (c_Twins0 aa l _ aj) ?_))))))))
 rintro _ w7 ⟨rfl, aw⟩
 refine zG (zr (.pointer none) (zr (I6 0) (zr (I6 1) (zH (zH (zH (nR (zN [(I6 0)] 3 ?_))))))))
 intro ak a7 z
 have f := ((f.tr al).tr aq).tr aw
 have ag := z.ge f.size
 have a := z.here
 refine z1 0 (I6 0) [(I6 0)] a ?_
 intro a5 ac
 have a := ac.here
 refine nW (wR (zG (zc (c_Rows0  _ ) ?_)))
 rintro _ a9 ⟨y, rfl, b, n, ad⟩
 have f := (f.tr z.below).trans (ac.below ag)
 replace n := Nat.le_trans f.size n
 refine zr (.bool false) (nQ (zF (zQ (zB (yF (wR (zG (zc (c_Rows0  _ ) ?_))))))))
 rintro _ j ⟨m, rfl, d, o, u⟩
 have f := f.tr ad
 replace o := Nat.le_trans f.size o
 refine nQ (yI ?_)
 have a := zA (zA a ad) u
 have i : ak < j.heap.size := zV a
 have b := zA b u
 have g : y < j.heap.size := zV b
 have e : m < j.heap.size := zV d
 have f := f.tr u
 have ab := f.size
 have ay := f
 refine W_range 58 [(pt m 0)] ([] : List Brk) zk (fun _ _ => rfl) (it0_Rows m ) d ((fun D A B h hc hd => yA h hc (fun h => Nat.not_lt.2 (hd _ h) e))) (by intro x; rfl) (fun K ai A => (A.heap[ak]? = some (.cells [(I6 0)].toArray 3 (0, 0))) ∧ (A.heap[y]? = some (.cells [(.pointer none)].toArray 27 (0, 0))) ∧ (A.heap[m]? = some (.cells [(.pointer none)].toArray 27 (0, 0))) ∧ (Below w.heap.size w A)) (fun K c ai A => False) ?_ ?_ ?_ ?_ ?_ ?_
 ·intro A hA
  exact ⟨zA a hA, zA b hA, zA d hA, f.trans (hA.mono f.size)⟩
 ·rintro K ai A B ⟨a, b, d, f⟩ hc
  exact ⟨yA a hc (fun h => Nat.not_lt.2 h.1 i), yA b hc (fun h => Nat.not_lt.2 h.1 g), yA d hc (fun h => Nat.not_lt.2 h.1 e), hc.below f f.size (fun k h => Nat.le_trans ab h.1)⟩
 ·intro K c _ A B h hc; exact h.elim
 ·intro l K ai x A hi hN az hK ao
  obtain ⟨a, b, d, f⟩ := hi
  have hk := Kp.refl (j.heap.size) K A
  have au : ¬ Iv (j.heap.size) K ak := fun h => Nat.not_lt.2 h.1 i
  have an : ¬ Iv (j.heap.size) K y := fun h => Nat.not_lt.2 h.1 g
  have am : ¬ Iv (j.heap.size) K m := fun h => Nat.not_lt.2 h.1 e
  exfalso; have := ao.length_le; simp at this
 ·intro K A hi a4 t
  obtain ⟨a, b, d, f⟩ := hi
  refine zL (zB (wR (zG (zr (.bool true) (zG (zw (zG (zw (zr (.bool true) (xE (zG (zw (zG (zw (zG (zw (zc (c_Twin_nil r _ ) ?_)))))))))))))))))
  rintro _ a8 ⟨rfl, p⟩
  refine zw (zG (zw (wC .i32 r r ?_ ?_)))
  ·intro a1
   refine xE (zG (zw (zG (zw (zG (zw (zG (zw (zc (c_Matches_nil r q _ ) ?_)))))))))
   rintro _ a3 ⟨rfl, s⟩
   have a := zA (zA a p) s
   refine zw (wX false (xE (zG (zw (zG (zw (zr (.bool true) (xE (zG (zw (zG (zw (zr (.bool true) (xE (zG (zw (zG (zw (zr (.bool true) (xE (zG (zw (zO 0 a rfl (zw (zr (.bool true) (xE (zG (zw (zG (zw (zc (c_Write0  _ ) ?_)))))))))))))))))))))))))))))))
   rintro _ a6 ⟨rfl, ae⟩
   have f := ((f.tr p).tr s).tr ae
   refine zw (L_seqT ([] : List UInt8) ([] : List UInt8) (by rfl) zk zk (xE (zG (zw (zc (c_awake8  _ (xJ hty f)) ?_)))))
   rintro _ a2 ⟨rfl, af⟩
   have t := zA (zA (zA (zA t p) s) ae) af
   refine xE (zH (nQ (zS (end_retM (ds := [⟨.collected j.heap.size, #[]⟩]) zk (Lv_mark t ?_)))))
   intro a0 ap
   refine Lv_nil [.tmp 6] [(.bool true)] rfl ⟨zk, trivial⟩ ?_
   have f := (f.tr af).trans (ap.below ab)
   exact ⟨rfl, f⟩
  intro av
  exact (av rfl).elim
 intro K c _ x A _ h; exact h.elim
end Go.Proofs.YtddnhlobnembaaaGreatDoor
end

/- === PBr5 === -/
section
/- PBr5: chapter 8: twins. My own text. -/
namespace Go.FK
def cntT (m : List (Int × Brk)) (x : Int × Int) : Bool := (gget m x.1).isSome
def layT (m : List (Int × Brk)) (t : List (Int × Int)) (x : Int × Int) : List (Int × Int) := if cntT m x = true ∧ (gget t x.1).isSome = false then t ++ [(x.1, x.2)] else t
def twsM (m : List (Int × Brk)) (l : List (Int × Int)) : List (Int × Int) := l.foldl (layT m) []
def tw1 (t : List (Int × Int)) (r : Int) : Int := (gget t r).getD r
def badT (m : List (Int × Brk)) (t : List (Int × Int)) (x : Int × Int) : Bool :=
  cntT m x && (!(gget m x.2).isSome || !decide ((lookB m x.2).2.2 = (lookB m x.1).2.2) || (gget t x.2).isSome || !decide (tw1 t (lookB m x.1).2.1 = (lookB m x.2).2.1))
def badI (m : List (Int × Brk)) (t : List (Int × Int)) : List (Int × Int) → Nat → Option Nat
  | [], _ => none
  | x :: l, i => if badT m t x = true then some i else badI m t l (i + 1)
def twE (m : List (Int × Brk)) (l : List (Int × Int)) : Option Nat := badI m (twsM m l) l 0
section
variable {m : List (Int × Brk)} {t : List (Int × Int)} {l : List (Int × Int)} {i : Nat} {x : Int × Int}
theorem tws_next (hx : l[i]? = some x) : layT m (twsM m (l.take i)) x = twsM m (l.take (i + 1)) := by
 rw [List.take_add_one, hx, Option.toList_some, twsM, twsM, List.foldl_append]; rfl
theorem tws_no (ht : t = twsM m (l.take i)) (hx : l[i]? = some x) (h : (gget m x.1).isSome = false) : t = twsM m (l.take (i + 1)) := by
 rw [← tws_next hx, layT, if_neg (by unfold cntT; rw [h]; simp)]; exact ht
theorem tws_had (ht : t = twsM m (l.take i)) (hx : l[i]? = some x) (h : (gget t x.1).isSome = true) : t = twsM m (l.take (i + 1)) := by
 rw [← tws_next hx, ← ht, layT, if_neg (by rw [h]; simp)]
theorem tws_add (ht : t = twsM m (l.take i)) (hx : l[i]? = some x) (h : (gget m x.1).isSome = true) (h2 : (gget t x.1).isSome = false) : t ++ [(x.1, x.2)] = twsM m (l.take (i + 1)) := by
 rw [← tws_next hx, ← ht, layT, if_pos ⟨h, h2⟩]
theorem tws_all (ht : t = twsM m (l.take i)) (hi : l.length ≤ i) : t = twsM m l := by rw [ht, List.take_of_length_le hi]
def BadI (m : List (Int × Brk)) (t : List (Int × Int)) (l : List (Int × Int)) (i : Nat) : Prop := badI m t l 0 = badI m t (l.drop i) i
theorem BadI.zero : BadI m t l 0 := rfl
theorem BadI.step (h : BadI m t l i) (hx : l[i]? = some x) (hn : badT m t x = false) : BadI m t l (i + 1) := by
 unfold BadI at *
 rw [h, drop_at hx, badI, if_neg (by rw [hn]; decide)]
theorem BadI.hit (h : BadI m t l i) (hx : l[i]? = some x) (hn : badT m t x = true) : badI m t l 0 = some i := by
 rw [h, drop_at hx, badI, if_pos hn]
theorem BadI.end (h : BadI m t l i) (hi : l.length ≤ i) : badI m t l 0 = none := by
 rw [h, List.drop_eq_nil_of_le hi]; rfl
theorem bt_no (h : (gget m x.1).isSome = false) : badT m t x = false := by unfold badT cntT; rw [h]; rfl
theorem bt_1 (h : (gget m x.1).isSome = true) (h1 : (gget m x.2).isSome = false) : badT m t x = true := by unfold badT cntT; simp [h, h1]
theorem bt_2 (h : (gget m x.1).isSome = true) (h1 : (lookB m x.2).2.2 ≠ (lookB m x.1).2.2) : badT m t x = true := by unfold badT cntT; simp [h, h1]
theorem bt_3 (h : (gget m x.1).isSome = true) (h1 : (gget t x.2).isSome = true) : badT m t x = true := by unfold badT cntT; simp [h, h1]
theorem bt_4 (h : (gget m x.1).isSome = true) (h1 : tw1 t (lookB m x.1).2.1 ≠ (lookB m x.2).2.1) : badT m t x = true := by unfold badT cntT; simp [h, h1]
theorem bt_ok (h : (gget m x.1).isSome = true) (h1 : (gget m x.2).isSome = true) (h2 : (lookB m x.2).2.2 = (lookB m x.1).2.2) (h3 : (gget t x.2).isSome = false) (h4 : tw1 t (lookB m x.1).2.1 = (lookB m x.2).2.1) : badT m t x = false := by
 unfold badT cntT; simp [h, h1, h2, h3, h4]
theorem tw1_n {r : Int} (h : (gget t r).isSome = false) : tw1 t r = r := by
 unfold tw1; cases hq : gget t r with
 | none => rfl
 | some y => rw [hq] at h; cases h
theorem tw1_y {r : Int} (h : (gget t r).isSome = true) : tw1 t r = (gget t r).getD 0 := by
 unfold tw1; cases hq : gget t r with
 | some y => rfl
 | none => rw [hq] at h; cases h
def twI (m : List (Int × Brk)) (l : List (Int × Int)) : Nat := (twE m l).getD 0
theorem wE {j : Nat} (ht : t = twsM m (l.take i)) (hi : l.length ≤ i) (h : badI m t l 0 = some j) : twI m l = j := by
 unfold twI twE; rw [← tws_all ht hi, h]; rfl
theorem yG {j : Nat} (hok : twE m l = none) (ht : t = twsM m (l.take i)) (hi : l.length ≤ i) (h : badI m t l 0 = some j) : False := by
 unfold twE at hok; rw [← tws_all ht hi, h] at hok; cases hok
theorem tw_ok (ht : t = twsM m (l.take i)) (hi : l.length ≤ i) (h : badI m t l 0 = none) : twE m l = none := by
 unfold twE; rw [← tws_all ht hi]; exact h
end
end Go.FK
end

/- === PBr6 === -/
section
/- PBr6: chapter 8: others, sides, twins, matches of a book that New or Twins made. My own text. -/
namespace Go.FK
def TwG (m : List (Int × Brk)) (t : List (Int × Int)) : Prop := t = [] ∨ ∃ l, t = twsM m l ∧ twE m l = none
theorem fold_mem (m : List (Int × Brk)) : ∀ (l t : List (Int × Int)) (a b : Int), gget (l.foldl (layT m) t) a = some b → gget t a = some b ∨ (a, b) ∈ l ∧ cntT m (a, b) = true
 | [], t, a, b, h => .inl h
 | x :: l, t, a, b, h => by
  rcases fold_mem m l _ a b h with h | ⟨d, c⟩
  ·unfold layT at h
   split at h
   ·rename_i hc
    rw [gget_snoc] at h
    cases hq : gget t a with
    | some y => rw [hq] at h; exact .inl h
    | none =>
     rw [hq] at h
     simp only at h
     split at h
     ·rename_i e
      cases h
      refine .inr ⟨?_, ?_⟩
      ·rw [e]; exact List.mem_cons_self ..
      ·rw [e]; exact hc.1
     ·cases h
   ·exact .inl h
  ·exact .inr ⟨List.mem_cons_of_mem _ d, c⟩
theorem badI_all {m : List (Int × Brk)} {t : List (Int × Int)} : ∀ {l : List (Int × Int)} {i : Nat}, badI m t l i = none → ∀ x ∈ l, badT m t x = false
 | [], _, _, x, hx => nomatch hx
 | y :: l, i, h, x, hx => by
  rw [badI] at h
  split at h
  ·cases h
  ·rename_i hn
   rcases List.mem_cons.1 hx with rfl | hx
   ·simpa using hn
   ·exact badI_all h x hx
theorem TwG.entry {m : List (Int × Brk)} {t : List (Int × Int)} (h : TwG m t) {a b : Int} (hg : gget t a = some b) :
  ∃ x y, gget m a = some x ∧ gget m b = some y ∧ y.2.2 = x.2.2 ∧ gget t b = none ∧ tw1 t x.2.1 = y.2.1 := by
 rcases h with rfl | ⟨l, rfl, he⟩
 ·cases hg
 ·rcases fold_mem m l [] a b hg with f | ⟨e, d⟩
  ·cases f
  ·have c := badI_all he (a, b) e
   unfold badT at c
   rw [d] at c
   unfold cntT at d
   unfold lookB at c
   simp only at d c
   cases hx : gget m a with
   | none => rw [hx] at d; cases d
   | some x =>
    cases hy : gget m b with
    | none => rw [hy] at c; simp at c
    | some y =>
     rw [hx, hy] at c
     simp at c
     refine ⟨x, y, rfl, rfl, c.1.1, ?_, c.2⟩
     exact c.1.2
section
variable {rows : List Brk} {t : List (Int × Int)} {x : Brk}
theorem ask_rng {r : Int} (h : 0 ≤ r ∧ r ≤ 1114111) : askB r = r := ask_y (ptB_y h.1 h.2)
theorem twn_pt {r : Int} (h : 0 ≤ r ∧ r ≤ 1114111) : twnF t r = tw1 t r := by unfold twnF tw1; rw [ask_rng h]
theorem brk_pt {m : List (Int × Brk)} {r : Int} {y : Brk} (h : 0 ≤ r ∧ r ≤ 1114111) (hy : gget m r = some y) : brkF m r = (y.2.1, y.2.2) := by unfold brkF; rw [ask_rng h, hy]
structure PairsP (m : List (Int × Brk)) (t : List (Int × Int)) (x : Brk) : Prop where
  p1 : (brkF m x.1).1 = x.2.1
  p2 : (brkF m x.1).2 = x.2.2
  p3 : (brkF m (brkF m x.1).1).1 = x.1
  p4 : (brkF m (brkF m x.1).1).2 ≠ (brkF m x.1).2
  p5 : (brkF m (brkF m x.1).1).2 ≠ 0
  p6 : (brkF m (twnF t x.1)).2 = (brkF m x.1).2
  p7 : twnF t (twnF t x.1) = twnF t x.1
  p8 : (brkF m (twnF t x.1)).1 = twnF t (brkF m x.1).1
  p9 : mtcF m t x.1 x.2.1 = true ↔ (brkF m x.1).2 = 1
  p10 : mtcF m t x.2.1 x.1 = true ↔ (brkF m x.1).2 = 2
  p11 : ∀ q, (brkF m q).2 = 0 → mtcF m t x.1 q = false ∧ mtcF m t q x.1 = false
theorem pairs_ok (hn : newB rows = none) (ht : TwG (kv rows) t) (hx : x ∈ rows) : PairsP (kv rows) t x := by
 have hb := newB_ok hn
 obtain ⟨y, hy, e1, k, p, o⟩ := hb.other hx
 have rx := hb.rng hx
 have ry := hb.rng hy
 have gx := hb.get hx
 have c : brkF (kv rows) x.1 = (x.2.1, x.2.2) := brk_pt rx.1 gx
 have e : brkF (kv rows) x.2.1 = (y.2.1, y.2.2) := brk_pt rx.2.1 o
 have tw : (brkF (kv rows) (twnF t x.1)).2 = x.2.2 ∧ twnF t (twnF t x.1) = twnF t x.1 ∧ (brkF (kv rows) (twnF t x.1)).1 = twnF t x.2.1 := by
  rw [twn_pt rx.1, twn_pt rx.2.1]
  cases hq : gget t x.1 with
  | none =>
   have d : tw1 t x.1 = x.1 := by unfold tw1; rw [hq]; rfl
   have w : tw1 t x.2.1 = x.2.1 := by
    cases hz : gget t x.2.1 with
    | none => unfold tw1; rw [hz]; rfl
    | some b =>
     exfalso
     obtain ⟨u, v, g, i, m, l, j⟩ := ht.entry hz
     rw [o] at g; cases g
     rw [k, d] at j
     obtain ⟨hv, a⟩ := kv_mem i
     obtain ⟨z, s, f1, r, f3, n⟩ := hb.other hv
     rw [← j, gx] at n
     cases n
     rw [r, a] at hz
     rw [l] at hz; cases hz
   rw [d, w, twn_pt rx.1, d, c]; exact ⟨rfl, rfl, rfl⟩
  | some b =>
   have d : tw1 t x.1 = b := by unfold tw1; rw [hq]; rfl
   obtain ⟨u, v, g, i, m, l, j⟩ := ht.entry hq
   rw [gx] at g; cases g
   obtain ⟨hv, a⟩ := kv_mem i
   have rv := hb.rng hv
   rw [a] at rv
   rw [d, brk_pt rv.1 i, twn_pt rv.1, j]
   refine ⟨m, ?_, rfl⟩
   unfold tw1; rw [l]; rfl
 have f : (brkF (kv rows) x.1).1 = x.2.1 := by rw [c]
 refine ⟨f, by rw [c], by rw [f, e]; exact k, by rw [f, c, e]; exact p, by rw [f, e]; have := ry.2.2.2; show y.2.2 ≠ 0; omega, by rw [c]; exact tw.1, tw.2.1, by rw [f]; exact tw.2.2, ?_, ?_, ?_⟩
 ·unfold mtcF; rw [c, e]
  have := rx.2.2.2; have := ry.2.2.2
  simp only [Bool.and_eq_true, decide_eq_true_eq]
  constructor
  ·intro h; exact h.1
  ·intro h; exact ⟨h, by omega, trivial⟩
 ·unfold mtcF; rw [c, e]
  have := rx.2.2.2; have := ry.2.2.2
  simp only [Bool.and_eq_true, decide_eq_true_eq]
  constructor
  ·intro h; exact h.2.1
  ·intro h; refine ⟨by omega, h, ?_⟩
   show twnF t y.2.1 = twnF t x.1
   rw [k]
 ·intro q hq
  unfold mtcF; rw [hq]
  simp
end
theorem yO {b : Bool} (h : b = false) (h2 : b = true) : False := by rw [h] at h2; cases h2
theorem fst_code : ∀ (l done : List Brk) (i j : Nat) (e : Int), fstB done l i = some (j, e) → e = 80 ∨ e = 81
 | [], _, _, _, _, h => by cases h
 | x :: l, done, i, j, e, h => by
  rw [fstB] at h
  split at h
  ·cases h; exact .inl rfl
  ·split at h
   ·cases h; exact .inr rfl
   ·exact fst_code l _ _ _ _ h
theorem newE_code {rows : List Brk} (h : newB rows ≠ none) : newE rows = 80 ∨ newE rows = 81 ∨ newE rows = 82 := by
 unfold newE
 cases hq : newB rows with
 | none => exact absurd hq h
 | some p =>
  obtain ⟨i, e⟩ := p
  unfold newB at hq
  cases hf : fstB [] rows 0 with
  | some p =>
   rw [hf] at hq
   cases hq
   have := fst_code _ _ _ _ _ hf
   show e = 80 ∨ e = 81 ∨ e = 82
   omega
  | none =>
   rw [hf] at hq
   cases hl : loneI (kv rows) rows 0 with
   | none => rw [hl] at hq; cases hq
   | some k => rw [hl] at hq; cases hq; exact .inr (.inr rfl)
theorem newE_ne {rows : List Brk} (h : newB rows ≠ none) (h0 : newE rows = 0) : False := by have := newE_code h; omega
end Go.FK
end
