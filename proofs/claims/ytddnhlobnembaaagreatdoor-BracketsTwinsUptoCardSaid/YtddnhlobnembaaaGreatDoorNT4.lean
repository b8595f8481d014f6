/- Joined by my program pack2.py out of my own texts: Wcsq FKak Wmbl8 FKam Wcb3 An Wcb4 Wcb5 Wcb6 FKbg Wrb1. -/
import Derived.Test.YtddnhlobnembaaaGreatDoorProg
import Derived.Tactics2
import Derived.Lib.AppendStr
import Derived.WalkKit
import Derived.LaidEql
import Derived.Stop.Asserts
import Derived.RowKitTokens
import Derived.Test.YtddnhlobnembaaaGreatDoorNT1
import Derived.Test.YtddnhlobnembaaaGreatDoorNT2
import Derived.Test.YtddnhlobnembaaaGreatDoorNT3
set_option linter.unusedVariables false
set_option linter.unusedSimpArgs false
/- === Wcsq === -/
section
/- Walks, written by my program walk.py out of the specification csq.py: each theorem says what one function returns and that it leaves memory as it was. -/
namespace Go.Proofs.YtddnhlobnembaaaGreatDoor
open Go Go.RowKit Go.FK _root_.Go.Proofs.Tryz
set_option maxHeartbeats 4000000
set_option maxRecDepth 100000
theorem c_pdq_r (m_ : Nat) : ∀ (B_ : Nat) (j : Value) (s : List (Int)) (a : Nat) (b : Nat) (z : Nat) (w : World) (hs0 : B_ ≤ w.heap.size) (c : Row w B_ 21 1 encI32 j s) (h1 : a ≤ b) (h2 : b ≤ s.length) (h3 : s.length ≤ 2305843009213693951) (hlow : Low s a b) (hzl : z ≤ 1000) (hm_ : b - a = m_),
  Calls Tryz.prog 113 #[j, (N6 a), (N6 b), (N6 z)] w (Ret fun v w' => ∃ (ys : List (Int)), v = (.tuple #[]) ∧ Row w' B_ 21 1 encI32 j ys ∧ (Sw a b s ys) ∧ (Srt ys a b) ∧ Ch (fun k => Value.ownBlock j = some k) w w') := by
 induction m_ using Nat.strongRecOn with
 | ind m_ ih =>
  intro B_ j s a b z w hs0 c h1 h2 h3 hlow hzl hm_
  refine wO 134 func113 rfl ?_
  have q := Below.refl B_ w
  have d : B_ ≤ (World.heap w).size := hs0
  have o := Ch.refl (fun k => Value.ownBlock j = some k) w
  have i : ∀ g, Value.ownBlock j = some g → (World.heap w).size ≤ g ∨ (fun k => Value.ownBlock j = some k) g := fun g h => .inr h
  refine wR (zK (nR (zK (nQ (yF (xG (fun m s0 w0 => ∃ (p : Nat) (r : Nat) (z1 : Nat) (p8 : Bool) (p9 : Bool) (ys : List Int), (m = r - p) ∧ (s0.ds = []) ∧ ([0, 1, 2, 3, 8, 9].map s0.f = [j, (N6 p), (N6 r), (N6 z1), (.bool p8), (.bool p9)]) ∧ (Row w0 B_ 21 1 encI32 j ys) ∧ (Below B_ w w0) ∧ (Ch (fun k => Value.ownBlock j = some k) w w0) ∧ (B_ ≤ w0.heap.size) ∧ (a ≤ p ∧ p ≤ r ∧ r ≤ b ∧ z1 ≤ 1000) ∧ (ys.length = s.length) ∧ (Sw a b s ys) ∧ (Jd ys a b p r) ∧ (Low ys p r)) _ ⟨a, b, z, true, true, s, rfl, zk, zk, c, q, o, d, zo, rfl, .refl, (Jd.start _ _ _), hlow⟩ ?_))))))
  rintro m1 s2 w3 ⟨p, r, z1, p8, p9, ys, hm, y, aq, c, q, o, d, i1, i3, i4, i5, i6⟩
  refine yZ aq (yF (wR (zJ (zJ (zsb r p (zK (nW (wR (zJ (nLe (r - p) 12 ?_ ?_))))))))))
  ·intro h4
   refine nQ (zT (wR (zJ (zJ (zJ (zc (c_insort B_ j ys p r _ d c zo zo zo) ?_))))))
   rintro _ w6 ⟨d8, rfl, d5, d6, c0, bx⟩
   replace o := o.trans2 bx (fun k e => i k e)
   have q := bx.below q d (fun k e => (World.ownsRow.lt c k e).1)
   replace d := Nat.le_trans d bx.size
   have c := d5
   have l := d6; have ar := l.len
   have hS := c0
   refine nQ (yA (zI (zR (zI (zR (yK [] (hd := y) ?_))))))
   exact ⟨d8, rfl, c, (by exact i4.trans (l.mono zo zo zo)), (by exact (i5.keep l zo zo zo).done hS), o⟩
  ·intro ff
   refine nQ (zF (zW (zD (yC (wR (zJ (nEq z1 0 ?_ ?_)))))))
   ·intro ey
    refine nQ (zT (wR (zJ (zJ (zJ (zc (c_heap B_ j ys p r _ d c zo zo zo) ?_))))))
    rintro _ e2 ⟨db, rfl, dp, cw, c5, a6⟩
    replace o := o.trans2 a6 (fun k e => i k e)
    have q := a6.below q d (fun k e => (World.ownsRow.lt c k e).1)
    replace d := Nat.le_trans d a6.size
    have c := dp
    have l := cw; have ar := l.len
    have hS := c5
    refine nQ (yA (zI (zR (zI (zR (yK [] (hd := y) ?_))))))
    exact ⟨db, rfl, c, (by exact i4.trans (l.mono zo zo zo)), (by exact (i5.keep l zo zo zo).done hS), o⟩
   ·intro e7
    refine nQ (zF (zW (zD (W_cut (fun s0 w0 => ∃ (z2 : Nat) (yb : List Int), (s0.ds = []) ∧ ([0, 1, 2, 8, 9, 10, 3].map s0.f = [j, (N6 p), (N6 r), (.bool p8), (.bool p9), (N6 (r - p)), (N6 z2)]) ∧ (Row w0 B_ 21 1 encI32 j yb) ∧ (Below B_ w w0) ∧ (Ch (fun k => Value.ownBlock j = some k) w w0) ∧ (B_ ≤ w0.heap.size) ∧ (z2 ≤ 1000) ∧ (yb.length = s.length) ∧ (Sw p r ys yb)) ?_ ?_))))
    ·refine wR (zJ (qW p8 (nQ ?_)))
     rcases Bool.eq_false_or_eq_true (!p8) with bg | bg
     ·skip
      refine W_ifT bg zk (wR (zJ (zJ (zJ (zc (c_break B_ j ys p r _ d c zo zo zo) ?_)))))
      rintro _ fl ⟨dn, rfl, df, c3, a4⟩
      replace o := o.trans2 a4 (fun k e => i k e)
      have q := a4.below q d (fun k e => (World.ownsRow.lt c k e).1)
      replace d := Nat.le_trans d a4.size
      have c := df
      have l := c3; have ar := l.len
      refine nQ (zY (zJ (zsb z1 1 (zK (zS (zD ⟨(z1 - 1), dn, y, zk, c, q, o, d, zo, ?_, ?_⟩))))))
      ·first | exact i3 | exact l.len.trans i3
      ·first | exact .refl | exact l
     ·skip
      refine W_ifF bg zk (zW (zD ⟨z1, ys, y, zk, c, q, o, d, zo, ?_, ?_⟩))
      ·first | exact i3 | exact l.len.trans i3
      ·first | exact .refl | exact l
    ·rintro fg e5 ⟨z2, yb, y, aq, c, q, o, d, j0, j3, j4⟩
     refine yZ aq (wR (zJ (zJ (zJ (zc (c_pivot B_ j yb p r _ d c zo zo zo) ?_)))))
     rintro _ fo ⟨ej, a8, b4, rfl, c8, di, et, bj⟩
     replace o := o.trans2 bj (fun k e => i k e)
     have q := bj.below q d (fun k e => (World.ownsRow.lt c k e).1)
     replace d := Nat.le_trans d bj.size
     have c := c8
     have c := c.cast di
     refine zJ (zr (N6 a8) (zr (I6 b4) (zK (zK (nQ (W_cut (fun s0 w0 => ∃ (pv : Nat) (hn : Int) (yc : List Int), (s0.ds = []) ∧ ([0, 1, 2, 3, 8, 9, 10, 11, 12].map s0.f = [j, (N6 p), (N6 r), (N6 z2), (.bool p8), (.bool p9), (N6 (r - p)), (N6 pv), (I6 hn)]) ∧ (Row w0 B_ 21 1 encI32 j yc) ∧ (Below B_ w w0) ∧ (Ch (fun k => Value.ownBlock j = some k) w w0) ∧ (B_ ≤ w0.heap.size) ∧ (p ≤ pv ∧ pv < r) ∧ (yc.length = s.length) ∧ (Sw p r ys yc)) ?_ ?_))))))
     ·refine wR (zJ (qM .i64 b4 2 ?_ ?_))
      ·intro fe
       refine nQ (zT (wR (zJ (zJ (zJ (zc (c_rev B_ j yb p r _ d c zo zo zo) ?_))))))
       rintro _ e1 ⟨dt, rfl, dm, dd, az⟩
       replace o := o.trans2 az (fun k e => i k e)
       have q := az.below q d (fun k e => (World.ownsRow.lt c k e).1)
       replace d := Nat.le_trans d az.size
       have c := dm
       have l := dd; have ar := l.len
       refine nR (zJ (zsb r 1 (zJ (zJ (zsb a8 p (zsb (r - 1) (a8 - p) (zK (nQ (zY (zK (zS (zD ⟨((r - 1) - (a8 - p)), 1, dt, y, zk, c, q, o, d, zo, ?_, ?_⟩))))))))))))
       ·first | exact j3 | exact l.len.trans j3
       ·first | exact j4 | exact j4.trans l
      ·intro fd
       refine nQ (zF (zW (zD ⟨a8, b4, yb, y, zk, c, q, o, d, zo, ?_, ?_⟩)))
       ·first | exact j3 | exact l.len.trans j3
       ·first | exact j4 | exact j4.trans l
     ·rintro fh e9 ⟨pv, hn, yc, y, aq, c, q, o, d, k1, k3, k4⟩
      refine yZ aq (W_cut (fun s0 w0 => ∃ (yd : List Int), (s0.ds = []) ∧ ([0, 1, 2, 3, 8, 9, 10, 11].map s0.f = [j, (N6 p), (N6 r), (N6 z2), (.bool p8), (.bool p9), (N6 (r - p)), (N6 pv)]) ∧ (Row w0 B_ 21 1 encI32 j yd) ∧ (Below B_ w w0) ∧ (Ch (fun k => Value.ownBlock j = some k) w w0) ∧ (B_ ≤ w0.heap.size) ∧ (yd.length = s.length) ∧ (Sw p r ys yd)) ?_ ?_)
      ·refine wR (zJ (zJ ?_))
       cases p8
       ·skip
        refine zs (xY (zJ (zs (zs (xY (nQ (zF (zW (zD ⟨yc, y, zk, c, q, o, d, ?_, ?_⟩)))))))))
        ·first | exact k3 | exact l.len.trans k3
        ·first | exact k4 | exact k4.trans l
       ·skip
        refine zw (zJ (xS (zJ ?_)))
        cases p9
        ·skip
         refine zs (zs (xY (nQ (zF (zW (zD ⟨yc, y, zk, c, q, o, d, ?_, ?_⟩))))))
         ·first | exact k3 | exact l.len.trans k3
         ·first | exact k4 | exact k4.trans l
        ·skip
         refine zw (zJ (zw (qM .i64 hn 1 ?_ ?_)))
         ·intro e3
          refine xS (nQ (zT (wR (zJ (zJ (zJ (zc (c_partins B_ j yc p r _ d c zo zo zo (by exact i6.keep k4)) ?_)))))))
          rintro _ fb ⟨bo, d2, rfl, cx, dq, dv, bh⟩
          replace o := o.trans2 bh (fun k e => i k e)
          have q := bh.below q d (fun k e => (World.ownsRow.lt c k e).1)
          replace d := Nat.le_trans d bh.size
          have c := cx
          have l := dq; have ar := l.len
          have hS := dv
          refine nQ ?_
          rcases Bool.eq_false_or_eq_true d2 with a5 | a5
          ·skip
           refine W_ifT a5 zk (yA (zI (zR (zI (zR (yK [] (hd := y) ?_))))))
           exact ⟨bo, rfl, c, (by exact i4.trans ((k4.trans l).mono zo zo zo)), (by exact (i5.keep (k4.trans l) zo zo zo).done (hS za)), o⟩
          ·skip
           refine W_ifF a5 zk (zW (zD ⟨bo, y, zk, c, q, o, d, ?_, ?_⟩))
           ·first | exact k3 | exact l.len.trans k3
           ·first | exact k4 | exact k4.trans l
         ·intro e8
          refine xS (nQ (zF (zW (zD ⟨yc, y, zk, c, q, o, d, ?_, ?_⟩))))
          ·first | exact k3 | exact l.len.trans k3
          ·first | exact k4 | exact k4.trans l
      ·rintro fk fn ⟨yd, y, aq, c, q, o, d, l3, l4⟩
       refine yZ aq (yC (yC (yP zk zk (zU (xB .i64 ((p : Nat) : Int) ((0 : Nat) : Int) (0 < p) rfl (cmpN_gt p 0) zk zk ?_ ?_)))))
       ·intro d1
        replace d1 : 0 < p := by omega
        refine zU (qw (zU (qw (zU (qw (Lq_subN p 1 zo zo zk zk (qw ?_)))))))
        have hz := yB yd (p - 1) zo; obtain ⟨a3, a9⟩ := hz
        have hz := (c.rd).at (k := 1) zj a9
        obtain ⟨da, bi, du, dw⟩ := hz
        refine yM (k := .i64) j (p - 1) _ da bi xC du zo zk zk (qw (zX da (bi + (p - 1) * 1) (I3 a3) zk zf (dw 0 _ rfl) (qw (zU (qw (zU (qw ?_)))))))
        have hz := yB yd pv zo; obtain ⟨bc, bb⟩ := hz
        have hz := (c.rd).at (k := 1) zj bb
        obtain ⟨cz, a7, c6, c2⟩ := hz
        refine yM (k := .i64) j pv _ cz a7 xC c6 zo zk zk (qw (zX cz (a7 + pv * 1) (I3 bc) zk zf (c2 0 _ rfl) (qw (xE 134 [(I3 a3), (I3 bc)] (.bool (decide (a3 < bc))) zg (fun wq hbq => qO a3 bc wq ) (yL (decide (a3 < bc)) ?_ ?_)))))
        ·intro d9
         have eb := el_lt a9 bb d9
         refine qw (xF true zk (qT (yG ?_)))
         intro fj av
         have q := q.trans (av.mono d)
         replace o := o.trans2 (Ch.of_below av) (fun _ h => h.elim)
         replace d := Nat.le_trans d (av.size)
         have c := c.below av
         refine zD (zF (zW (zD (wR (zJ (zJ (zJ (zJ (zc (c_part B_ j yd p r pv _ d c zo zo zo zo) ?_)))))))))
         rintro _ fi ⟨aw, aa, bf, rfl, de, dj, ei, dc, a2⟩
         replace o := o.trans2 a2 (fun k e => i k e)
         have q := a2.below q d (fun k e => (World.ownsRow.lt c k e).1)
         replace d := Nat.le_trans d a2.size
         have c := de
         have l := dj; have ar := l.len
         have u := dc
         refine zJ (zr (N6 aa) (zr (.bool bf) (zK (zK (nR (zJ (zK (nR (zJ (zJ (zsb aa p (zJ (zJ (zsb r aa (zK (zK (nR (zJ (L_quoN (r - p) 8 zo zo zk zk (zK (nR (zJ (zJ (nLt (aa - p) (r - aa) ?_ ?_))))))))))))))))))))))))
         ·intro fc
          refine nQ (zT (wR (zJ (zJ (nGe (aa - p) ((r - p) / 8) ?_ ?_)))))
          ·intro e4
           refine zK (nR (zJ (zJ (zJ (zJ (zc ((ih (aa - p) zo) B_ j aw p aa z2 _ d c zo zo zo (by exact (Low.keep (i6.keep l4) l).part zo) zo (by rfl)) ?_))))))
           rintro _ e6 ⟨cv, rfl, c1, c9, dg, a0⟩
           replace o := o.trans2 a0 (fun k e => i k e)
           have q := a0.below q d (fun k e => (World.ownsRow.lt c k e).1)
           replace d := Nat.le_trans d a0.size
           have c := c1
           have t := c9; have hS := dg; have ap := t.len
           refine nQ (zY (zJ (xR aa 1 (zK (zS (zL (zD ⟨_, zo, (aa + 1), r, z2, true, bf, cv, rfl, y, zk, c, q, o, d, zo, ?_, ?_, ?_, ?_⟩)))))))
           ·exact t.len.trans (l.len.trans l3)
           ·exact i4.trans ((l4.trans (l.trans (t.mono zo zo zo))).mono zo zo zo)
           ·exact Jd.right (i5.keep (l4.trans (l.trans (t.mono zo zo zo))) zo zo zo) (u.keepL t zo zo) zo zo hS
           ·exact (u.keepL t zo zo).low (Nat.le_refl _)
          ·intro fm
           refine zK (nR (zJ (zJ (zJ (zJ (zc ((ih (aa - p) zo) B_ j aw p aa z2 _ d c zo zo zo (by exact (Low.keep (i6.keep l4) l).part zo) zo (by rfl)) ?_))))))
           rintro _ ez ⟨dl, rfl, c7, dh, c4, be⟩
           replace o := o.trans2 be (fun k e => i k e)
           have q := be.below q d (fun k e => (World.ownsRow.lt c k e).1)
           replace d := Nat.le_trans d be.size
           have c := c7
           have t := dh; have hS := c4; have ap := t.len
           refine nQ (zY (zJ (xR aa 1 (zK (zS (zL (zD ⟨_, zo, (aa + 1), r, z2, false, bf, dl, rfl, y, zk, c, q, o, d, zo, ?_, ?_, ?_, ?_⟩)))))))
           ·exact t.len.trans (l.len.trans l3)
           ·exact i4.trans ((l4.trans (l.trans (t.mono zo zo zo))).mono zo zo zo)
           ·exact Jd.right (i5.keep (l4.trans (l.trans (t.mono zo zo zo))) zo zo zo) (u.keepL t zo zo) zo zo hS
           ·exact (u.keepL t zo zo).low (Nat.le_refl _)
         ·intro fa
          refine nQ (zF (wR (zJ (zJ (nGe (r - aa) ((r - p) / 8) ?_ ?_)))))
          ·intro e0
           refine zK (nR (zJ (zJ (xR aa 1 (zJ (zJ (zc ((ih (r - (aa + 1)) zo) B_ j aw (aa + 1) r z2 _ d c zo zo zo (by exact Mid.low u zo) zo (by rfl)) ?_)))))))
           rintro _ ex ⟨bt, rfl, bw, b8, b0, an⟩
           replace o := o.trans2 an (fun k e => i k e)
           have q := an.below q d (fun k e => (World.ownsRow.lt c k e).1)
           replace d := Nat.le_trans d an.size
           have c := bw
           have t := b8; have hS := b0; have ap := t.len
           refine nQ (zY (zJ (zK (zS (zL (zD ⟨_, zo, p, aa, z2, true, bf, bt, rfl, y, zk, c, q, o, d, zo, ?_, ?_, ?_, ?_⟩))))))
           ·exact t.len.trans (l.len.trans l3)
           ·exact i4.trans ((l4.trans (l.trans (t.mono zo zo zo))).mono zo zo zo)
           ·exact Jd.left (i5.keep (l4.trans (l.trans (t.mono zo zo zo))) zo zo zo) (u.keepR t zo) zo zo hS
           ·exact (i6.keep (l4.trans (l.trans (t.mono zo zo zo)))).part zo
          ·intro er
           refine zK (nR (zJ (zJ (xR aa 1 (zJ (zJ (zc ((ih (r - (aa + 1)) zo) B_ j aw (aa + 1) r z2 _ d c zo zo zo (by exact Mid.low u zo) zo (by rfl)) ?_)))))))
           rintro _ ec ⟨cm, rfl, cu, cn, b9, ao⟩
           replace o := o.trans2 ao (fun k e => i k e)
           have q := ao.below q d (fun k e => (World.ownsRow.lt c k e).1)
           replace d := Nat.le_trans d ao.size
           have c := cu
           have t := cn; have hS := b9; have ap := t.len
           refine nQ (zY (zJ (zK (zS (zL (zD ⟨_, zo, p, aa, z2, false, bf, cm, rfl, y, zk, c, q, o, d, zo, ?_, ?_, ?_, ?_⟩))))))
           ·exact t.len.trans (l.len.trans l3)
           ·exact i4.trans ((l4.trans (l.trans (t.mono zo zo zo))).mono zo zo zo)
           ·exact Jd.left (i5.keep (l4.trans (l.trans (t.mono zo zo zo))) zo zo zo) (u.keepR t zo) zo zo hS
           ·exact (i6.keep (l4.trans (l.trans (t.mono zo zo zo)))).part zo
        ·intro dr
         have d0 := el_le a9 bb dr
         refine qw (xF false zk (qT (yG ?_)))
         intro eg af
         have q := q.trans (af.mono d)
         replace o := o.trans2 (Ch.of_below af) (fun _ h => h.elim)
         replace d := Nat.le_trans d (af.size)
         have c := c.below af
         refine zD (zT (wR (zJ (zJ (zJ (zJ (zc (c_parteq B_ j yd p r pv _ d c zo zo zo zo) ?_)))))))
         rintro _ ed ⟨b6, cy, rfl, cb, bz, d4, cp, cr, am⟩
         replace o := o.trans2 am (fun k e => i k e)
         have q := am.below q d (fun k e => (World.ownsRow.lt c k e).1)
         replace d := Nat.le_trans d am.size
         have c := cb
         have l := bz; have ar := l.len
         have hE := cp; have ea := cr
         refine zK (nR (zJ (zK (nQ (yU (zV (yI (zD ⟨_, zo, cy, r, z2, p8, p9, b6, rfl, y, zk, c, q, o, d, zo, ?_, ?_, ?_, ?_⟩))))))))
         ·exact l.len.trans l3
         ·exact i4.trans ((l4.trans l).mono zo zo zo)
         ·exact Jd.eqs (i5.keep (l4.trans l) zo zo zo) hE zo zo (least_of (i6.keep l4) zo l za ea)
         ·exact hE.low zo
       ·intro dk
        replace dk : p ≤ 0 := by omega
        refine zU (qs (qs (qs (qs (qs (qs (qs (qs (qs (qs (qs (qF (yG ?_)))))))))))))
        intro ee ag
        have q := q.trans (ag.mono d)
        replace o := o.trans2 (Ch.of_below ag) (fun _ h => h.elim)
        replace d := Nat.le_trans d (ag.size)
        have c := c.below ag
        refine zD (zF (zW (zD (wR (zJ (zJ (zJ (zJ (zc (c_part B_ j yd p r pv _ d c zo zo zo zo) ?_)))))))))
        rintro _ eh ⟨ae, n, ah, rfl, ch, b5, d7, br, au⟩
        replace o := o.trans2 au (fun k e => i k e)
        have q := au.below q d (fun k e => (World.ownsRow.lt c k e).1)
        replace d := Nat.le_trans d au.size
        have c := ch
        have l := b5; have ar := l.len
        have u := br
        refine zJ (zr (N6 n) (zr (.bool ah) (zK (zK (nR (zJ (zK (nR (zJ (zJ (zsb n p (zJ (zJ (zsb r n (zK (zK (nR (zJ (L_quoN (r - p) 8 zo zo zk zk (zK (nR (zJ (zJ (nLt (n - p) (r - n) ?_ ?_))))))))))))))))))))))))
        ·intro es
         refine nQ (zT (wR (zJ (zJ (nGe (n - p) ((r - p) / 8) ?_ ?_)))))
         ·intro ep
          refine zK (nR (zJ (zJ (zJ (zJ (zc ((ih (n - p) zo) B_ j ae p n z2 _ d c zo zo zo (by exact (Low.keep (i6.keep l4) l).part zo) zo (by rfl)) ?_))))))
          rintro _ ek ⟨bv, rfl, ce, cd, b2, aj⟩
          replace o := o.trans2 aj (fun k e => i k e)
          have q := aj.below q d (fun k e => (World.ownsRow.lt c k e).1)
          replace d := Nat.le_trans d aj.size
          have c := ce
          have t := cd; have hS := b2; have ap := t.len
          refine nQ (zY (zJ (xR n 1 (zK (zS (zL (zD ⟨_, zo, (n + 1), r, z2, true, ah, bv, rfl, y, zk, c, q, o, d, zo, ?_, ?_, ?_, ?_⟩)))))))
          ·exact t.len.trans (l.len.trans l3)
          ·exact i4.trans ((l4.trans (l.trans (t.mono zo zo zo))).mono zo zo zo)
          ·exact Jd.right (i5.keep (l4.trans (l.trans (t.mono zo zo zo))) zo zo zo) (u.keepL t zo zo) zo zo hS
          ·exact (u.keepL t zo zo).low (Nat.le_refl _)
         ·intro en
          refine zK (nR (zJ (zJ (zJ (zJ (zc ((ih (n - p) zo) B_ j ae p n z2 _ d c zo zo zo (by exact (Low.keep (i6.keep l4) l).part zo) zo (by rfl)) ?_))))))
          rintro _ em ⟨cq, rfl, cj, co, ci, al⟩
          replace o := o.trans2 al (fun k e => i k e)
          have q := al.below q d (fun k e => (World.ownsRow.lt c k e).1)
          replace d := Nat.le_trans d al.size
          have c := cj
          have t := co; have hS := ci; have ap := t.len
          refine nQ (zY (zJ (xR n 1 (zK (zS (zL (zD ⟨_, zo, (n + 1), r, z2, false, ah, cq, rfl, y, zk, c, q, o, d, zo, ?_, ?_, ?_, ?_⟩)))))))
          ·exact t.len.trans (l.len.trans l3)
          ·exact i4.trans ((l4.trans (l.trans (t.mono zo zo zo))).mono zo zo zo)
          ·exact Jd.right (i5.keep (l4.trans (l.trans (t.mono zo zo zo))) zo zo zo) (u.keepL t zo zo) zo zo hS
          ·exact (u.keepL t zo zo).low (Nat.le_refl _)
        ·intro ev
         refine nQ (zF (wR (zJ (zJ (nGe (r - n) ((r - p) / 8) ?_ ?_)))))
         ·intro eo
          refine zK (nR (zJ (zJ (xR n 1 (zJ (zJ (zc ((ih (r - (n + 1)) zo) B_ j ae (n + 1) r z2 _ d c zo zo zo (by exact Mid.low u zo) zo (by rfl)) ?_)))))))
          rintro _ ef ⟨bu, rfl, cg, b7, bs, ai⟩
          replace o := o.trans2 ai (fun k e => i k e)
          have q := ai.below q d (fun k e => (World.ownsRow.lt c k e).1)
          replace d := Nat.le_trans d ai.size
          have c := cg
          have t := b7; have hS := bs; have ap := t.len
          refine nQ (zY (zJ (zK (zS (zL (zD ⟨_, zo, p, n, z2, true, ah, bu, rfl, y, zk, c, q, o, d, zo, ?_, ?_, ?_, ?_⟩))))))
          ·exact t.len.trans (l.len.trans l3)
          ·exact i4.trans ((l4.trans (l.trans (t.mono zo zo zo))).mono zo zo zo)
          ·exact Jd.left (i5.keep (l4.trans (l.trans (t.mono zo zo zo))) zo zo zo) (u.keepR t zo) zo zo hS
          ·exact (i6.keep (l4.trans (l.trans (t.mono zo zo zo)))).part zo
         ·intro el
          refine zK (nR (zJ (zJ (xR n 1 (zJ (zJ (zc ((ih (r - (n + 1)) zo) B_ j ae (n + 1) r z2 _ d c zo zo zo (by exact Mid.low u zo) zo (by rfl)) ?_)))))))
          rintro _ ew ⟨ca, rfl, b3, ct, ck, ak⟩
          replace o := o.trans2 ak (fun k e => i k e)
          have q := ak.below q d (fun k e => (World.ownsRow.lt c k e).1)
          replace d := Nat.le_trans d ak.size
          have c := b3
          have t := ct; have hS := ck; have ap := t.len
          refine nQ (zY (zJ (zK (zS (zL (zD ⟨_, zo, p, n, z2, false, ah, ca, rfl, y, zk, c, q, o, d, zo, ?_, ?_, ?_, ?_⟩))))))
          ·exact t.len.trans (l.len.trans l3)
          ·exact i4.trans ((l4.trans (l.trans (t.mono zo zo zo))).mono zo zo zo)
          ·exact Jd.left (i5.keep (l4.trans (l.trans (t.mono zo zo zo))) zo zo zo) (u.keepR t zo) zo zo hS
          ·exact (i6.keep (l4.trans (l.trans (t.mono zo zo zo)))).part zo
theorem c_pdq (B_ : Nat) (c : Value) (s : List (Int)) (a : Nat) (b : Nat) (z : Nat) (w : World) (hs0 : B_ ≤ w.heap.size) (d : Row w B_ 21 1 encI32 c s) (h1 : a ≤ b) (h2 : b ≤ s.length) (h3 : s.length ≤ 2305843009213693951) (hlow : Low s a b) (hzl : z ≤ 1000) :
  Calls Tryz.prog 113 #[c, (N6 a), (N6 b), (N6 z)] w (Ret fun v w' => ∃ (ys : List (Int)), v = (.tuple #[]) ∧ Row w' B_ 21 1 encI32 c ys ∧ (Sw a b s ys) ∧ (Srt ys a b) ∧ Ch (fun k => Value.ownBlock c = some k) w w') :=
 c_pdq_r _ B_ c s a b z w hs0 d h1 h2 h3 hlow hzl rfl
end Go.Proofs.YtddnhlobnembaaaGreatDoor
end

/- === FKak === -/
section
/- FKak: a strings.Builder as a struct with a row of bytes of its own: it may be written in rounds of ranges too. My own text. -/
namespace Go.FK
open Go Go.RowKit
def encByt (c : UInt8) : List Value := [.int .u8 ((c.toNat : Nat) : Int)]
theorem byt_cells (l : List UInt8) : l.flatMap encByt = Lib.strCells ⟨l.toArray⟩ := by
 show l.flatMap encByt = l.map fun b => Value.int .u8 b.toNat
 induction l with
 | nil => rfl
 | cons c l ih => rw [List.flatMap_cons, ih]; rfl
theorem byt_byte (l : List UInt8) : l.flatMap encByt = Lib.byteCells l := by
 induction l with
 | nil => rfl
 | cons c l ih => rw [List.flatMap_cons, ih]; rfl
section ops
variable {r : Option Nat} {P : Program} {n : Nat} {Q : Post} {s : Fm} {w : World} {ops : Array Oper} {rest : List Oper}
variable {d : Option Tmp} {ty : TypeId} {pos : String} {af : Array Edge} {T U E B : Nat} {l : List UInt8} {v : Value}
theorem L_appStrR {A X : Operand} (x : List UInt8) (ht : P.underlying T = some (.slice E)) (hu : P.underlying U = some .string) (hi : (P.info? E).map (fun i => (i.zero, i.size, i.bytes)) = some (some (.int .u8 0), 1, 1))
  (hrow : Row w B E 1 encByt v l) (hl : l.length ≤ 1073741824) (hx : x.length ≤ 1073741824) (hB : B ≤ w.heap.size) (hA : s.ev n A = v) (hX : s.ev n X = S x)
  (h : ∀ v' w', Row w' B E 1 encByt v' (l ++ x) → w.grownBy w' v.ownBlock → (v'.ownBlock = v.ownBlock ∨ v'.ownBlock = some w.heap.size) → L r P n ops Q rest (s.put d v') w') :
  L r P n ops Q (⟨d, .call ⟨.builtin .append, #[A, X], #[T, U]⟩, ty, pos, af, none⟩ :: rest) s w := by
 obtain ⟨i, hq, hz, a, b⟩ := info_u8 hi
 have hsz : (⟨x.toArray⟩ : ByteArray).size = x.length := by show x.toArray.size = _; simp
 have hown : w.ownsRow B E 1 v l.length (l.flatMap encByt) := hrow
 obtain ⟨v', w', hrun, hown', hg, hnil⟩ := Lib.run_append_own_string (P := P) w B T U ty E i ht hu hq hz a b v l.length (l.flatMap encByt) hown ⟨x.toArray⟩ (by rw [hsz]; unfold maxLen; omega) (by rw [hsz]; omega) hB
 have how : v'.ownBlock = v.ownBlock ∨ v'.ownBlock = some w.heap.size := by
  rcases hown.2 with ⟨rfl, _⟩ | ⟨g, cap, cur, rfl, _, hh, hnc, _, hcs, _⟩
  ·by_cases c : (⟨x.toArray⟩ : ByteArray).size = 0
   ·rw [hnil.2 ⟨rfl, c⟩]; exact .inl rfl
   ·have hr := run_append_nil_string (P := P) w T U ty E i (.int .u8 0) ht hu hq hz ⟨x.toArray⟩ (by omega) (by rw [hsz]; omega) (by rw [hsz, b]; omega)
    rw [hr] at hrun; injection hrun with e1 _; rw [← e1]; exact .inr rfl
  ·by_cases hroom : l.length + (⟨x.toArray⟩ : ByteArray).size ≤ cap
   ·have hr := Lib.run_append_room_string (P := P) w T U ty E i ht hu hq a g l.length cap cur hh ⟨x.toArray⟩ hroom (by omega)
    rw [hr] at hrun; injection hrun with e1 _; rw [← e1]; exact .inl rfl
   ·have hr := Lib.run_append_grow_string (P := P) w T U ty E i (.int .u8 0) ht hu hq hz ⟨g, 0, none⟩ l.length cap (l.flatMap encByt) (by rw [a]; exact hown.1) (hown.cells (g := g) rfl) ⟨x.toArray⟩ (by omega) (by rw [hsz]; omega) (by rw [b]; exact growslice_fits (by omega) (by omega))
    rw [hr] at hrun; injection hrun with e1 _; rw [← e1]; exact .inr rfl
 refine wC v' w' (by simp) ?_ (h v' w' ?_ hg how)
 ·have hX' : s.ev n X = .string ⟨x.toArray⟩ := hX
  simp only [execOp, resolve, invoke, builtin, Sem.run_bind, Sem.run_pure, Result.andThen_ok, List.map_toArray, List.map_cons, List.map_nil, hA, hX', hrun]
 ·rw [hsz] at hown'
  show w'.ownsRow B E 1 v' (l ++ x).length ((l ++ x).flatMap encByt)
  rw [List.length_append, List.flatMap_append, byt_cells x]
  exact hown'
end ops
section
variable {T E B b : Nat} {l : List UInt8} {w w1 : World} {p v : Value}
theorem copy2 (hcc : (w1 = w ∧ p = .pointer (some ⟨b, 0, none⟩)) ∨ Wrote w w1 b (.cells [.pointer (some ⟨b, 0, none⟩), v].toArray T (0, 0)))
  (ho : w.heap[b]? = some (.cells [p, v].toArray T (0, 0))) : w1.heap[b]? = some (.cells [.pointer (some ⟨b, 0, none⟩), v].toArray T (0, 0)) ∧ Ch (fun k => k = b) w w1 := by
 rcases hcc with ⟨rfl, rfl⟩ | hW
 ·exact ⟨ho, Ch.refl _ _⟩
 ·exact ⟨hW.here, Ch.of_wrote hW⟩
theorem Bld.ofRow (hp : p = .pointer none ∨ p = .pointer (some ⟨b, 0, none⟩)) (ho : w.heap[b]? = some (.cells [p, v].toArray T (0, 0))) (hr : Row w B E 1 encByt v l) (hB : B ≤ b) (hne : v.ownBlock ≠ some b) : Bld T E B b l w := by
 have hown : w.ownsRowF B E 1 v (Lib.byteCells l).length (Lib.byteCells l) := by
  have h : w.ownsRow B E 1 v l.length (l.flatMap encByt) := hr
  rw [byt_byte] at h
  rw [byteCells_len]
  exact World.ownsRowF_of h
 rcases hp with rfl | rfl
 ·exact .inl ⟨hB, v, ho, hown, hne⟩
 ·exact .inr ⟨hB, v, ho, hown, hne⟩
end
end Go.FK
end

/- === Wmbl8 === -/
section
/- Walks, written by my program walk.py out of the specification mbl8.py: each theorem says what one function returns and that it leaves memory as it was. -/
namespace Go.Proofs.YtddnhlobnembaaaGreatDoor
open Go Go.RowKit Go.FK _root_.Go.Proofs.Tryz
set_option maxHeartbeats 4000000
set_option maxRecDepth 100000
theorem bl_copy0 (b : Nat) (v : Value) (w : World) (ho : w.heap[b]? = some (.cells [(.pointer none), v].toArray 99 (0, 0))) :
  Calls Tryz.prog 78 #[(pt b 0)] w (Ret fun v1 c => v1 = (.tuple #[]) ∧ Wrote w c b (.cells [(pt b 0), v].toArray 99 (0, 0))) := by
 refine wO 20 func78 rfl ?_
 have e := Below.refl w.heap.size w
 have d : w.heap.size ≤ w.heap.size := Nat.le_refl _
 refine wR (zJ (zr (pt b 0) (zFO 0 ho rfl (zr (.bool true) (nQ (zT (zY (zJ (zJ (L_toUns (k := 2) b underlying96 underlying153 zk zk ho zk zk (zr (pt b 0) (L_fromUns (k := 2) b underlying153 underlying96 zk ho zk zk (zr (pt b 0) (zr (pt b 0) (z1 0 (pt b 0) [(pt b 0), v] ho ?_)))))))))))))))
 intro c a
 replace d := Nat.le_trans d (Nat.le_of_eq a.size.symm)
 replace ho := a.here
 refine zS (znrm [] ?_)
 exact ⟨rfl, a⟩
theorem bl_copy1 (b : Nat) (v : Value) (w : World) (ho : w.heap[b]? = some (.cells [(pt b 0), v].toArray 99 (0, 0))) :
  Calls Tryz.prog 78 #[(pt b 0)] w (Ret fun v1 w1 => v1 = (.tuple #[]) ∧ w1 = w) := by
 refine wO 20 func78 rfl ?_
 have a := Below.refl w.heap.size w
 refine wR (zJ (zr (pt b 0) (zFO 0 ho rfl (zr (.bool false) (nQ (zF (wR (zJ (zr (pt b 0) (zFO 0 ho rfl (zJ (L_pneF (k := 2) b underlying96 zk zk zk zk (nQ (zF (zW (znrm [] ?_))))))))))))))))
 exact ⟨rfl, rfl⟩
theorem bl_copy (b : Nat) (p v : Value) (w : World) (hp : p = .pointer none ∨ p = (pt b 0)) (ho : w.heap[b]? = some (.cells [p, v].toArray 99 (0, 0))) :
  Calls Tryz.prog 78 #[(pt b 0)] w (Ret fun v1 a => v1 = (.tuple #[]) ∧ ((a = w ∧ p = (pt b 0)) ∨ Wrote w a b (.cells [(pt b 0), v].toArray 99 (0, 0)))) := by
 rcases hp with rfl | rfl
 ·refine (bl_copy0 b v w ho).mono ?_
  rintro e a ⟨u, rfl, rfl, h⟩
  exact ⟨_, rfl, rfl, .inr h⟩
 refine (bl_copy1 b v w ho).mono ?_
 rintro e a ⟨u, rfl, rfl, h⟩
 exact ⟨_, rfl, rfl, .inl ⟨h, rfl⟩⟩
theorem bd_WriteString (a : Nat) (p : Value) (f : Value) (l : List (UInt8)) (x : List UInt8) (B_ : Nat) (w : World) (hs0 : B_ ≤ w.heap.size) (b : w.heap[a]? = some (.cells [p, f].toArray 99 (0, 0))) (u : B_ ≤ a) (c : Row w B_ 5 1 encByt f l) (hp : p = .pointer none ∨ p = .pointer (some ⟨a, 0, none⟩)) (hl : l.length ≤ 1073741824) (hx : x.length ≤ 1073741824) :
  Calls Tryz.prog 44 #[(pt a 0), (S x)] w (Ret fun v w' => ∃ q0 : Value, v = (.tuple #[(N6 x.length), .nilIface]) ∧ w'.heap[a]? = some (.cells [(pt a 0), q0].toArray 99 (0, 0)) ∧ Row w' B_ 5 1 encByt q0 (l ++ x) ∧ (∀ g, Value.ownBlock q0 = some g → w.heap.size ≤ g ∨ (Dm a f) g) ∧ Ch (Dm a f) w w') := by
 refine wO 19 func44 rfl ?_
 have t := Below.refl B_ w
 have i : B_ ≤ (World.heap w).size := hs0
 have q := Ch.refl (Dm a f) w
 have o : (World.heap w).size ≤ a ∨ (Dm a f) a := .inr (.inl rfl)
 have d : ∀ g, Value.ownBlock f = some g → (World.heap w).size ≤ g ∨ (Dm a f) g := fun g h => .inr (.inr h)
 refine wR (zK (zK (nR (zJ (zc (bl_copy a p f _ hp b) ?_)))))
 rintro _ w1 ⟨rfl, z⟩
 have hz := copy2 z b; obtain ⟨aa, j⟩ := hz
 have t := j.below t i (fun k e => e ▸ u)
 have c := c.ch j (fun g hg e => (c.ne b zi) (by rw [hg, e]))
 replace i := Nat.le_trans i j.size
 have b := aa
 refine nR (zJ (zJ (zr (pt a 0) (zFO 1 b rfl (zJ (L_appStrR (l := l) x underlying97 underlying9 zk c zo zo i zk zk ?_))))))
 intro v2 w3 y n s 
 replace q := q.trans2 j (fun k e => e ▸ o)
 have r := dr_app (D := (Dm a f)) s (by have h0 := q.size; omega : (World.heap w).size ≤ (World.heap w1).size) d
 have t := t.tg i n c
 replace i := Nat.le_trans i (n.size)
 have b := yO b n (c.ne b zi)
 have c := y
 replace q := q.trans2 (Ch.of_grown n) (fun k e => d k e)
 have d := r; clear r
 refine zr (pt a 0) (zr (pt a 1) (vE a 1 v2 [(pt a 0), f] [(pt a 0), v2] 99 zk zk c.one zk b zi rfl ?_))
 intro w7 m
 replace i := Nat.le_trans i (Nat.le_of_eq m.size.symm)
 have c := c.wrote m (c.ne b zi)
 have b := m.here
 refine nR (zJ (zsl 9 x (zK (zK (nQ (yA (yK [(N6 ((x).length)), .nilIface] ?_)))))))
 have hE : ((x).length = x.length) ∧ ((l ++ x) = (l ++ x)) := ⟨(by rfl), (by rfl)⟩
 replace q := q.trans2 (Ch.of_wrote m) (fun k e => e ▸ o)
 exact ⟨_, xQ (congrArg (fun x : Nat => Value.int .i64 (x : Int)) hE.1) (rfl), b, c.cast hE.2, d, q⟩
end Go.Proofs.YtddnhlobnembaaaGreatDoor
end

/- === FKam === -/
section
/- FKam: iterators whose elements are known by a predicate alone (their values may lie in memory that the iterator makes), with a fact on memory at each yield: as FKg's Iter and FKah's Iter2, written out of them by my program genfkam.py. -/
namespace Go.FK
open Go Go.RowKit
def IterP {α : Type} (P : Program) (g : FuncId) (lb : List Value) (encs : α → List Value) (ok fin : List α → Prop) (mem : Nat → α → World → Prop) (N : World → Prop) : Prop :=
  ∀ (l : Nat) (J Jx : Nat → List α → World → Prop) (w : World), N w →
    (∀ A, Below w.heap.size w A → J A.heap.size [] A) →
    (∀ K pre A B, J K pre A → Ch (Iv w.heap.size K) A B → J K pre B) →
    (∀ K pre A B, Jx K pre A → Ch (Iv w.heap.size K) A B → Jx K pre B) →
    (∀ K pre x A, J K pre A → N A → w.heap.size ≤ K → K ≤ A.heap.size → ok (pre ++ [x]) → mem K x A → YieldAt (Fw none) 0 P l (encs x).toArray A fun e A' =>
      (e = .returned (.bool true) ∧ J K (pre ++ [x]) A' ∧ Kp w.heap.size K A A' ∧ N A') ∨ (e = .returned (.bool false) ∧ Jx K (pre ++ [x]) A' ∧ Kp w.heap.size K A A')) →
    Calls P g (.func (.yield l) #[] #[] :: lb).toArray w (Ret fun _ w' => w.heap.size ≤ w'.heap.size ∧ ((∃ K l, fin l ∧ J K l w') ∨ (∃ K pre x, ok (pre ++ [x]) ∧ Jx K (pre ++ [x]) w')))
def IterP2 {α : Type} (P : Program) (g : FuncId) (lb : List Value) (encs : α → List Value) (ok fin : List α → Prop) (mem : Nat → α → World → Prop) (N : World → Prop) : Prop :=
  ∀ (l : Nat) (J Jx : Nat → List α → World → Prop) (w : World), N w →
    (∀ A, Below w.heap.size w A → J A.heap.size [] A) →
    (∀ K pre A B, J K pre A → Ch (Iv w.heap.size K) A B → J K pre B) →
    (∀ K pre A B, Jx K pre A → Ch (Iv w.heap.size K) A B → Jx K pre B) →
    (∀ K pre x A0 A, J K pre A0 → Ch (Iv w.heap.size K) A0 A → N A → w.heap.size ≤ K → K ≤ A0.heap.size → ok (pre ++ [x]) → mem A0.heap.size x A → YieldAt (Fw none) 0 P l (encs x).toArray A fun e A' =>
      (e = .returned (.bool true) ∧ J K (pre ++ [x]) A' ∧ Kp w.heap.size K A A' ∧ Kp A0.heap.size A.heap.size A A' ∧ N A') ∨ (e = .returned (.bool false) ∧ Jx K (pre ++ [x]) A' ∧ Kp w.heap.size K A A')) →
    Calls P g (.func (.yield l) #[] #[] :: lb).toArray w (Ret fun _ w' => w.heap.size ≤ w'.heap.size ∧ ((∃ K l, fin l ∧ J K l w') ∨ (∃ K pre x, ok (pre ++ [x]) ∧ Jx K (pre ++ [x]) w')))
section
variable {P : Program} {n : Nat} {Q : Post} {s : Fm} {w : World}
theorem W_rangeP {α : Type} {g : Operand} {ps : List Tmp} {assign body : Code} (gf : FuncId) (lb : List Value) {encs : α → List Value} (ok fin : List α → Prop) (mem : Nat → α → World → Prop) {N : World → Prop}
  (hg : s.ev n g = .func (.func gf) #[] lb.toArray) (eg : ∀ args w, (callFunc gf args).run P w = .ok (.enter gf args) w)
  (hit : IterP P gf lb encs ok fin mem N) (hN : N w) (hNs : ∀ D A B, N A → Ch D A B → (∀ k, D k → w.heap.size ≤ k) → N B) (hps : ∀ x, (encs x).length = ps.length)
  (I : Nat → List α → World → Prop) (Ix : Nat → Code → List α → World → Prop)
  (h0 : ∀ A, Below w.heap.size w A → I A.heap.size [] A)
  (hI : ∀ K pre A B, I K pre A → Ch (Iv w.heap.size K) A B → I K pre B)
  (hIx : ∀ K c pre A B, Ix K c pre A → Ch (Iv w.heap.size K) A B → Ix K c pre B)
  (hround : ∀ l K pre x A, I K pre A → N A → w.heap.size ≤ K → K ≤ A.heap.size → ok (pre ++ [x]) → mem K x A →
   W (some l) P n assign (thenQ (fun s1 w1 => Kp w.heap.size K A w1 ∧ ∀ w2, Ch (Iv w.heap.size K) w1 w2 → W (some l) P n body (roundQ w.heap.size K I Ix N (pre ++ [x]) w2) s1 w2) (fun _ _ _ => False))
    ((⟨s.f, []⟩ : Fm).puts (ps.zip (encs x))) A)
  (hdone : ∀ K l A, fin l → I K l A → w.heap.size ≤ A.heap.size → A.heap[w.heap.size]? = some (.deferred (some [])) → Q .normal ⟨s.f, ⟨.collected w.heap.size, #[]⟩ :: s.ds⟩ A)
  (hstop : ∀ K c pre x A, ok (pre ++ [x]) → Ix K c (pre ++ [x]) A → w.heap.size ≤ A.heap.size → A.heap[w.heap.size]? = some (.deferred (some [])) → W none P n c Q ⟨s.f, ⟨.collected w.heap.size, #[]⟩ :: s.ds⟩ A) :
  W none P n (.rangeFunc g ps.toArray assign body) Q s w := by
 refine W_iff.2 (wpIn_rangeFunc ?_)
 intro fn hfn
 obtain ⟨rec, hrec⟩ : ∃ rec : LoopState → Option Code → Loop, rec = fun st pe => { state := st, pending := pe, fn, tmps := (s.act n).tmps, params := ps.toArray, assign, body, defers := w.heap.size } := ⟨_, rfl⟩
 obtain ⟨W1, y⟩ : ∃ W1, (w.alloc (.deferred (some []))).alloc (.loop (rec .ready none)) = W1 := ⟨_, rfl⟩
 have au : W1.heap.size = w.heap.size + 2 := by rw [← y]; simp
 have aj : W1.heap[w.heap.size + 1]? = some (.loop (rec .ready none)) := by
  rw [← y]; have := World.alloc_heap_new (w.alloc (.deferred (some []))) (.loop (rec .ready none)); rwa [World.size_alloc] at this
 have ag : W1.heap[w.heap.size]? = some (.deferred (some [])) := by
  rw [← y]; exact (Below.heap_alloc _ _ _ (by simp)).trans (World.alloc_heap_new w _)
 have ae : Below w.heap.size w W1 := by
  rw [← y]; exact ((Below.refl _ w).alloc (Nat.le_refl _) _).alloc (by simp) _
 refine ⟨w.heap.size + 1, [{ target := .collected w.heap.size, args := #[] }], W1, { target := .fn (.func gf) lb.toArray, args := #[.func (.yield (w.heap.size + 1)) #[] #[]] }, W1, gf,
  #[.func (.yield (w.heap.size + 1)) #[] #[]] ++ lb.toArray, W1, ?_, ?_, ?_, ?_, fun hx => by simp [Fw] at hx, ?_⟩
 ·rw [← y, hrec]; exact run_enterLoop_outer _ _ _ _ _
 ·rw [qC]
  simp only [resolve, List.map_toArray, List.map_cons, List.map_nil, hg]
  rfl
 ·intro f' _; trivial
 ·simp only [invoke, eg]
 ·have ak : N W1 := hNs _ _ _ hN ((Ch.of_below ae)) (fun _ h => h.elim)
  have hput : ∀ (K : Nat) (A : World) (k : Nat) (o o' : Obj), A.heap[k]? = some o → Iv w.heap.size K k → Ch (Iv w.heap.size K) A (A.putObj k o') := fun K A k o o' hk hiv =>
   ⟨rfl, rfl, rfl, by simp [World.putObj], fun j _ hn => World.putObj_heap_other (fun e => hn (e ▸ hiv))⟩
  have hivm : ∀ {K k : Nat}, Iv W1.heap.size K k → Iv w.heap.size K k := fun h => ⟨by have := h.1; omega, h.2⟩
  have hcall := hit (w.heap.size + 1)
   (fun K pre A => I K pre A ∧ w.heap.size + 2 ≤ K ∧ A.heap[w.heap.size + 1]? = some (.loop (rec .ready none)) ∧ A.heap[w.heap.size]? = some (.deferred (some [])))
   (fun K pre A => ∃ c, Ix K c pre A ∧ w.heap.size + 2 ≤ K ∧ A.heap[w.heap.size + 1]? = some (.loop (rec .done (some c))) ∧ A.heap[w.heap.size]? = some (.deferred (some [])))
   W1 ak
   (fun A hA => ⟨h0 A (ae.trans (hA.mono (by omega))), by have := hA.size; omega, (hA.block _ (by omega)).trans aj, (hA.block _ (by omega)).trans ag⟩)
   (fun K pre A B hs hc => ⟨hI K pre A B hs.1 (hc.mono fun k h => hivm h), hs.2.1, zZ hs.2.2.1 hc (fun h => by have := h.1; omega), zZ hs.2.2.2 hc (fun h => by have := h.1; omega)⟩)
   (fun K pre A B hs hc => by
    obtain ⟨c, h1, z, h3, h4⟩ := hs
    exact ⟨c, hIx K c pre A B h1 (hc.mono fun k h => hivm h), z, zZ h3 hc (fun h => by have := h.1; omega), zZ h4 hc (fun h => by have := h.1; omega)⟩)
   ?_
  ·refine CallsIn.mono (calls_fw.2 (by simpa using hcall)) ?_
   rintro e W2 ⟨v, rfl, hsz, (⟨K, l9, ao, hi, z, hl, hk⟩ | ⟨K, pre, x, hpre, c, hi, z, hl, hk⟩)⟩
   ·refine ⟨none, _, by have := run_endLoop (P := P) hl (by rw [hrec]; simp); rw [hrec] at this; exact this, ?_⟩
    have hp := hput K W2 (w.heap.size + 1) _ (.loop { rec .ready none with state := .exhausted }) hl ⟨by omega, by omega⟩
    rw [hrec] at hp
    exact ⟨⟨s.f, _⟩, rfl, hdone K l9 _ ao (hI _ _ _ _ hi hp) (Nat.le_trans (show w.heap.size ≤ W2.heap.size by omega) hp.size) ((World.putObj_heap_other (by omega)).trans hk)⟩
   ·refine ⟨some c, _, by have := run_endLoop (P := P) hl (by rw [hrec]; simp); rw [hrec] at this; exact this, ?_⟩
    have hp := hput K W2 (w.heap.size + 1) _ (.loop { rec .done (some c) with state := .exhausted }) hl ⟨by omega, by omega⟩
    rw [hrec] at hp
    exact W_iff.1 (hstop K c pre x _ hpre (hIx _ _ _ _ _ hi hp) (Nat.le_trans (show w.heap.size ≤ W2.heap.size by omega) hp.size) ((World.putObj_heap_other (by omega)).trans hk))
  ·-- one round
   rintro K pre x A ⟨hi, z, hl, hk⟩ hNA aw hKA hpre hmem
   have r : Iv w.heap.size K (w.heap.size + 1) := ⟨by omega, by omega⟩
   have ab : Iv w.heap.size K w.heap.size := ⟨Nat.le_refl _, by omega⟩
   have hlt : w.heap.size + 1 < A.heap.size := yE hl
   have hy := run_yield (P := P) (args := (encs x).toArray) hl (by rw [hrec]; simpa using hps x)
   rw [hrec] at hy
   refine ⟨fn, _, assign, body, hy, roundIn_of_wpIn hfn ?_⟩
   have hfr : (({ tmps := (Array.zip ps.toArray (encs x).toArray).foldl (fun tmps (t, a) => tmps.setIfInBounds t a) (s.act n).tmps, defers := [] } : Act)) = ((⟨s.f, []⟩ : Fm).puts (ps.zip (encs x))).act n := by
    have e := puts_act n (ps.zip (encs x)) ⟨s.f, []⟩
    have e2 : (s.act n).tmps = ((⟨s.f, []⟩ : Fm).act n).tmps := rfl
    rw [e2]
    have e3 : (Array.zip ps.toArray (encs x).toArray) = (ps.zip (encs x)).toArray := by simp
    rw [e3]
    show Act.mk _ _ = Act.mk _ _
    congr 1
    ·rw [List.foldl_toArray]; exact e
    ·exact (puts_ds (ps.zip (encs x)) ⟨s.f, []⟩).symm
   rw [hfr]
   refine wpIn_mono (W_iff.1 (hround (w.heap.size + 1) K pre x A hi hNA (by omega) hKA hpre hmem)) ?_
   rintro e a1 w1 ⟨s1, rfl, af⟩
   cases e with
   | normal =>
    obtain ⟨hkp, hbody⟩ := af
    have ac : w1.heap[w.heap.size + 1]? = some (.loop (rec .ready none)) := (hkp.same _ r).trans hl
    have ah : w1.heap[w.heap.size]? = some (.deferred (some [])) := (hkp.same _ ab).trans hk
    refine ⟨_, run_beginRound ac (by rw [hrec]), ?_⟩
    have hp := hput K w1 (w.heap.size + 1) _ (.loop { rec .ready none with state := .busy }) ac r
    have al : (w1.putObj (w.heap.size + 1) (.loop { rec .ready none with state := .busy })).heap[w.heap.size + 1]? = some (.loop { rec .ready none with state := .busy }) := World.putObj_heap_same (yE ac)
    have an : (w1.putObj (w.heap.size + 1) (.loop { rec .ready none with state := .busy })).heap[w.heap.size]? = some (.deferred (some [])) := (World.putObj_heap_other (by omega)).trans ah
    refine wpIn_mono (W_iff.1 (hbody _ hp)) ?_
    have fin : ∀ (jump : Option Code) (W3 : World), Kp w.heap.size K (w1.putObj (w.heap.size + 1) (.loop { rec .ready none with state := .busy })) W3 →
      (Instr.endRound (w.heap.size + 1) jump).run P W3 = .ok (.bool jump.isNone) (W3.putObj (w.heap.size + 1) (.loop (rec (if jump.isNone then .ready else .done) jump))) ∧
      (W3.putObj (w.heap.size + 1) (.loop (rec (if jump.isNone then .ready else .done) jump))).heap[w.heap.size + 1]? = some (.loop (rec (if jump.isNone then .ready else .done) jump)) ∧
      (W3.putObj (w.heap.size + 1) (.loop (rec (if jump.isNone then .ready else .done) jump))).heap[w.heap.size]? = some (.deferred (some [])) ∧
      Ch (Iv w.heap.size K) W3 (W3.putObj (w.heap.size + 1) (.loop (rec (if jump.isNone then .ready else .done) jump))) ∧
      Kp W1.heap.size K A (W3.putObj (w.heap.size + 1) (.loop (rec (if jump.isNone then .ready else .done) jump))) := fun jump W3 b => by
     have ad := (b.same _ r).trans al
     have hr := run_endRound (P := P) jump ad
     rw [hrec] at hr ⊢
     refine ⟨hr, World.putObj_heap_same (yE ad), (World.putObj_heap_other (by omega)).trans ((b.same _ ab).trans an), hput K W3 _ _ _ ad r, ⟨?_, fun k hkk => ?_⟩⟩
     ·have h1 := hkp.size; have z := hp.size; have h3 := b.size
      simp only [World.putObj, Array.size_setIfInBounds] at z h3 ⊢
      omega
     ·have hkne : k ≠ w.heap.size + 1 := by have := hkk.1; omega
      have hkk' : Iv w.heap.size K k := hivm hkk
      exact (World.putObj_heap_other hkne).trans ((b.same k hkk').trans ((World.putObj_heap_other hkne).trans (hkp.same k hkk')))
    rintro e3 a3 W3 ⟨s3, rfl, u⟩
    cases e3 with
    | normal =>
     obtain ⟨b, m, ai⟩ := u
     obtain ⟨hr, p, q, i, d⟩ := fin none W3 b
     exact ⟨_, _, hr, .inl ⟨rfl, ⟨hI _ _ _ _ m i, z, p, q⟩, d, hNs _ _ _ ai i (fun k h => h.1)⟩⟩
    | ret =>
     obtain ⟨b, m⟩ := u
     obtain ⟨hr, p, q, i, d⟩ := fin (some .ret) W3 b
     exact ⟨_, _, hr, .inr ⟨rfl, ⟨.ret, hIx _ _ _ _ _ m i, z, p, q⟩, d⟩⟩
    | exit id =>
     obtain ⟨b, m⟩ := u
     obtain ⟨hr, p, q, i, d⟩ := fin (some (.exit id)) W3 b
     exact ⟨_, _, hr, .inr ⟨rfl, ⟨.exit id, hIx _ _ _ _ _ m i, z, p, q⟩, d⟩⟩
    | goto t =>
     obtain ⟨b, m⟩ := u
     obtain ⟨hr, p, q, i, d⟩ := fin (some (.goto t)) W3 b
     exact ⟨_, _, hr, .inr ⟨rfl, ⟨.goto t, hIx _ _ _ _ _ m i, z, p, q⟩, d⟩⟩
    | panic _ => exact u.elim
    | outgrown => exact u.elim
   | _ => exact af.elim
end
end Go.FK
end

/- === Wcb3 === -/
section
/- Walks, written by my program walk.py out of the specification cb3.py: each theorem says what one function returns and that it leaves memory as it was. -/
namespace Go.Proofs.YtddnhlobnembaaaGreatDoor
open Go Go.RowKit Go.FK _root_.Go.Proofs.Tryz
set_option maxHeartbeats 4000000
set_option maxRecDepth 100000
theorem it_Keys (r m_rs : Nat) (rs : List (Int × (Int × Int × Int)))  :
  IterP (α := Int) Tryz.prog 98 [.pointer (some ⟨r, 0, none⟩)] (fun x => [.int .i32 x]) (fun l => l.length ≤ rs.length) (fun l => l.Perm (rs.map (·.1))) (fun _ _ _ => True) (fun w => w.heap[r]? = some (.cells [(.map (some m_rs))].toArray 66 (0, 0)) ∧ w.heap[m_rs]? = some (gmObj .i32 vBrk rs)) := by
 intro l J Jx w hN h0 aj ap hY
 refine wO 14 func98 rfl ?_
 have hb := Below.refl w.heap.size w
 have n : w.heap.size ≤ w.heap.size := Nat.le_refl _
 obtain ⟨b, a⟩ := hN
 refine wR (zO 0 b rfl (L_grange (k := .i32) vBrk m_rs rs underlying66 a zk ?_))
 intro b1 w2 j
 have h := yS (yE b) j
 have d := yS (yE a) j
 have z := j.ge n
 replace hb := hb.trans (j.below.mono n)
 replace n := Nat.le_trans n (j.below.size)
 have c := j.here
 refine nQ (yF ?_)
 have t := h0 _ hb
 obtain ⟨K, ae⟩ : ∃ K, K = w2.heap.size := ⟨_, rfl⟩
 rw [← ae] at t
 have s : K ≤ w2.heap.size := by omega
 have ag : w.heap.size ≤ K := by omega
 have p : Iv w.heap.size K b1 := ⟨z, by have := yE c; omega⟩
 replace a := zB a j.below
 replace b := zB b j.below
 refine xG (fun m s0 w0 => ∃ (g : Array Nat) (o : List Int), (m = rs.length - g.size) ∧ (s0.ds = []) ∧ ([0, 5].map s0.f = [(.func (.yield l) #[] #[]), (pt b1 0)]) ∧ (w0.heap[r]? = some (.cells [(.map (some m_rs))].toArray 66 (0, 0))) ∧ (w0.heap[m_rs]? = some (gmObj .i32 vBrk rs)) ∧ (w0.heap[b1]? = some (.mapIter (some m_rs) (List.length rs) g (List.length rs))) ∧ (w.heap.size ≤ w0.heap.size) ∧ (K ≤ w0.heap.size) ∧ (J K o w0) ∧ (TldK rs g o)) _ ⟨(#[]), [], rfl, zk, zk, b, a, c, n, s, t, (TldK.zero _)⟩ ?_
 rintro m4 s5 w6 ⟨g, o, hm, y, ai, b, a, c, n, s, t, i1⟩
 refine yZ ai (wR (L_gnext (k := .i32) (f := vBrk) b1 m_rs rs g zk c a ?_ ?_))
 ·skip
  intro i7 q aw am ao i
  have u := Ch.refl (Iv w.heap.size K) w6
  replace s := Nat.le_trans s (Nat.le_of_eq i.size.symm)
  replace n := Nat.le_trans n (Nat.le_of_eq i.size.symm)
  replace c := i.here
  replace a := zH a i d
  refine zr (.bool true) (nW (zT (zW (zD (yF (wR (L_gentry b1 m_rs rs g i7 q zk c a am (zr (I3 q.1) (zK (nR (zJ (zJ ?_))))))))))))
  replace u := u.trans2 (Ch.of_wrote i) (fun k e => .inr (e ▸ p))
  replace t := aj _ _ _ _ t u
  clear u
  have v : (o ++ [q.1]).length ≤ rs.length := by have := (i1.push za za).len; rw [this.2]; exact this.1
  replace b := zH b i h
  refine L_yieldR l [(I3 q.1)] zk zk (hY K o q.1 _ t ⟨b, a⟩ ag s v trivial) ?_
  rintro e au (⟨rfl, al, hk, af⟩ | ⟨rfl, ak, hk⟩)
  ·refine ⟨true, rfl, ?_⟩
   replace c := (hk.same _ p).trans c
   replace n := Nat.le_trans n hk.size
   replace s := Nat.le_trans s hk.size
   replace t := al
   obtain ⟨b, a⟩ := af
   refine qW true (nQ (zF (zW (zL (zD ⟨_, ?_, (Array.push g i7), (o ++ [q.1]), rfl, y, zk, b, a, c, n, s, t, ?_⟩)))))
   ·have := (i1.push za za).len; simp only [Array.size_push] at *; omega
   exact i1.push za za
  refine ⟨false, rfl, ?_⟩
  replace n := Nat.le_trans n hk.size
  replace s := Nat.le_trans s hk.size
  refine qW false (nQ (zT (yA (zR (zI (zR (yK [] (hd := y) ?_)))))))
  exact ⟨n, Or.inr ⟨K, _, _, v, ak⟩⟩
 skip
 intro ad
 refine zr (.bool false) (nW (zF (yU (zV (zV (yI (znrm [] (hd := y) ?_)))))))
 exact ⟨n, Or.inl ⟨K, o, (by exact i1.all za), t⟩⟩
theorem c_AppendSeq (c0_seq m_rs : Nat) (rs : List (Int × (Int × Int × Int))) (w : World) (d : w.heap[c0_seq]? = some (.cells [(.map (some m_rs))].toArray 66 (0, 0))) (f : w.heap[m_rs]? = some (gmObj .i32 vBrk rs)) (hm : rs.length ≤ 4194304) :
  Calls Tryz.prog 112 #[(.slice none 0 0), (.func (.func 98) #[] #[(pt c0_seq 0)])] w (Ret fun v w' => ∃ (ys : List Int) (q0 : Value), v = q0 ∧ Row w' w.heap.size 21 1 encI32 q0 ys ∧ ys.Perm (rs.map (·.1)) ∧ ys.length = rs.length ∧ Below w.heap.size w w') := by
 refine enterM (args := [(.slice none 0 0), (.func (.func 98) #[] #[(pt c0_seq 0)])]) func112 rfl (zk : _ = 13) zk ?_
 have n := Below.refl w.heap.size w
 refine wR (zN [(.slice none 0 0)] 23 ?_)
 intro b1 w2 u
 have r := yS (yE f) u
 have ap := u.ge n.size
 have j := u.here
 refine zK (nW (wR (zJ (nQ (yF ?_)))))
 have d := zB d u.below
 have o : c0_seq < w2.heap.size := yE d
 have f := zB f u.below
 have m : m_rs < w2.heap.size := yE f
 have s : b1 < w2.heap.size := yE j
 have n := n.tr u.below
 have ab := n.size
 have ay := n
 refine W_rangeP 98 [(pt c0_seq 0)] (fun l => l.length ≤ rs.length) (fun l => l.Perm (rs.map (·.1))) (fun _ _ _ => True) zk (fun _ _ => rfl) (it_Keys c0_seq m_rs rs ) ⟨d, f⟩ ((fun D A B h hc hd => ⟨zZ h.1 hc (fun h => Nat.not_lt.2 (hd _ h) o), zZ h.2 hc (fun h => Nat.not_lt.2 (hd _ h) m)⟩)) (by intro x; rfl) (fun K t A => ∃ (q : List Int) (i : Value), (A.heap[c0_seq]? = some (.cells [(.map (some m_rs))].toArray 66 (0, 0))) ∧ (A.heap[m_rs]? = some (gmObj .i32 vBrk rs)) ∧ (A.heap[b1]? = some (.cells [i].toArray 23 (0, 0))) ∧ (Row A w.heap.size 21 1 encI32 i q) ∧ (∀ g, Value.ownBlock i = some g → ¬ Iv w2.heap.size K g) ∧ (Below w.heap.size w A) ∧ (q = t)) (fun K c t A => False) ?_ ?_ ?_ ?_ ?_ ?_
 ·intro A hA
  exact ⟨[], (.slice none 0 0), zB d hA, zB f hA, zB j hA, Row.nil _ _ _ _ _, nr_nil _ _, n.trans (hA.mono n.size), by rfl⟩
 ·rintro K t A B ⟨q, i, d, f, j, a, b, n, p1⟩ hc
  exact ⟨q, i, zZ d hc (fun h => Nat.not_lt.2 h.1 o), zZ f hc (fun h => Nat.not_lt.2 h.1 m), zZ j hc (fun h => Nat.not_lt.2 h.1 s), a.ch hc b, b, hc.below n n.size (fun k h => Nat.le_trans ab h.1), p1⟩
 ·intro K c _ A B h hc; exact h.elim
 ·intro l K t x A hi hN a3 hK an az
  obtain ⟨q, i, d, f, j, a, b, n, p1⟩ := hi
  have hk := Kp.refl (w2.heap.size) K A
  have ak : ¬ Iv (w2.heap.size) K c0_seq := fun h => Nat.not_lt.2 h.1 o
  have aa : ¬ Iv (w2.heap.size) K m_rs := fun h => Nat.not_lt.2 h.1 m
  have ac : ¬ Iv (w2.heap.size) K b1 := fun h => Nat.not_lt.2 h.1 s
  have d := hN.1
  have f := hN.2
  have ax : (t ++ [x]).length ≤ rs.length := an
  rw [List.length_append, List.length_singleton] at ax
  have a6 : q.length = t.length := by rw [p1]
  refine zY (zK (zS (zD ⟨hk, ?_⟩)))
  intro w4 z
  have n := z.below n n.size (fun k h => Nat.le_trans ab h.1)
  replace hK := Nat.le_trans hK z.size
  replace hk := Kp.refl (w2.heap.size) K w4
  have j := zZ j z ac
  have a := a.ch z b
  refine yF (zY (zO 0 j rfl (zJ (qE xC w.heap.size i q x n.size a zo zk rfl rfl zk rfl zk zk ?_))))
  intro v6 w7 aw y al
  have ao := nr_app al b hK
  have n := n.tg n.size y a
  replace hk := hk.ch (Ch.of_grown y) hK (fun k e => b k e)
  replace hK := Nat.le_trans hK (y.size)
  have d := zZ d z ak
  have d := yO d y (a.ne d zi)
  have f := zZ f z aa
  have f := yO f y (a.ne f (by simp [gmObj]))
  have j := yO j y (a.ne j zi)
  have a := aw
  have b := ao; clear ao
  refine vE b1 0 v6 [i] [v6] 23 zk zk a.one zk j zi rfl ?_
  intro a5 p
  replace hk := hk.ch (Ch.of_wrote p) hK (fun k e h => ac (e ▸ h))
  replace hK := Nat.le_trans hK (Nat.le_of_eq p.size.symm)
  have d := zH d p (zP d j zi)
  have a := a.wrote p (a.ne j zi)
  have j := p.here
  refine zS (zL ?_)
  have n := n.trans (p.below ap)
  have f := zH f p r
  refine wI hk ⟨d, f⟩ ⟨(q ++ [x]), v6, d, f, j, a, b, n, ?_⟩
  rw [p1]
 ·intro K t A ag hi a4 ai
  obtain ⟨q, i, d, f, j, a, b, n, p1⟩ := hi
  refine zL (zD (wR (zO 0 j rfl (zK (nQ (yA (wN (ds := [⟨.collected w2.heap.size, #[]⟩]) zk (wH ai ?_))))))))
  intro a2 ah
  have a := a.wrote ah (a.ne ai zi)
  refine vI [.tmp 4] [i] rfl ⟨zk, trivial⟩ ?_
  have n := n.trans (ah.below ab)
  exact ⟨q, i, rfl, a, (by rw [p1]; exact ag), (by rw [p1, ag.length_eq, List.length_map]), n⟩
 intro K c _ x A _ h; exact h.elim
theorem c_Sort12 (B_ : Nat) (a : Value) (s : List (Int)) (w : World) (hs0 : B_ ≤ w.heap.size) (b : Row w B_ 21 1 encI32 a s) (h1 : s.length ≤ 1114112) :
  Calls Tryz.prog 97 #[a] w (Ret fun v w' => ∃ (ys : List (Int)), v = (.tuple #[]) ∧ Row w' B_ 21 1 encI32 a ys ∧ (Sw 0 s.length s ys) ∧ (Srt ys 0 s.length) ∧ Ch (fun k => Value.ownBlock a = some k) w w') := by
 refine wO 11 func97 rfl ?_
 have l := Below.refl B_ w
 have f : B_ ≤ (World.heap w).size := hs0
 have j := Ch.refl (fun k => Value.ownBlock a = some k) w
 have c : ∀ g, Value.ownBlock a = some g → (World.heap w).size ≤ g ∨ (fun k => Value.ownBlock a = some k) g := fun g h => .inr h
 refine wR (zJ (zln underlying23 (b.rd).len (zK (nQ (zY (zJ (zJ (zJ (L_conv (k := .i64) (((s).length : Nat) : Int) (((s).length : Nat) : Int) zk underlying144 zk (wrap_u64 _ zo zo) (zc (c_bitsLen (((s).length : Nat) : Int) _ zo zo) ?_))))))))))
 rintro _ q ⟨rfl, d⟩
 have l := l.trans (d.mono f)
 replace f := Nat.le_trans f (d.size)
 have := bitLen_le (Int.toNat (((s).length : Nat) : Int))
 have b := b.below d
 refine zc (c_pdq B_ a s 0 ((s).length) (Lib.bitLen (((s).length : Nat) : Int).toNat) _ f b zo zo zo (by exact Low.zero) zo) ?_
 replace j := j.trans2 (Ch.of_below d) (fun _ h => h.elim)
 rintro _ r ⟨n, rfl, m, o, p, i⟩
 have l := i.below l f (fun k e => (World.ownsRow.lt b k e).1)
 replace f := Nat.le_trans f i.size
 have b := m
 refine zS (znrm [] ?_)
 replace j := j.trans2 i (fun k e => c k e)
 exact ⟨n, rfl, b, za, za, j⟩
theorem c_Sorted12 (c0_seq m_rs : Nat) (rs : List (Int × (Int × Int × Int))) (w : World) (f : w.heap[c0_seq]? = some (.cells [(.map (some m_rs))].toArray 66 (0, 0))) (c : w.heap[m_rs]? = some (gmObj .i32 vBrk rs)) (hm : rs.length ≤ 1114112) :
  Calls Tryz.prog 59 #[(.func (.func 98) #[] #[(pt c0_seq 0)])] w (Ret fun v w' => ∃ (q0 : Value), v = q0 ∧ Row w' w.heap.size 21 1 encI32 q0 (keysB rs) ∧ Below w.heap.size w w') := by
 refine wO 9 func59 rfl ?_
 have b := Below.refl w.heap.size w
 refine wR (zK (nR (zJ (L_inline 96 [(.func (.func 98) #[] #[(pt c0_seq 0)])] zk zk (wO 5 func96 rfl (wR (zK (nR (zJ (zc (c_AppendSeq c0_seq m_rs rs _ f c zo) ?_))))))))))
 rintro g r ⟨n, _, rfl, a, m, p, i⟩
 have a := a.base b.size
 refine zK (nQ (yA (yK [g] ?_)))
 show L _ _ _ _ _ _ (Fm.put _ _ g) _
 have b := b.tr i
 refine zK (nR (zJ (zc (c_Sort12 w.heap.size g n _ b.size a zo) ?_)))
 rintro _ q ⟨o, rfl, d, j, l, h⟩
 have b := h.below b b.size (fun k e => (World.ownsRow.lt a k e).1)
 have a := d
 exact nR (zJ (zK (nQ (yA (yK [g] ⟨g, rfl, a.cast (by exact keys_sorted za za za rfl), b⟩)))))
theorem c_there_g (a : Nat) (m_rs : Nat) (rs : List (Int × (Int × Int × Int))) (b : Value) (w : World) (c : w.heap[a]? = some (.cells [(.map (some m_rs)), b].toArray 69 (0, 0))) (d : w.heap[m_rs]? = some (gmObj .i32 vBrk rs)) :
  Calls Tryz.prog 51 #[(pt a 0)] w (Ret fun v w' => v = (.bool true) ∧ Below w.heap.size w w') := by
 refine wO 12 func51 rfl ?_
 have e := Below.refl w.heap.size w
 exact wR (zK (nR (zJ (zr (.bool true) (zJ (zw (zJ (zw (zr (pt a 0) (zw (zr (pt a 0) (zw (zO 0 c rfl (zw (zr (.bool true) (xS (zK (nQ (yA (yK [(.bool true)] ⟨rfl, e⟩))))))))))))))))))))
theorem it_Rows12 (bx_b o : Nat) (m_rs : Nat) (rs : List (Int × (Int × Int × Int))) (y : Value) (hm : rs.length ≤ 1114112) :
  Iter (α := Brk) Tryz.prog 58 [.pointer (some ⟨bx_b, 0, none⟩)] (fun x => [.agg #[.int .i32 x.1, .int .i32 x.2.1, .int .u8 x.2.2]]) (rowsB rs) (fun w => w.heap[bx_b]? = some (.cells [(pt o 0)].toArray 27 (0, 0)) ∧ w.heap[o]? = some (.cells [(.map (some m_rs)), y].toArray 69 (0, 0)) ∧ w.heap[m_rs]? = some (gmObj .i32 vBrk rs)) := by
 intro l J Jx w hN h0 a0 aq hY
 refine wO 29 func58 rfl ?_
 have hb := Below.refl w.heap.size w
 have j : w.heap.size ≤ w.heap.size := Nat.le_refl _
 obtain ⟨c, b, a⟩ := hN
 refine yC (wR (zO 0 c rfl (zc (c_there_g o m_rs rs y _ b a) ?_)))
 rintro _ w1 ⟨rfl, u⟩
 have hb := hb.trans (u.mono j)
 replace j := Nat.le_trans j (u.size)
 have c := zB c u
 have b := zB b u
 refine qW true (nQ (zF (zW (zD (wR (zO 0 c rfl (zr (pt o 0) (zFO 0 b rfl (L_inline 60 [(.map (some m_rs))] zk zk (wO 4 func60 rfl (wR (zN [(.map (some m_rs))] 66 ?_))))))))))))
 intro b4 w5 q
 have v := q.ge j
 have hb := hb.trans (q.below.mono j)
 replace j := Nat.le_trans j (q.below.size)
 have d := q.here
 refine zK (nR (zr (.func (.func 98) #[] #[(pt b4 0)]) (zK (nQ (yA (yK [(.func (.func 98) #[] #[(pt b4 0)])] ?_))))))
 show L _ _ _ _ _ _ (Fm.put _ _ (.func (.func 98) #[] #[(pt b4 0)])) _
 have a := zB (zB a u) q.below
 refine zc (c_Sorted12 b4 m_rs rs _ d a zo) ?_
 rintro q7 w8 ⟨_, rfl, h, t⟩
 have h := h.base j
 have hb := hb.trans (t.mono j)
 replace j := Nat.le_trans j (t.size)
 refine zln underlying23 (h.rd).len (zJ (nQ (yF ?_)))
 have hJ := h0 _ hb
 obtain ⟨K, aj⟩ : ∃ K, K = w8.heap.size := ⟨_, rfl⟩
 rw [← aj] at hJ
 have hK : K ≤ w8.heap.size := by omega
 have am : w.heap.size ≤ K := by omega
 have d := zB d t
 have r : Iv w.heap.size K b4 := ⟨v, by have := yE d; omega⟩
 have s : ∀ g, Value.ownBlock q7 = some g → Iv w.heap.size K g := fun g hg => by have := World.ownsRow.lt h g hg; exact ⟨this.1, by omega⟩
 have c := zB (zB c q.below) t
 have a := zB a t
 have b := zB (zB b q.below) t
 refine xG (fun m s0 w0 => ∃ (i : Nat) (n : List Brk), (m = (keysB rs).length - i) ∧ (s0.ds = []) ∧ ([0, 1, 13, 14, 15].map s0.f = [(.func (.yield l) #[] #[]), (pt bx_b 0), q7, (N6 (((keysB rs)).length)), (N6 i)]) ∧ (Row w0 w.heap.size 21 1 encI32 q7 (keysB rs)) ∧ (w0.heap[bx_b]? = some (.cells [(pt o 0)].toArray 27 (0, 0))) ∧ (w0.heap[o]? = some (.cells [(.map (some m_rs)), y].toArray 69 (0, 0))) ∧ (w0.heap[m_rs]? = some (gmObj .i32 vBrk rs)) ∧ (w0.heap[b4]? = some (.cells [(.map (some m_rs))].toArray 66 (0, 0))) ∧ (w.heap.size ≤ w0.heap.size) ∧ (K ≤ w0.heap.size) ∧ (J K n w0) ∧ (i ≤ (keysB rs).length) ∧ (n = (rowsB rs).take i)) _ ⟨0, [], rfl, zk, zk, h, c, b, a, d, j, hK, hJ, (Nat.zero_le _), rfl⟩ ?_
 rintro az ay av ⟨i, n, hm, ac, an, h, c, b, a, d, j, hK, hJ, i1, ad⟩
 refine yZ an ?_
 have ax := keysB_len rs
 refine wR (nLt i (((keysB rs)).length) ?_ ?_)
 ·intro a4
  refine nW (zT (zW (zD (yC (yF (wR ?_))))))
  have hz := yB (keysB rs) i zo; obtain ⟨p, ai⟩ := hz
  refine zE1 h.rd xC i ai rfl fun _ => (zK (nR (zJ (zO 0 c rfl (zr (pt o 0) (zFO 0 b rfl (zJ (L_glook1 (k := .i32) (f := vBrk) (0, 0, 0) p rs underlying66 underlying21 zk (GmAt.of a) zk zk ?_))))))))
  have z : n ++ [(lookB rs p)] <+: (rowsB rs) := by rw [ad]; exact rows_pre za
  refine L_yield l [(Value.agg #[(I3 ((lookB rs p).1)), (I3 ((lookB rs p).2.1)), (U8 ((lookB rs p).2.2))])] zk zk (hY K n (lookB rs p) _ hJ ⟨c, b, a⟩ am hK z) ?_
  rintro e a2 (⟨rfl, ap, hk, ak⟩ | ⟨rfl, ao, hk⟩)
  ·refine ⟨true, rfl, ?_⟩
   have d := (hk.same _ r).trans d
   have h := h.kp hk s
   replace j := Nat.le_trans j hk.size
   replace hK := Nat.le_trans hK hk.size
   replace hJ := ap
   obtain ⟨c, b, a⟩ := ak
   refine qW true (nQ (zF (zW (zL (zD (zY (xR i 1 (zJ (zS (zD ⟨_, zo, (i + 1), (n ++ [(lookB rs p)]), rfl, ac, zk, h, c, b, a, d, j, hK, hJ, zo, ?_⟩))))))))))
   rw [ad]; exact rows_take za
  refine ⟨false, rfl, ?_⟩
  replace j := Nat.le_trans j hk.size
  replace hK := Nat.le_trans hK hk.size
  refine qW false (nQ (zT (yA (zR (zI (zI (zR (yK [] (hd := ac) ?_))))))))
  exact ⟨j, Or.inr ⟨K, _, _, z, ao⟩⟩
 intro a1
 refine nW (zF (yU (zV (zV (yI (znrm [] (hd := ac) ?_))))))
 have ah : n = (rowsB rs) := by first | (rw [ad, List.take_of_length_le (by rw [vM, ← keysB_len]; omega)]; done)
 rw [ah] at hJ
 exact ⟨j, Or.inl ⟨K, hJ⟩⟩
theorem c_Rows (a : Nat) (m_rs : Nat) (rs : List (Int × (Int × Int × Int))) (e : Value) (w : World) (i : w.heap[a]? = some (.cells [(.map (some m_rs)), e].toArray 69 (0, 0))) (h : w.heap[m_rs]? = some (gmObj .i32 vBrk rs)) :
  Calls Tryz.prog 24 #[(pt a 0)] w (Ret fun v w' => ∃ (cb0 : Nat), v = (.func (.func 58) #[] #[(pt cb0 0)]) ∧ w'.heap[cb0]? = some (.cells [(pt a 0)].toArray 27 (0, 0)) ∧ w.heap.size ≤ cb0 ∧ Below w.heap.size w w') := by
 refine wO 4 func24 rfl ?_
 have f := Below.refl w.heap.size w
 refine wR (zN [(pt a 0)] 27 ?_)
 intro g j b
 have d := b.ge f.size
 have c := b.here
 have f := f.tr b.below
 exact zK (nR (zr (.func (.func 58) #[] #[(pt g 0)]) (zK (nQ (yA (yK [(.func (.func 58) #[] #[(pt g 0)])] ⟨g, rfl, c, d, f⟩))))))
theorem c_words_Letter (c : Int) (w : World) :
  Calls Tryz.prog 43 #[(U8 c)] w (Ret fun v w' => v = (.tuple #[(S (letterS c)), (I6 (letterE c))]) ∧ Below w.heap.size w w') := by
 refine wO 11 func43 rfl ?_
 have a := Below.refl w.heap.size w
 refine wR (zK (zK (nW (wR (zJ (nQ (yF (wR (qM .u8 c 0 ?_ ?_)))))))))
 ·intro g
  exact zK (nQ (zT (wR (zK (zK (nQ (yA (zR (zI (yK [(S [110]), (I6 0)] ⟨xQ (congrArg S (by simp [letterS, *])) (e6 (by simp [letterE, *])), a⟩))))))))))
 intro d
 refine zK (nQ (zF (wR (qM .u8 c 1 ?_ ?_))))
 ·intro b
  exact zK (nQ (zT (wR (zK (zK (nQ (yA (zR (zI (yK [(S [111]), (I6 0)] ⟨xQ (congrArg S (by simp [letterS, *])) (e6 (by simp [letterE, *])), a⟩))))))))))
 intro f
 refine zK (nQ (zF (wR (qM .u8 c 2 ?_ ?_))))
 ·intro h
  exact zK (nQ (zT (wR (zK (zK (nQ (yA (zR (zI (yK [(S [99]), (I6 0)] ⟨xQ (congrArg S (by simp [letterS, *])) (e6 (by simp [letterE, *])), a⟩))))))))))
 intro e
 exact zK (nQ (zF (zW (zL (zD (wR (zK (zK (nQ (yA (yK [(S []), (I6 2)] ⟨xQ (congrArg S (by simp [letterS, *])) (e6 (by simp [letterE, *])), a⟩)))))))))))
theorem c_words_Side (s : List UInt8) (w : World) (hs : s.length ≤ 1073741824) :
  Calls Tryz.prog 76 #[(S s)] w (Ret fun v w' => v = (.tuple #[(U8 ((sideF s).1)), (I6 ((sideF s).2))]) ∧ Below w.heap.size w w') := by
 refine wO 33 func76 rfl ?_
 have c := Below.refl w.heap.size w
 refine wR (zK (zK (nW (wR (zM 3 [(S [78, 111, 110, 101]), (S [79, 112, 101, 110]), (S [67, 108, 111, 115, 101])] 9 ?_)))))
 intro p w2 i
 have n := i.ge c.size
 have b : Row w2 w.heap.size 9 1 encStr (.slice (some ⟨p, 0, none⟩) 3 3) sideTab := Row.made sideTab i n rfl rfl (by first | decide | (simp; done))
 refine zln underlying88 (b.rd).len (zJ (nQ (yF ?_)))
 replace c := c.tr i.below
 refine xG (fun m s0 w0 => ∃ (k : Nat), (m = 3 - k) ∧ (s0.ds = []) ∧ ([0, 9, 10, 11].map s0.f = [(S s), (.slice (some ⟨p, 0, none⟩) 3 3), (N6 ((sideTab).length)), (N6 k)]) ∧ (Row w0 w.heap.size 9 1 encStr (.slice (some ⟨p, 0, none⟩) 3 3) sideTab) ∧ (Below w.heap.size w w0) ∧ (k ≤ 3) ∧ (sideFrom s k = sideF s)) _ ⟨0, rfl, zk, zk, b, c, by omega, rfl⟩ ?_
 rintro m4 s5 w6 ⟨k, hm, h, o, b, c, i1, l⟩
 refine yZ o ?_
 have t : sideTab.length = 3 := rfl
 refine wR (nLt k ((sideTab).length) ?_ ?_)
 ·intro h7
  refine nW (zT (zW (zD (yC (yF (wR (zJ ?_)))))))
  have r := yB sideTab k zo; obtain ⟨q, j⟩ := r
  have := sideTab_len j
  have a := j
  refine zE1 b.rd el88 k j rfl fun _ => (zK (zK (nR (zJ (L_conv (k := .i64) ((k : Nat) : Int) ((k : Nat) : Int) zk underlying24 zk (wrap_u8 _ zo zo) (zK (nR (zJ (zc (c_words_Letter ((k : Nat) : Int) _ ) ?_)))))))))
  rintro _ ad ⟨rfl, e⟩
  have := letterS_len ((k : Nat) : Int)
  refine zJ (zr (S (letterS ((k : Nat) : Int))) (zr (I6 (letterE ((k : Nat) : Int))) (zK (zK (nR (zJ (zJ (zc (c_words_Alike s (letterS ((k : Nat) : Int)) _ zo zo) ?_))))))))
  rintro _ u ⟨rfl, d⟩
  refine yN (alikeB s (letterS ((k : Nat) : Int))) ?_ ?_
  ·intro ac
   replace c := (c.tr e).tr d
   exact zJ (zs (zs (zs (xS (nQ (zT (wR (zJ (zK (zK (nQ (yA (zR (zI (zI (zR (zI (yK [(U8 ((k : Nat) : Int)), (I6 0)] (hd := h) ⟨xQ (eu (by (rw [← l, vA a]; simp [*]; done))) (e6 (by (rw [← l, vA a]; simp [*]; done))), c⟩))))))))))))))))))
  intro y
  refine zJ (zw (zJ (zw (zJ (zw (zc (c_words_Alike s q _ zo zo) ?_))))))
  rintro _ z ⟨rfl, g⟩
  refine yN (alikeB s q) ?_ ?_
  ·intro ae
   replace c := ((c.tr e).tr d).tr g
   exact xY (nQ (zT (wR (zJ (zK (zK (nQ (yA (zR (zI (zI (zR (zI (yK [(U8 ((k : Nat) : Int)), (I6 0)] (hd := h) ⟨xQ (eu (by (rw [← l, vA a]; simp [*]; done))) (e6 (by (rw [← l, vA a]; simp [*]; done))), c⟩))))))))))))))
  intro ab
  refine xY (nQ (zF (zW (zL (zD (zY (xR k 1 (zJ (zS ?_)))))))))
  replace c := ((c.tr e).tr d).tr g
  replace b := ((b.below e).below d).below g
  refine zD ⟨_, zo, (k + 1), rfl, h, zk, b, c, zo, ?_⟩
  rw [← l, vA a]; simp [*]
 intro aa
 exact nW (zF (yU (zV (zV (yI (zD (wR (zK (zK (nQ (yA (yK [(U8 0), (I6 51)] (hd := h) ⟨xQ (eu (by (rw [← l, sideFrom_end (k := k) zo]; done))) (e6 (by (rw [← l, sideFrom_end (k := k) zo]; done))), c⟩))))))))))))
theorem c_Write12 (af : Nat) (m_rs : Nat) (rs : List (Int × (Int × Int × Int))) (an : Value) (w : World) (j : w.heap[af]? = some (.cells [(.map (some m_rs)), an].toArray 69 (0, 0))) (f : w.heap[m_rs]? = some (gmObj .i32 vBrk rs)) (hm : rs.length ≤ 1114112) :
  Calls Tryz.prog 16 #[(pt af 0)] w (Ret fun v w' => v = (S (writeB rs)) ∧ Below w.heap.size w w') := by
 refine enterM (args := [(pt af 0)]) func16 rfl (zk : _ = 42) zk ?_
 have q := Below.refl w.heap.size w
 refine wR (zK (nR (zN [(.pointer none), (.slice none 0 0)] 99 ?_)))
 intro b1 w2 aq
 have aj := yS (yE f) aq
 have ay := aq.ge q.size
 have i := aq.here
 have j := zB j aq.below
 have f := zB f aq.below
 refine nW (wR (zJ (zc (c_Rows af m_rs rs an _ j f) ?_)))
 rintro _ w4 ⟨a1, rfl, a, az, a3⟩
 have q := q.tr aq.below
 replace az := Nat.le_trans q.size az
 refine nQ (yF ?_)
 have j := zB j a3
 have ag : af < w4.heap.size := yE j
 have f := zB f a3
 have r : m_rs < w4.heap.size := yE f
 have i := zB i a3
 have ai : b1 < w4.heap.size := yE i
 have z : a1 < w4.heap.size := yE a
 have q := q.tr a3
 have a0 := q.size
 have bs := q
 refine W_range 58 [(pt a1 0)] (rowsB rs) zk (fun _ _ => rfl) (it_Rows12 a1 af m_rs rs an zo) ⟨a, j, f⟩ ((fun D A B h hc hd => ⟨zZ h.1 hc (fun h => Nat.not_lt.2 (hd _ h) z), zZ h.2.1 hc (fun h => Nat.not_lt.2 (hd _ h) ag), zZ h.2.2 hc (fun h => Nat.not_lt.2 (hd _ h) r)⟩)) (by intro x; rfl) (fun K a4 A => ∃ (pp : Value) (ac : List UInt8) (n : Value), (A.heap[af]? = some (.cells [(.map (some m_rs)), an].toArray 69 (0, 0))) ∧ (A.heap[m_rs]? = some (gmObj .i32 vBrk rs)) ∧ (A.heap[b1]? = some (.cells [pp, n].toArray 99 (0, 0))) ∧ (A.heap[a1]? = some (.cells [(pt af 0)].toArray 27 (0, 0))) ∧ (Row A w.heap.size 5 1 encByt n ac) ∧ (∀ g, Value.ownBlock n = some g → ¬ Iv w4.heap.size K g) ∧ (Below w.heap.size w A) ∧ (pp = .pointer none ∨ pp = .pointer (some ⟨b1, 0, none⟩)) ∧ (ac = a4.flatMap lineB)) (fun K c a4 A => False) ?_ ?_ ?_ ?_ ?_ ?_
 ·intro A hA
  exact ⟨(.pointer none), [], (.slice none 0 0), zB j hA, zB f hA, zB i hA, zB a hA, Row.nil _ _ _ _ _, nr_nil _ _, q.trans (hA.mono q.size), by exact .inl rfl, by rfl⟩
 ·rintro K a4 A B ⟨pp, ac, n, j, f, i, a, d, m, q, rp, ra⟩ hc
  exact ⟨pp, ac, n, zZ j hc (fun h => Nat.not_lt.2 h.1 ag), zZ f hc (fun h => Nat.not_lt.2 h.1 r), zZ i hc (fun h => Nat.not_lt.2 h.1 ai), zZ a hc (fun h => Nat.not_lt.2 h.1 z), d.ch hc m, m, hc.below q q.size (fun k h => Nat.le_trans a0 h.1), rp, ra⟩
 ·intro K c _ A B h hc; exact h.elim
 ·intro l K a4 x A hi hN b3 hK bb
  obtain ⟨pp, ac, n, j, f, i, a, d, m, q, rp, ra⟩ := hi
  have hk := Kp.refl (w4.heap.size) K A
  have bg : ¬ Iv (w4.heap.size) K af := fun h => Nat.not_lt.2 h.1 ag
  have av : ¬ Iv (w4.heap.size) K m_rs := fun h => Nat.not_lt.2 h.1 r
  have ax : ¬ Iv (w4.heap.size) K b1 := fun h => Nat.not_lt.2 h.1 ai
  have a2 : ¬ Iv (w4.heap.size) K a1 := fun h => Nat.not_lt.2 h.1 z
  have a := hN.1
  have j := hN.2.1
  have f := hN.2.2
  have b6 := wrB_len ra bb
  refine zY (zN [(I3 0), (I3 0), (U8 0)] 26 ?_)
  intro b8 w9 p
  have ah := yS (yE f) p
  have bh := p.ge q.size
  have au : ¬ Iv w4.heap.size K b8 := fun h => by have := h.2; have := p.num; omega
  replace hk := hk.ch (Ch.of_below p.below) hK (fun _ h => h.elim)
  replace hK := Nat.le_trans hK (p.below.size)
  have o := p.here
  refine wE [(I3 x.1), (I3 x.2.1), (U8 x.2.2)] o ?_
  intro bx s
  replace hk := hk.ch (Ch.of_wrote s) hK (fun k e h => au (e ▸ h))
  replace hK := Nat.le_trans hK (Nat.le_of_eq s.size.symm)
  have j := zB j p.below
  have j := zH j s (zP j o zi)
  have i := zB i p.below
  have i := zH i s (zP i o zi)
  have a := zB a p.below
  have a := zH a s (zP a o zi)
  have d := d.below p.below
  have d := d.wrote s (d.ne o zi)
  have o := s.here
  refine zS (zD ⟨hk, ?_⟩)
  intro bn aa
  have q := (q.tr p.below).trans (s.below bh)
  have q := aa.below q q.size (fun k h => Nat.le_trans a0 h.1)
  replace hK := Nat.le_trans hK aa.size
  replace hk := Kp.refl (w4.heap.size) K bn
  have o := zZ o aa au
  refine yF (wR (zFO 0 o rfl (zc (c_points_Show x.1 _ ) ?_)))
  rintro _ bu ⟨rfl, t⟩
  replace hk := hk.ch (Ch.of_below t) hK (fun _ h => h.elim)
  replace hK := Nat.le_trans hK (t.size)
  have := showF_len x.1
  have o := zB o t
  refine zJ (zr (S ((showF x.1).1)) (zr (I6 ((showF x.1).2)) (zK (zK (nR (zFO 1 o rfl (zc (c_points_Show x.2.1 _ ) ?_)))))))
  rintro _ b2 ⟨rfl, u⟩
  replace hk := hk.ch (Ch.of_below u) hK (fun _ h => h.elim)
  replace hK := Nat.le_trans hK (u.size)
  have := showF_len x.2.1
  have o := zB o u
  refine zJ (zr (S ((showF x.2.1).1)) (zr (I6 ((showF x.2.1).2)) (zK (zK (nR (zFO 2 o rfl (zc (c_words_Letter x.2.2 _ ) ?_)))))))
  rintro _ b4 ⟨rfl, ab⟩
  replace hk := hk.ch (Ch.of_below ab) hK (fun _ h => h.elim)
  replace hK := Nat.le_trans hK (ab.size)
  have := letterS_len x.2.2
  have q := ((q.tr t).tr u).tr ab
  have i := zB (zB (zB (zZ i aa ax) t) u) ab
  have d := (((d.ch aa m).below t).below u).below ab
  refine zJ (zr (S (letterS x.2.2)) (zr (I6 (letterE x.2.2)) (zK (zK (nQ (zY (zJ (wX ((showF x.1).1) ([59, 32] : List UInt8) (by (simp only [List.length_append, List.length_cons, List.length_nil]; omega)) zk zk (zJ (wX ((showF x.1).1 ++ ([59, 32] : List UInt8)) ((showF x.2.1).1) (by (simp only [List.length_append, List.length_cons, List.length_nil]; omega)) zk zk (wX (((showF x.1).1 ++ ([59, 32] : List UInt8)) ++ (showF x.2.1).1) ([59, 32] : List UInt8) (by (simp only [List.length_append, List.length_cons, List.length_nil]; omega)) zk zk (zJ (wX ((((showF x.1).1 ++ ([59, 32] : List UInt8)) ++ (showF x.2.1).1) ++ ([59, 32] : List UInt8)) (letterS x.2.2) (by (simp only [List.length_append, List.length_cons, List.length_nil]; omega)) zk zk (wX (((((showF x.1).1 ++ ([59, 32] : List UInt8)) ++ (showF x.2.1).1) ++ ([59, 32] : List UInt8)) ++ letterS x.2.2) ([10] : List UInt8) (by (simp only [List.length_append, List.length_cons, List.length_nil]; omega)) zk zk (zc (bd_WriteString b1 pp n ac ((((((showF x.1).1 ++ ([59, 32] : List UInt8)) ++ (showF x.2.1).1) ++ ([59, 32] : List UInt8)) ++ letterS x.2.2) ++ ([10] : List UInt8)) w.heap.size _ q.size i ay d za zo (by (simp only [List.length_append, List.length_cons, List.length_nil]; omega))) ?_)))))))))))))))
  rintro _ b0 ⟨bk, rfl, bi, a9, bj, ad⟩
  have bl : ∀ k, Dm b1 n k → ¬ Iv (w4.heap.size) K k := fun k e => e.elim (fun x => by rw [x]; exact ax) (fun x => m k x)
  have ar : ∀ g, Value.ownBlock bk = some g → ¬ Iv (w4.heap.size) K g := fun g hg => (bj g hg).elim (fun x y => by have := y.2; omega) (fun e => bl g e)
  replace hk := hk.ch ad hK bl
  replace hK := Nat.le_trans hK ad.size
  have q := ad.below q q.size (fun k e => e.elim (fun x => x ▸ ay) (fun x => (World.ownsRow.lt d k x).1))
  have j := zB (zB (zB (zZ j aa bg) t) u) ab
  have j := obj_ch_mut j ad (zP j i zi) (d.ne j zi)
  have f := zB (zB (zB (zZ (zH (zB f p.below) s ah) aa av) t) u) ab
  have f := obj_ch_mut f ad aj (d.ne f (by simp [gmObj]))
  have a := zB (zB (zB (zZ a aa a2) t) u) ab
  have a := obj_ch_mut a ad (zP a i zi) (d.ne a zi)
  have i := bi
  refine zS (zL (wI hk ⟨a, j, f⟩ ⟨(pt b1 0), (ac ++ ((((((showF x.1).1 ++ ([59, 32] : List UInt8)) ++ (showF x.2.1).1) ++ ([59, 32] : List UInt8)) ++ letterS x.2.2) ++ ([10] : List UInt8))), bk, j, f, i, a, a9, ar, q, ?_, ?_⟩))
  ·exact .inr rfl
  exact wrB_step ra
 ·intro K A hi bv ao
  obtain ⟨pp, ac, n, j, f, i, a, d, m, q, rp, ra⟩ := hi
  refine zL (zD (wR ?_))
  have bz := Bld.ofRow za i d ay (d.ne i zi)
  refine zc (bldStr (fun B b l w h hB => Tryz.Builder_String_any_k B b l w h hB) ac _ bz q.size) ?_
  rintro _ bw ⟨rfl, bd, be, am⟩
  have bp := Bld.obj_kept bz am j (by intro cs X fz e; first | (simp [mapObj] at e; done) | (simp [gmObj] at e; done) | (injection e with _ e2 _; subst e2; decide))
  have bm := Bld.obj_kept bz am f (by intro cs X fz e; first | (simp [mapObj] at e; done) | (simp [gmObj] at e; done) | (injection e with _ e2 _; subst e2; decide))
  have bc := Bld.obj_kept bz am a (by intro cs X fz e; first | (simp [mapObj] at e; done) | (simp [gmObj] at e; done) | (injection e with _ e2 _; subst e2; decide))
  have ap := Bld.obj_kept bz am ao (by intro cs X fz e; first | (simp [mapObj] at e; done) | (simp [gmObj] at e; done) | (injection e with _ e2 _; subst e2; decide))
  have ao := ap; clear ap
  replace bz := bd
  refine zK (nQ (yA (wN (ds := [⟨.collected w4.heap.size, #[]⟩]) zk (wH ao ?_))))
  intro bt a5
  replace bz := Bld.wrote bz a5 ao (by intro cs X fz e; first | (simp [mapObj] at e; done) | (simp [gmObj] at e; done) | (injection e with _ e2 _; subst e2; decide))
  refine vI [.tmp 2] [(S ac)] rfl ⟨zk, trivial⟩ ?_
  have q := (q.trans be).trans (a5.below a0)
  exact ⟨congrArg S (by first | rfl | exact ra), q⟩
 intro K c _ x A _ h; exact h.elim
end Go.Proofs.YtddnhlobnembaaaGreatDoor
end

/- === An === -/
section
/- errors.As at a target of type *api.Errno, the error an api.Errno, by its own text: turned to this seat out of the worked example by my program asgen2.py. -/
namespace Go.Proofs.YtddnhlobnembaaaGreatDoor
open Go Go.RowKit Go.Extern.Stop Go.Stop Go.Extern Go.FK
theorem An.valueOf27 (t : Addr) (w : World) : (ReflectliteValue.unpack (.iface 143 (.pointer (some t)))).run Tryz.prog w
  = .ok (.agg #[.pointer (some ⟨7, 143, none⟩), .pointer (some ⟨w.heap.size, 0, none⟩), .int .u64 150]) (w.alloc (.cells #[.pointer (some t)] 143)) := by kernel_rfl
theorem An.type27 (a : Addr) (w : World) : (ReflectliteValue.methodAny (ReflectliteValue.valueError "reflectlite.Value.Type" 0) (fun t _ _ _ => ReflectliteType.toType t) #[.agg #[.pointer (some ⟨7, 143, none⟩), .pointer (some a), .int .u64 150]]).run Tryz.prog w
  = .ok (.iface 180 (.agg #[.pointer (some ⟨7, 143, none⟩)])) w := by kernel_rfl
theorem An.methodKind (h : Value) (w : World) : (Go.method 387 180 (.agg #[h]) "Kind").run Tryz.prog w = .ok (182, h) w := by kernel_rfl
theorem An.kind27 (w : World) : ((ReflectliteType.abiMethod fun t => (fun a : Nat => Value.int IntKind.u8 (a : Int)) <$> Rtype.kind t) #[.pointer (some ⟨7, 143, none⟩)]).run Tryz.prog w = .ok (.int .u8 22) w := by kernel_rfl
theorem An.kind25 (w : World) : ((ReflectliteType.abiMethod fun t => (fun a : Nat => Value.int IntKind.u8 (a : Int)) <$> Rtype.kind t) #[.pointer (some ⟨7, 28, none⟩)]).run Tryz.prog w = .ok (.int .u8 2) w := by kernel_rfl
theorem rlmN (z : Sem Value) (f : TypeId → Addr → Nat → Nat → Sem Value) (v : Value) :
  ReflectliteValue.method z f #[v] = (do match ← ReflectliteValue.parts v with | none => z | some (t, a, fl) => f t a fl (fl % 32)) := rfl
theorem An.parts27 (a : Addr) (w : World) : (ReflectliteValue.parts (.agg #[.pointer (some ⟨7, 143, none⟩), .pointer (some a), .int .u64 150])).run Tryz.prog w = .ok (some (143, a, 150)) w := by kernel_rfl
theorem An.isNil27 (a p : Addr) (W : World) (ha : W.cell? a = some (.pointer (some p))) :
  (ReflectliteValue.method (ReflectliteValue.valueError "reflectlite.Value.IsNil" 0) ReflectliteValue.isNil #[.agg #[.pointer (some ⟨7, 143, none⟩), .pointer (some a), .int .u64 150]]).run Tryz.prog W = .ok (.bool false) W := by
 rw [rlmN]
 simp only [Sem.run_bind, An.parts27, Result.andThen]
 simp [ReflectliteValue.isNil, loadVar, isAgg, underlying, Tryz.underlying143, ha, Result.andThen]
theorem An.methodElem (h : Value) (w : World) : (Go.method 387 180 (.agg #[h]) "Elem").run Tryz.prog w = .ok (208, .agg #[h]) w := by kernel_rfl
theorem An.methodImplements (h : Value) (w : World) : (Go.method 387 180 (.agg #[h]) "Implements").run Tryz.prog w = .ok (209, .agg #[h]) w := by kernel_rfl
theorem An.methodAssignableTo (h : Value) (w : World) : (Go.method 387 180 (.agg #[h]) "AssignableTo").run Tryz.prog w = .ok (206, .agg #[h]) w := by kernel_rfl
theorem An.elem27 (w : World) : (ReflectliteType.method ReflectliteType.elem #[.agg #[.pointer (some ⟨7, 143, none⟩)]]).run Tryz.prog w = .ok (.iface 180 (.agg #[.pointer (some ⟨7, 28, none⟩)])) w := by kernel_rfl
theorem An.implements25 (w : World) : (ReflectliteType.relation "Implements" ReflectliteType.implements_ #[.agg #[.pointer (some ⟨7, 28, none⟩)], .iface 180 (.agg #[.pointer (some ⟨7, 39, none⟩)])]).run Tryz.prog w = .ok (.bool true) w := by kernel_rfl
theorem An.typeOf25 (v : Value) (w : World) : (ReflectliteType.typeOf #[.iface 28 v]).run Tryz.prog w = .ok (.iface 180 (.agg #[.pointer (some ⟨7, 28, none⟩)])) w := by kernel_rfl
theorem An.assignable25 (w : World) : (ReflectliteType.relation "AssignableTo" ReflectliteType.assignableTo #[.agg #[.pointer (some ⟨7, 28, none⟩)], .iface 180 (.agg #[.pointer (some ⟨7, 28, none⟩)])]).run Tryz.prog w = .ok (.bool true) w := by kernel_rfl
theorem An.valueOf25 (e : Int) (w : World) : (ReflectliteValue.unpack (.iface 28 (.int .i64 e))).run Tryz.prog w
  = .ok (.agg #[.pointer (some ⟨7, 28, none⟩), .pointer (some ⟨w.heap.size, 0, none⟩), .int .u64 130]) (w.alloc (.cells #[.int .i64 e] 28)) := by kernel_rfl
theorem An.elemOf27 (w : World) : (Rtype.elem? 143).run Tryz.prog w = .ok (some 28) w := by kernel_rfl
theorem An.mk25 (p : Addr) (w : World) : (ReflectliteValue.mk 28 p ReflectliteValue.flagAddr).run Tryz.prog w = .ok (.agg #[.pointer (some ⟨7, 28, none⟩), .pointer (some p), .int .u64 386]) w := by kernel_rfl
theorem An.elemV27 (a p : Addr) (W : World) (ha : W.cell? a = some (.pointer (some p))) :
  (ReflectliteValue.method (ReflectliteValue.valueError "reflectlite.Value.Elem" 0) ReflectliteValue.elem #[.agg #[.pointer (some ⟨7, 143, none⟩), .pointer (some a), .int .u64 150]]).run Tryz.prog W
   = .ok (.agg #[.pointer (some ⟨7, 28, none⟩), .pointer (some p), .int .u64 386]) W := by
 rw [rlmN]
 simp only [Sem.run_bind, An.parts27, Result.andThen]
 simp [ReflectliteValue.elem, loadVar, isAgg, underlying, Tryz.underlying143, ha, Result.andThen, An.elemOf27, An.mk25]
theorem rlsN (v x : Value) : ReflectliteValue.set #[v, x] = (do
  let (some (dst, a, fl), some (src, b, _)) := (← ReflectliteValue.parts v, ← ReflectliteValue.parts x)
   | unsupported (.noEntry "extern/(internal/reflectlite.Value).Set.zeroValue")
  if fl / ReflectliteValue.flagAddr % 2 == 0 then unsupported (.noEntry "extern/(internal/reflectlite.Value).Set.unaddressable")
  let val ← loadVar src b
  if ← Rtype.directlyAssignable dst src then storeVar dst a val
  else if ← Rtype.implements dst src then
   if (← Rtype.kind src) == 20 then
    match val with
    | .nilIface => unsupported (.noEntry "extern/reflectlite: a nil value of one interface type handed on as a value of another")
    | _ => storeVar dst a val
   else storeVar dst a (.iface src val)
  else panicString ("reflectlite.Set: value of type " ++ (← Rtype.spelt src) ++ " is not assignable to type " ++ (← Rtype.spelt dst))
  pure (.tuple #[])) := rfl
theorem An.parts25a (a : Addr) (w : World) : (ReflectliteValue.parts (.agg #[.pointer (some ⟨7, 28, none⟩), .pointer (some a), .int .u64 386])).run Tryz.prog w = .ok (some (28, a, 386)) w := by kernel_rfl
theorem An.parts25 (a : Addr) (w : World) : (ReflectliteValue.parts (.agg #[.pointer (some ⟨7, 28, none⟩), .pointer (some a), .int .u64 130])).run Tryz.prog w = .ok (some (28, a, 130)) w := by kernel_rfl
theorem An.direct25 (w : World) : (Rtype.directlyAssignable 28 28).run Tryz.prog w = .ok true w := by kernel_rfl
theorem An.set25 (ta b : Addr) (e : Int) (old : Value) (W : World) (hb : W.cell? b = some (.int .i64 e)) (ht : W.cell? ta = some old) (hf : W.frozen? ta = false) :
  (ReflectliteValue.set #[.agg #[.pointer (some ⟨7, 28, none⟩), .pointer (some ta), .int .u64 386], .agg #[.pointer (some ⟨7, 28, none⟩), .pointer (some b), .int .u64 130]]).run Tryz.prog W
   = .ok (.tuple #[]) (W.setCell ta (.int .i64 e)) := by
 rw [rlsN]
 simp only [Sem.run_bind, An.parts25a, An.parts25, Result.andThen]
 simp [ReflectliteValue.flagAddr, loadVar, isAgg, underlying, Tryz.underlying28, hb, Result.andThen, An.direct25, storeVar, Value.cells, storeCells, Addr.add]
 rw [run_store Tryz.prog W ta _ _ (by rfl)]
 simp [ht, hf]
set_option maxHeartbeats 4000000 in
theorem an_hit (e : Int) (t : Addr) (old : Value) (w : World) (hg : w.cell? ⟨0, 0, none⟩ = some (.iface 180 (.agg #[.pointer (some ⟨7, 39, none⟩)]))) (ht0 : w.cell? t = some old) (hf0 : w.frozen? t = false) :
  Calls Tryz.prog 49 #[.iface 28 (.int .i64 e), .iface 143 (.pointer (some t))] w fun ev w' => ev = .returned (.bool true) ∧ w' = ((((w.alloc (.cells #[.pointer (some t)] 143)).alloc (.cells #[.pointer (some ⟨7, 143, none⟩), .pointer (some ⟨w.heap.size, 0, none⟩), .int .u64 150] 156)).alloc (.cells #[.pointer (some ⟨7, 143, none⟩), .pointer (some ⟨w.heap.size, 0, none⟩), .int .u64 150] 156)).alloc (.cells #[.int .i64 e] 28)).setCell t (.int .i64 e) := by
 have z := @run_callFunc_extern Tryz.prog 88 _ (fun args => ReflectliteValue.unpack (args.getD 0 (.tuple #[]))) Tryz.func88 (by kernel_rfl) (by kernel_rfl) (by kernel_rfl) (by kernel_rfl)
 have r := @run_callFunc_extern Tryz.prog 89 _ (ReflectliteValue.methodAny (ReflectliteValue.valueError "reflectlite.Value.Type" 0) (fun t _ _ _ => ReflectliteType.toType t)) Tryz.func89 (by kernel_rfl) (by kernel_rfl) (by kernel_rfl) (by kernel_rfl)
 have y := @run_callFunc_extern Tryz.prog 90 _ (ReflectliteValue.method (ReflectliteValue.valueError "reflectlite.Value.IsNil" 0) ReflectliteValue.isNil) Tryz.func90 (by kernel_rfl) (by kernel_rfl) (by kernel_rfl) (by kernel_rfl)
 have j := @run_callFunc_extern Tryz.prog 182 _ (ReflectliteType.abiMethod fun t => do pure (.int .u8 (← Rtype.kind t))) Tryz.func182 (by kernel_rfl) (by kernel_rfl) (by kernel_rfl) (by kernel_rfl)
 have c := @run_callFunc_extern Tryz.prog 208 _ (ReflectliteType.method ReflectliteType.elem) Tryz.func208 (by kernel_rfl) (by kernel_rfl) (by kernel_rfl) (by kernel_rfl)
 have l := @run_callFunc_extern Tryz.prog 209 _ (ReflectliteType.relation "Implements" ReflectliteType.implements_) Tryz.func209 (by kernel_rfl) (by kernel_rfl) (by kernel_rfl) (by kernel_rfl)
 have m := @run_callFunc_extern Tryz.prog 92 _ ReflectliteType.typeOf Tryz.func92 (by kernel_rfl) (by kernel_rfl) (by kernel_rfl) (by kernel_rfl)
 have a := @run_callFunc_extern Tryz.prog 206 _ (ReflectliteType.relation "AssignableTo" ReflectliteType.assignableTo) Tryz.func206 (by kernel_rfl) (by kernel_rfl) (by kernel_rfl) (by kernel_rfl)
 have g := @run_callFunc_extern Tryz.prog 110 _ (ReflectliteValue.method (ReflectliteValue.valueError "reflectlite.Value.Elem" 0) ReflectliteValue.elem) Tryz.func110 (by kernel_rfl) (by kernel_rfl) (by kernel_rfl) (by kernel_rfl)
 have b := @run_callFunc_extern Tryz.prog 111 _ ReflectliteValue.set Tryz.func111 (by kernel_rfl) (by kernel_rfl) (by kernel_rfl) (by kernel_rfl)
 have tO := An.typeOf25
 have mA := An.methodAssignableTo
 have f := An.assignable25
 have p := An.valueOf25
 have u := An.valueOf27
 have v := An.type27
 have mK := An.methodKind
 have mE := An.methodElem
 have mI := An.methodImplements
 have i := An.kind27
 have n := An.kind25
 have o := An.elem27
 have k := An.implements25
 have s := An.isNil27 ⟨w.heap.size, 0, none⟩ t ((w.alloc (.cells #[.pointer (some t)] 143)).alloc (.cells #[.pointer (some ⟨7, 143, none⟩), .pointer (some ⟨w.heap.size, 0, none⟩), .int .u64 150] 156)) (by simp)
 have hlt : 0 < w.heap.size := by
  rcases Nat.eq_zero_or_pos w.heap.size with q | h
  ·simp [World.cell?, q] at hg
  ·exact h
 have d : ((w.alloc (.cells #[.pointer (some t)] 143)).alloc (.cells #[.pointer (some ⟨7, 143, none⟩), .pointer (some ⟨w.heap.size, 0, none⟩), .int .u64 150] 156)).cell? ⟨0, 0, none⟩ = some (.iface 180 (.agg #[.pointer (some ⟨7, 39, none⟩)])) := by
  rw [World.cell?_alloc_lt _ _ ⟨0, 0, none⟩ (by simp), World.cell?_alloc_lt _ _ ⟨0, 0, none⟩ hlt]; exact hg
 have htl : t.block < w.heap.size := by
  rcases Nat.lt_or_ge t.block w.heap.size with h | h
  ·exact h
  ·simp [World.cell?, Array.getElem?_eq_none h] at ht0
 have el := An.elemV27 ⟨w.heap.size, 0, none⟩ t (((w.alloc (.cells #[.pointer (some t)] 143)).alloc (.cells #[.pointer (some ⟨7, 143, none⟩), .pointer (some ⟨w.heap.size, 0, none⟩), .int .u64 150] 156)).alloc (.cells #[.pointer (some ⟨7, 143, none⟩), .pointer (some ⟨w.heap.size, 0, none⟩), .int .u64 150] 156)) (by rw [World.cell?_alloc_lt _ _ ⟨w.heap.size, 0, none⟩ (by simp; omega)]; simp)
 have st := An.set25 t ⟨w.heap.size + 1 + 1 + 1, 0, none⟩ e old ((((w.alloc (.cells #[.pointer (some t)] 143)).alloc (.cells #[.pointer (some ⟨7, 143, none⟩), .pointer (some ⟨w.heap.size, 0, none⟩), .int .u64 150] 156)).alloc (.cells #[.pointer (some ⟨7, 143, none⟩), .pointer (some ⟨w.heap.size, 0, none⟩), .int .u64 150] 156)).alloc (.cells #[.int .i64 e] 28))
  (by rw [World.cell?_alloc_at _ _ _ _ (by simp)]; rfl)
  (by rw [World.cell?_alloc_lt _ _ t (by simp; omega), World.cell?_alloc_lt _ _ t (by simp; omega), World.cell?_alloc_lt _ _ t (by simp; omega), World.cell?_alloc_lt _ _ t htl]; exact ht0)
  (by rw [World.frozen?_alloc_old _ _ t (by simp; omega), World.frozen?_alloc_old _ _ t (by simp; omega), World.frozen?_alloc_old _ _ t (by simp; omega), World.frozen?_alloc_old _ _ t (Nat.ne_of_lt htl)]; exact hf0)
 go_enter Tryz.func49, Tryz.ntmps49
 go_wp2
 refine wp_loop_rounds 1 ?_
 rw [rounds_succ]
 go_wp2
 go_ret
 exact ⟨rfl, rfl⟩
theorem an_fk (e : Int) (t : Nat) (old : Value) (w : World) (hg : w.cell? ⟨0, 0, none⟩ = some (.iface 180 (.agg #[.pointer (some ⟨7, 39, none⟩)]))) (ht : w.heap[t]? = some (.cells [old].toArray 28 (0, 0))) :
  Calls Tryz.prog 49 #[.iface 28 (.int .i64 e), .iface 143 (.pointer (some ⟨t, 0, none⟩))] w (Ret fun v w' => v = .bool true ∧ ∃ w1, Below w.heap.size w w1 ∧ Wrote w1 w' t (.cells [.int .i64 e].toArray 28 (0, 0))) := by
 have hc : w.cell? ⟨t, 0, none⟩ = some old := by simp [World.cell?, ht]
 have hf : w.frozen? ⟨t, 0, none⟩ = false := by simp [World.frozen?, ht]
 refine (an_hit e ⟨t, 0, none⟩ old w hg hc hf).mono ?_
 rintro ev w' ⟨rfl, rfl⟩
 have hlt := yE ht
 have hb : Below w.heap.size w ((((w.alloc (.cells #[.pointer (some ⟨t, 0, none⟩)] 143)).alloc (.cells #[.pointer (some ⟨7, 143, none⟩), .pointer (some ⟨w.heap.size, 0, none⟩), .int .u64 150] 156)).alloc (.cells #[.pointer (some ⟨7, 143, none⟩), .pointer (some ⟨w.heap.size, 0, none⟩), .int .u64 150] 156)).alloc (.cells #[.int .i64 e] 28)) :=
  ((((Below.refl _ _).alloc (Nat.le_refl _) _).alloc (by simp) _).alloc (by simp; omega) _).alloc (by simp; omega) _
 have a := zB ht hb
 refine ⟨_, rfl, rfl, _, hb, ⟨rfl, rfl, rfl, by simp [World.setCell], ?_, fun k hk => Below.heap_setCell _ _ _ _ hk⟩⟩
 generalize (((w.alloc _).alloc _).alloc _).alloc _ = w4 at a ⊢
 obtain ⟨c, b⟩ := Array.getElem?_eq_some_iff.1 a
 show (w4.heap.modify t _)[t]? = _
 rw [Array.getElem?_eq_getElem (by rw [Array.size_modify]; exact c), Array.getElem_modify_self, b]
 simp
end Go.Proofs.YtddnhlobnembaaaGreatDoor
end

/- === Wcb4 === -/
section
/- Walks, written by my program walk.py out of the specification cb4.py: each theorem says what one function returns and that it leaves memory as it was. -/
namespace Go.Proofs.YtddnhlobnembaaaGreatDoor
open Go Go.RowKit Go.FK _root_.Go.Proofs.Tryz
set_option maxHeartbeats 4000000
set_option maxRecDepth 100000
theorem el79 : Elem Tryz.prog 79 3 1 8 := ⟨underlying79, zk, rfl⟩
theorem c_itoa2 (n : Int) (w : World) (hn0 : 0 ≤ n ∧ n < 100) :
  Calls Tryz.prog 186 #[(I6 n)] w (Ret fun v w' => v = (S (dg2 n)) ∧ Below w.heap.size w w') :=
 itoa2 Tryz.strconv_Itoa_small n w hn0
theorem c_Errno_Error (e : Int) (w : World) (he0 : 0 ≤ e ∧ e < 100) :
  Calls Tryz.prog 185 #[(I6 e)] w (Ret fun v w' => v = (S (errD e)) ∧ Below w.heap.size w w') := by
 refine wO 6 func185 rfl ?_
 have a := Below.refl w.heap.size w
 refine wR (zK (nR (zJ (zc (c_itoa2 e _ zo) ?_))))
 rintro _ c ⟨rfl, b⟩
 have := dg2_len e
 have a := a.tr b
 exact wX ([101, 114, 114, 111, 114, 32] : List UInt8) (dg2 e) (by (simp only [List.length_append, List.length_cons, List.length_nil]; omega)) zk zk (zK (nQ (yA (yK [(S (([101, 114, 114, 111, 114, 32] : List UInt8) ++ (dg2 e)))] ⟨congrArg S (by rfl), a⟩))))
theorem c_Fault_Error (a : Nat) (fl : List UInt8) (ln : Int) (cd : Int) (w : World) (m : w.heap[a]? = some (.cells [(S fl), (I6 ln), (I6 cd)].toArray 85 (0, 0))) (hf : fl.length ≤ 1073741824) (hl0 : 0 ≤ ln ∧ ln < 100) (hc0 : 0 ≤ cd ∧ cd < 100) :
  Calls Tryz.prog 199 #[(pt a 0)] w (Ret fun v w' => v = (S (fltD fl ln cd)) ∧ Below w.heap.size w w') := by
 refine wO 41 func199 rfl ?_
 have l := Below.refl w.heap.size w
 have i5 := dg2_len ln
 have i3 := errD_len cd
 refine wR (zK (nW (wR (zJ (zr (.bool false) (nQ (zF (zW (zD (yC (wR (zJ (zr (pt a 0) (zFO 0 m rfl (L_seq fl ([] : List UInt8) rfl zk zk ?_ ?_)))))))))))))))
 ·intro h1
  refine nQ (zT (yC (W_invL 13 14 1 [10, 11, 12, 13, 14, 15, 16, 17, 18, 19, 20, 21, 22] [(fun v _ => v = (pt a 0)), (fun v _ => v = (pt a 0)), (fun v _ => v = (pt a 1)), (fun v _ => v = (I6 ln)), (fun v _ => v = (S (dg2 ln))), (fun v _ => v = (S (([108, 105, 110, 101, 32] : List UInt8) ++ (dg2 ln)))), (fun v _ => v = (S ((([108, 105, 110, 101, 32] : List UInt8) ++ (dg2 ln)) ++ ([58, 32] : List UInt8)))), (fun v _ => v = (pt a 0)), (fun v _ => v = (pt a 0)), (fun v _ => v = (pt a 2)), (fun v _ => v = (I6 cd)), (fun v _ => v = (S (errD cd))), (fun v _ => v = (S (((([108, 105, 110, 101, 32] : List UInt8) ++ (dg2 ln)) ++ ([58, 32] : List UInt8)) ++ (errD cd))))] zk zk zk zk zk zk zk zk ⟨(fun v A B h l => h), (fun v A B h l => h), (fun v A B h l => h), (fun v A B h l => h), (fun v A B h l => h), (fun v A B h l => h), (fun v A B h l => h), (fun v A B h l => h), (fun v A B h l => h), (fun v A B h l => h), (fun v A B h l => h), (fun v A B h l => h), (fun v A B h l => h), trivial⟩ ?_ ?_)))
  ·intro w3 j
   refine ⟨?_, ?_, ?_, ?_, ?_, ?_, ?_, ?_, ?_, ?_, ?_, ?_, ?_, trivial⟩
   ·skip
    intro s4 w5 hi i6 f4 i7 Z10 fw
    have ia := j.trans (hi.mono j.size)
    have n : s4.f 0 = (pt a 0) := (f4 0 zk).trans zk
    have d : (s4.put (some 0) (pt a 0)) = s4 := by rw [xK n]
    rw [← d]
    have b := Below.refl w5.heap.size w5
    refine zJ (zS ?_)
    exact ⟨rfl, fw _ _ b (xX.trans (congrArg Fm.ds d)) (fun t ht => (xI ht).trans (congrArg (fun q => q.f t) d)) (show Fm.f _ _ = _ from by kernel_rfl)⟩
   ·skip
    intro ea e3 fk ig ik ez Z19 eu
    have i2 := j.trans (fk.mono j.size)
    have z : ea.f 10 = (pt a 0) := ez 0 zk
    have d : (ea.put (some 10) (pt a 0)) = ea := by rw [xK z]
    rw [← d]
    have b := Below.refl e3.heap.size e3
    refine zr (pt a 0) (zS ?_)
    exact ⟨rfl, eu _ _ b (xX.trans (congrArg Fm.ds d)) (fun t ht => (xI ht).trans (congrArg (fun q => q.f t) d)) (show Fm.f _ _ = _ from by kernel_rfl)⟩
   ·skip
    intro ce ey fo h3 ir ev Z28 fe
    have ic := j.trans (fo.mono j.size)
    have aa : ce.f 11 = (pt a 0) := ev 1 zk
    have d : (ce.put (some 11) (pt a 0)) = ce := by rw [xK aa]
    rw [← d]
    have b := Below.refl ey.heap.size ey
    refine zr (pt a 1) (zS ?_)
    exact ⟨rfl, fe _ _ b (xX.trans (congrArg Fm.ds d)) (fun t ht => (xI ht).trans (congrArg (fun q => q.f t) d)) (show Fm.f _ _ = _ from by kernel_rfl)⟩
   ·skip
    intro dn e5 e1 hz ih fd Z37 ew
    have es := j.trans (e1.mono j.size)
    have p : dn.f 12 = (pt a 1) := fd 2 zk
    have d : (dn.put (some 12) (pt a 1)) = dn := by rw [xK p]
    rw [← d]
    have b := Below.refl e5.heap.size e5
    have m := zB m es
    refine zO 1 m rfl (zS ?_)
    exact ⟨rfl, ew _ _ b (xX.trans (congrArg Fm.ds d)) (fun t ht => (xI ht).trans (congrArg (fun q => q.f t) d)) (show Fm.f _ _ = _ from by kernel_rfl)⟩
   ·skip
    intro dg e8 fc h7 ii fh Z46 fu
    have ib := j.trans (fc.mono j.size)
    have am : dg.f 13 = (I6 ln) := fh 3 zk
    have d : (dg.put (some 13) (I6 ln)) = dg := by rw [xK am]
    rw [← d]
    have b := Below.refl e8.heap.size e8
    refine zc (c_itoa2 ln _ (by first | omega | (simp; omega))) ?_
    rintro _ i4 ⟨rfl, fn⟩
    replace b := b.trans (fn.mono b.size)
    have := dg2_len ln
    refine zS ?_
    exact ⟨rfl, fu _ _ b (xX.trans (congrArg Fm.ds d)) (fun t ht => (xI ht).trans (congrArg (fun q => q.f t) d)) (show Fm.f _ _ = _ from by kernel_rfl)⟩
   ·skip
    intro dm fa fj i1 h6 fp Z58 fb
    have io := j.trans (fj.mono j.size)
    have ax : dm.f 14 = (S (dg2 ln)) := fp 4 zk
    have d : (dm.put (some 14) (S (dg2 ln))) = dm := by rw [xK ax]
    rw [← d]
    have b := Below.refl fa.heap.size fa
    refine wX ([108, 105, 110, 101, 32] : List UInt8) (dg2 ln) (by (simp only [List.length_append, List.length_cons, List.length_nil]; omega)) zk zk (zS ?_)
    exact ⟨rfl, fb _ _ b (xX.trans (congrArg Fm.ds d)) (fun t ht => (xI ht).trans (congrArg (fun q => q.f t) d)) (show Fm.f _ _ = _ from by kernel_rfl)⟩
   ·skip
    intro cy e9 e7 iq iz fm Z67 ex
    have h5 := j.trans (e7.mono j.size)
    have ao : cy.f 15 = (S (([108, 105, 110, 101, 32] : List UInt8) ++ (dg2 ln))) := fm 5 zk
    have d : (cy.put (some 15) (S (([108, 105, 110, 101, 32] : List UInt8) ++ (dg2 ln)))) = cy := by rw [xK ao]
    rw [← d]
    have b := Below.refl e9.heap.size e9
    refine wX (([108, 105, 110, 101, 32] : List UInt8) ++ (dg2 ln)) ([58, 32] : List UInt8) (by (simp only [List.length_append, List.length_cons, List.length_nil]; omega)) zk zk (zS ?_)
    exact ⟨rfl, ex _ _ b (xX.trans (congrArg Fm.ds d)) (fun t ht => (xI ht).trans (congrArg (fun q => q.f t) d)) (show Fm.f _ _ = _ from by kernel_rfl)⟩
   ·skip
    intro d3 fg fs im fr hx Z76 fi
    have h9 := j.trans (fs.mono j.size)
    have n : d3.f 0 = (pt a 0) := (fr 0 zk).trans zk
    have d : (d3.put (some 0) (pt a 0)) = d3 := by rw [xK n]
    rw [← d]
    have b := Below.refl fg.heap.size fg
    refine zJ (zS ?_)
    exact ⟨rfl, fi _ _ b (xX.trans (congrArg Fm.ds d)) (fun t ht => (xI ht).trans (congrArg (fun q => q.f t) d)) (show Fm.f _ _ = _ from by kernel_rfl)⟩
   ·skip
    intro c2 ff fx hw il fy Z85 et
    have i0 := j.trans (fx.mono j.size)
    have ai : c2.f 17 = (pt a 0) := fy 7 zk
    have d : (c2.put (some 17) (pt a 0)) = c2 := by rw [xK ai]
    rw [← d]
    have b := Below.refl ff.heap.size ff
    refine zr (pt a 0) (zS ?_)
    exact ⟨rfl, et _ _ b (xX.trans (congrArg Fm.ds d)) (fun t ht => (xI ht).trans (congrArg (fun q => q.f t) d)) (show Fm.f _ _ = _ from by kernel_rfl)⟩
   ·skip
    intro da fq ft iw hy e0 Z94 e4
    have ie := j.trans (ft.mono j.size)
    have ah : da.f 18 = (pt a 0) := e0 8 zk
    have d : (da.put (some 18) (pt a 0)) = da := by rw [xK ah]
    rw [← d]
    have b := Below.refl fq.heap.size fq
    refine zr (pt a 2) (zS ?_)
    exact ⟨rfl, e4 _ _ b (xX.trans (congrArg Fm.ds d)) (fun t ht => (xI ht).trans (congrArg (fun q => q.f t) d)) (show Fm.f _ _ = _ from by kernel_rfl)⟩
   ·skip
    intro em fv e6 go gd eg Z103 dk
    have eo := j.trans (e6.mono j.size)
    have ak : em.f 19 = (pt a 2) := eg 9 zk
    have d : (em.put (some 19) (pt a 2)) = em := by rw [xK ak]
    rw [← d]
    have b := Below.refl fv.heap.size fv
    have m := zB m eo
    refine zO 2 m rfl (zS ?_)
    exact ⟨rfl, dk _ _ b (xX.trans (congrArg Fm.ds d)) (fun t ht => (xI ht).trans (congrArg (fun q => q.f t) d)) (show Fm.f _ _ = _ from by kernel_rfl)⟩
   ·skip
    intro bc bp cg gm hg eh Z112 cc
    have g9 := j.trans (cg.mono j.size)
    have u : bc.f 20 = (I6 cd) := eh 10 zk
    have d : (bc.put (some 20) (I6 cd)) = bc := by rw [xK u]
    rw [← d]
    have b := Below.refl bp.heap.size bp
    refine zc (c_Errno_Error cd _ (by first | omega | (simp; omega))) ?_
    rintro _ h8 ⟨rfl, ch⟩
    replace b := b.trans (ch.mono b.size)
    have := errD_len cd
    refine zS ?_
    exact ⟨rfl, cc _ _ b (xX.trans (congrArg Fm.ds d)) (fun t ht => (xI ht).trans (congrArg (fun q => q.f t) d)) (show Fm.f _ _ = _ from by kernel_rfl)⟩
   skip
   intro av bw c0 f9 hk bj Z124 c8
   have gy := j.trans (c0.mono j.size)
   have ap : av.f 16 = (S ((([108, 105, 110, 101, 32] : List UInt8) ++ (dg2 ln)) ++ ([58, 32] : List UInt8))) := bj 6 zk
   have an : av.f 21 = (S (errD cd)) := bj 11 zk
   have d : ((av.put (some 16) (S ((([108, 105, 110, 101, 32] : List UInt8) ++ (dg2 ln)) ++ ([58, 32] : List UInt8)))).put (some 21) (S (errD cd))) = av := by rw [xK ap, xK an]
   rw [← d]
   have b := Below.refl bw.heap.size bw
   refine wX ((([108, 105, 110, 101, 32] : List UInt8) ++ (dg2 ln)) ++ ([58, 32] : List UInt8)) (errD cd) (by (simp only [List.length_append, List.length_cons, List.length_nil]; omega)) zk zk (zS ?_)
   exact ⟨rfl, c8 _ _ b (xX.trans (congrArg Fm.ds d)) (fun t ht => (xI ht).trans (congrArg (fun q => q.f t) d)) (show Fm.f _ _ = _ from by kernel_rfl)⟩
  skip
  intro iv k ix be cs c7 de i
  have ec := be.trans (cs.mono be.size)
  have z : k.f 10 = (pt a 0) := i 0 zo
  have aa : k.f 11 = (pt a 0) := i 1 zo
  have p : k.f 12 = (pt a 1) := i 2 zo
  have am : k.f 13 = (I6 ln) := i 3 zo
  have ax : k.f 14 = (S (dg2 ln)) := i 4 zo
  have ao : k.f 15 = (S (([108, 105, 110, 101, 32] : List UInt8) ++ (dg2 ln))) := i 5 zo
  have ap : k.f 16 = (S ((([108, 105, 110, 101, 32] : List UInt8) ++ (dg2 ln)) ++ ([58, 32] : List UInt8))) := i 6 zo
  have ai : k.f 17 = (pt a 0) := i 7 zo
  have ah : k.f 18 = (pt a 0) := i 8 zo
  have ak : k.f 19 = (pt a 2) := i 9 zo
  have u : k.f 20 = (I6 cd) := i 10 zo
  have an : k.f 21 = (S (errD cd)) := i 11 zo
  have ca : k.f 22 = (S (((([108, 105, 110, 101, 32] : List UInt8) ++ (dg2 ln)) ++ ([58, 32] : List UInt8)) ++ (errD cd))) := i 12 zo
  have b9 := frm_eq [10, 11, 12, 13, 14, 15, 16, 17, 18, 19, 20, 21, 22] [(pt a 0), (pt a 0), (pt a 1), (I6 ln), (S (dg2 ln)), (S (([108, 105, 110, 101, 32] : List UInt8) ++ (dg2 ln))), (S ((([108, 105, 110, 101, 32] : List UInt8) ++ (dg2 ln)) ++ ([58, 32] : List UInt8))), (pt a 0), (pt a 0), (pt a 2), (I6 cd), (S (errD cd)), (S (((([108, 105, 110, 101, 32] : List UInt8) ++ (dg2 ln)) ++ ([58, 32] : List UInt8)) ++ (errD cd)))] rfl c7 de ⟨z, aa, p, am, ax, ao, ap, ai, ah, ak, u, an, ca, trivial⟩
  rw [b9]
  clear b9 z aa p am ax ao ap ai ah ak u an ca
  refine ip 13 rfl (S (((([108, 105, 110, 101, 32] : List UInt8) ++ (dg2 ln)) ++ ([58, 32] : List UInt8)) ++ (errD cd))) (I_done zk ?_)
  have l := l.tr ec
  exact zD (yA (zI (yK [(S (((([108, 105, 110, 101, 32] : List UInt8) ++ (dg2 ln)) ++ ([58, 32] : List UInt8)) ++ (errD cd)))] ⟨congrArg S (by (unfold fltD; rw [if_pos za]; done)), l⟩)))
 intro ij
 refine nQ (zF (zW (zD (yC (W_invL 18 19 1 [23, 24, 25, 26, 27, 28, 29, 30, 31, 32, 33, 34, 35, 36, 37, 38, 39, 40] [(fun v _ => v = (pt a 0)), (fun v _ => v = (pt a 0)), (fun v _ => v = (pt a 0)), (fun v _ => v = (S fl)), (fun v _ => v = (S (fl ++ ([58] : List UInt8)))), (fun v _ => v = (pt a 0)), (fun v _ => v = (pt a 0)), (fun v _ => v = (pt a 1)), (fun v _ => v = (I6 ln)), (fun v _ => v = (S (dg2 ln))), (fun v _ => v = (S ((fl ++ ([58] : List UInt8)) ++ (dg2 ln)))), (fun v _ => v = (S (((fl ++ ([58] : List UInt8)) ++ (dg2 ln)) ++ ([58, 32] : List UInt8)))), (fun v _ => v = (pt a 0)), (fun v _ => v = (pt a 0)), (fun v _ => v = (pt a 2)), (fun v _ => v = (I6 cd)), (fun v _ => v = (S (errD cd))), (fun v _ => v = (S ((((fl ++ ([58] : List UInt8)) ++ (dg2 ln)) ++ ([58, 32] : List UInt8)) ++ (errD cd))))] zk zk zk zk zk zk zk zk ⟨(fun v A B h l => h), (fun v A B h l => h), (fun v A B h l => h), (fun v A B h l => h), (fun v A B h l => h), (fun v A B h l => h), (fun v A B h l => h), (fun v A B h l => h), (fun v A B h l => h), (fun v A B h l => h), (fun v A B h l => h), (fun v A B h l => h), (fun v A B h l => h), (fun v A B h l => h), (fun v A B h l => h), (fun v A B h l => h), (fun v A B h l => h), (fun v A B h l => h), trivial⟩ ?_ ?_)))))
 ·intro id c
  refine ⟨?_, ?_, ?_, ?_, ?_, ?_, ?_, ?_, ?_, ?_, ?_, ?_, ?_, ?_, ?_, ?_, ?_, ?_, trivial⟩
  ·skip
   intro a4 b0 cw hj ck gi Z146 dd
   have f3 := c.trans (cw.mono c.size)
   have n : a4.f 0 = (pt a 0) := (ck 0 zk).trans zk
   have d : (a4.put (some 0) (pt a 0)) = a4 := by rw [xK n]
   rw [← d]
   have b := Below.refl b0.heap.size b0
   refine zJ (zS ?_)
   exact ⟨rfl, dd _ _ b (xX.trans (congrArg Fm.ds d)) (fun t ht => (xI ht).trans (congrArg (fun q => q.f t) d)) (show Fm.f _ _ = _ from by kernel_rfl)⟩
  ·skip
   intro bm bz db gk g2 c6 Z155 c4
   have hh := c.trans (db.mono c.size)
   have y : bm.f 23 = (pt a 0) := c6 0 zk
   have d : (bm.put (some 23) (pt a 0)) = bm := by rw [xK y]
   rw [← d]
   have b := Below.refl bz.heap.size bz
   refine zr (pt a 0) (zS ?_)
   exact ⟨rfl, c4 _ _ b (xX.trans (congrArg Fm.ds d)) (fun t ht => (xI ht).trans (congrArg (fun q => q.f t) d)) (show Fm.f _ _ = _ from by kernel_rfl)⟩
  ·skip
   intro a2 bn el hn gw c1 Z164 d1
   have fz := c.trans (el.mono c.size)
   have aj : a2.f 24 = (pt a 0) := c1 1 zk
   have d : (a2.put (some 24) (pt a 0)) = a2 := by rw [xK aj]
   rw [← d]
   have b := Below.refl bn.heap.size bn
   refine zr (pt a 0) (zS ?_)
   exact ⟨rfl, d1 _ _ b (xX.trans (congrArg Fm.ds d)) (fun t ht => (xI ht).trans (congrArg (fun q => q.f t) d)) (show Fm.f _ _ = _ from by kernel_rfl)⟩
  ·skip
   intro bh b2 ef f8 g5 cr Z173 dy
   have cm := c.trans (ef.mono c.size)
   have al : bh.f 25 = (pt a 0) := cr 2 zk
   have d : (bh.put (some 25) (pt a 0)) = bh := by rw [xK al]
   rw [← d]
   have b := Below.refl b2.heap.size b2
   have m := zB m cm
   refine zO 0 m rfl (zS ?_)
   exact ⟨rfl, dy _ _ b (xX.trans (congrArg Fm.ds d)) (fun t ht => (xI ht).trans (congrArg (fun q => q.f t) d)) (show Fm.f _ _ = _ from by kernel_rfl)⟩
  ·skip
   intro bl b3 c3 f2 g7 dw Z182 dr
   have g1 := c.trans (c3.mono c.size)
   have ad : bl.f 26 = (S fl) := dw 3 zk
   have d : (bl.put (some 26) (S fl)) = bl := by rw [xK ad]
   rw [← d]
   have b := Below.refl b3.heap.size b3
   refine wX fl ([58] : List UInt8) (by (simp only [List.length_append, List.length_cons, List.length_nil]; omega)) zk zk (zS ?_)
   exact ⟨rfl, dr _ _ b (xX.trans (congrArg Fm.ds d)) (fun t ht => (xI ht).trans (congrArg (fun q => q.f t) d)) (show Fm.f _ _ = _ from by kernel_rfl)⟩
  ·skip
   intro bi b5 ei g8 ct hs Z191 dz
   have g4 := c.trans (ei.mono c.size)
   have n : bi.f 0 = (pt a 0) := (ct 0 zk).trans zk
   have d : (bi.put (some 0) (pt a 0)) = bi := by rw [xK n]
   rw [← d]
   have b := Below.refl b5.heap.size b5
   refine zJ (zS ?_)
   exact ⟨rfl, dz _ _ b (xX.trans (congrArg Fm.ds d)) (fun t ht => (xI ht).trans (congrArg (fun q => q.f t) d)) (show Fm.f _ _ = _ from by kernel_rfl)⟩
  ·skip
   intro a1 b4 ej gl f6 dh Z200 cn
   have gs := c.trans (ej.mono c.size)
   have ae : a1.f 28 = (pt a 0) := dh 5 zk
   have d : (a1.put (some 28) (pt a 0)) = a1 := by rw [xK ae]
   rw [← d]
   have b := Below.refl b4.heap.size b4
   refine zr (pt a 0) (zS ?_)
   exact ⟨rfl, cn _ _ b (xX.trans (congrArg Fm.ds d)) (fun t ht => (xI ht).trans (congrArg (fun q => q.f t) d)) (show Fm.f _ _ = _ from by kernel_rfl)⟩
  ·skip
   intro a7 b1 dp ho gg dq Z209 d4
   have hp := c.trans (dp.mono c.size)
   have au : a7.f 29 = (pt a 0) := dq 6 zk
   have d : (a7.put (some 29) (pt a 0)) = a7 := by rw [xK au]
   rw [← d]
   have b := Below.refl b1.heap.size b1
   refine zr (pt a 1) (zS ?_)
   exact ⟨rfl, d4 _ _ b (xX.trans (congrArg Fm.ds d)) (fun t ht => (xI ht).trans (congrArg (fun q => q.f t) d)) (show Fm.f _ _ = _ from by kernel_rfl)⟩
  ·skip
   intro a5 bo ee f7 f0 er Z218 dc
   have d9 := c.trans (ee.mono c.size)
   have ac : a5.f 30 = (pt a 1) := er 7 zk
   have d : (a5.put (some 30) (pt a 1)) = a5 := by rw [xK ac]
   rw [← d]
   have b := Below.refl bo.heap.size bo
   have m := zB m d9
   refine zO 1 m rfl (zS ?_)
   exact ⟨rfl, dc _ _ b (xX.trans (congrArg Fm.ds d)) (fun t ht => (xI ht).trans (congrArg (fun q => q.f t) d)) (show Fm.f _ _ = _ from by kernel_rfl)⟩
  ·skip
   intro bk b6 co hu ga eb Z227 cz
   have gp := c.trans (co.mono c.size)
   have aq : bk.f 31 = (I6 ln) := eb 8 zk
   have d : (bk.put (some 31) (I6 ln)) = bk := by rw [xK aq]
   rw [← d]
   have b := Below.refl b6.heap.size b6
   refine zc (c_itoa2 ln _ (by first | omega | (simp; omega))) ?_
   rintro _ iy ⟨rfl, cj⟩
   replace b := b.trans (cj.mono b.size)
   have := dg2_len ln
   refine zS ?_
   exact ⟨rfl, cz _ _ b (xX.trans (congrArg Fm.ds d)) (fun t ht => (xI ht).trans (congrArg (fun q => q.f t) d)) (show Fm.f _ _ = _ from by kernel_rfl)⟩
  ·skip
   intro ar b8 dv gx gh ba Z239 dl
   have gz := c.trans (dv.mono c.size)
   have r : ar.f 27 = (S (fl ++ ([58] : List UInt8))) := ba 4 zk
   have ag : ar.f 32 = (S (dg2 ln)) := ba 9 zk
   have d : ((ar.put (some 27) (S (fl ++ ([58] : List UInt8)))).put (some 32) (S (dg2 ln))) = ar := by rw [xK r, xK ag]
   rw [← d]
   have b := Below.refl b8.heap.size b8
   refine wX (fl ++ ([58] : List UInt8)) (dg2 ln) (by (simp only [List.length_append, List.length_cons, List.length_nil]; omega)) zk zk (zS ?_)
   exact ⟨rfl, dl _ _ b (xX.trans (congrArg Fm.ds d)) (fun t ht => (xI ht).trans (congrArg (fun q => q.f t) d)) (show Fm.f _ _ = _ from by kernel_rfl)⟩
  ·skip
   intro bf bs d7 ha hr d2 Z248 df
   have gf := c.trans (d7.mono c.size)
   have o : bf.f 33 = (S ((fl ++ ([58] : List UInt8)) ++ (dg2 ln))) := d2 10 zk
   have d : (bf.put (some 33) (S ((fl ++ ([58] : List UInt8)) ++ (dg2 ln)))) = bf := by rw [xK o]
   rw [← d]
   have b := Below.refl bs.heap.size bs
   refine wX ((fl ++ ([58] : List UInt8)) ++ (dg2 ln)) ([58, 32] : List UInt8) (by (simp only [List.length_append, List.length_cons, List.length_nil]; omega)) zk zk (zS ?_)
   exact ⟨rfl, df _ _ b (xX.trans (congrArg Fm.ds d)) (fun t ht => (xI ht).trans (congrArg (fun q => q.f t) d)) (show Fm.f _ _ = _ from by kernel_rfl)⟩
  ·skip
   intro a3 bq ed gj cp gn Z257 d5
   have g0 := c.trans (ed.mono c.size)
   have n : a3.f 0 = (pt a 0) := (cp 0 zk).trans zk
   have d : (a3.put (some 0) (pt a 0)) = a3 := by rw [xK n]
   rw [← d]
   have b := Below.refl bq.heap.size bq
   refine zJ (zS ?_)
   exact ⟨rfl, d5 _ _ b (xX.trans (congrArg Fm.ds d)) (fun t ht => (xI ht).trans (congrArg (fun q => q.f t) d)) (show Fm.f _ _ = _ from by kernel_rfl)⟩
  ·skip
   intro bg bv cx gc g6 d6 Z266 cu
   have g3 := c.trans (cx.mono c.size)
   have aw : bg.f 35 = (pt a 0) := d6 12 zk
   have d : (bg.put (some 35) (pt a 0)) = bg := by rw [xK aw]
   rw [← d]
   have b := Below.refl bv.heap.size bv
   refine zr (pt a 0) (zS ?_)
   exact ⟨rfl, cu _ _ b (xX.trans (congrArg Fm.ds d)) (fun t ht => (xI ht).trans (congrArg (fun q => q.f t) d)) (show Fm.f _ _ = _ from by kernel_rfl)⟩
  ·skip
   intro a6 bu c9 gb hv du Z275 ci
   have hc := c.trans (c9.mono c.size)
   have ay : a6.f 36 = (pt a 0) := du 13 zk
   have d : (a6.put (some 36) (pt a 0)) = a6 := by rw [xK ay]
   rw [← d]
   have b := Below.refl bu.heap.size bu
   refine zr (pt a 2) (zS ?_)
   exact ⟨rfl, ci _ _ b (xX.trans (congrArg Fm.ds d)) (fun t ht => (xI ht).trans (congrArg (fun q => q.f t) d)) (show Fm.f _ _ = _ from by kernel_rfl)⟩
  ·skip
   intro a8 bx cf he hl d0 Z284 c5
   have dx := c.trans (cf.mono c.size)
   have az : a8.f 37 = (pt a 2) := d0 14 zk
   have d : (a8.put (some 37) (pt a 2)) = a8 := by rw [xK az]
   rw [← d]
   have b := Below.refl bx.heap.size bx
   have m := zB m dx
   refine zO 2 m rfl (zS ?_)
   exact ⟨rfl, c5 _ _ b (xX.trans (congrArg Fm.ds d)) (fun t ht => (xI ht).trans (congrArg (fun q => q.f t) d)) (show Fm.f _ _ = _ from by kernel_rfl)⟩
  ·skip
   intro a9 bt cv f1 gq di Z293 ep
   have gr := c.trans (cv.mono c.size)
   have a0 : a9.f 38 = (I6 cd) := di 15 zk
   have d : (a9.put (some 38) (I6 cd)) = a9 := by rw [xK a0]
   rw [← d]
   have b := Below.refl bt.heap.size bt
   refine zc (c_Errno_Error cd _ (by first | omega | (simp; omega))) ?_
   rintro _ iu ⟨rfl, en⟩
   replace b := b.trans (en.mono b.size)
   have := errD_len cd
   refine zS ?_
   exact ⟨rfl, ep _ _ b (xX.trans (congrArg Fm.ds d)) (fun t ht => (xI ht).trans (congrArg (fun q => q.f t) d)) (show Fm.f _ _ = _ from by kernel_rfl)⟩
  skip
  intro af cb cl gu f5 bb Z305 d8
  have gv := c.trans (cl.mono c.size)
  have ab : af.f 34 = (S (((fl ++ ([58] : List UInt8)) ++ (dg2 ln)) ++ ([58, 32] : List UInt8))) := bb 11 zk
  have s : af.f 39 = (S (errD cd)) := bb 16 zk
  have d : ((af.put (some 34) (S (((fl ++ ([58] : List UInt8)) ++ (dg2 ln)) ++ ([58, 32] : List UInt8)))).put (some 39) (S (errD cd))) = af := by rw [xK ab, xK s]
  rw [← d]
  have b := Below.refl cb.heap.size cb
  refine wX (((fl ++ ([58] : List UInt8)) ++ (dg2 ln)) ++ ([58, 32] : List UInt8)) (errD cd) (by (simp only [List.length_append, List.length_cons, List.length_nil]; omega)) zk zk (zS ?_)
  exact ⟨rfl, d8 _ _ b (xX.trans (congrArg Fm.ds d)) (fun t ht => (xI ht).trans (congrArg (fun q => q.f t) d)) (show Fm.f _ _ = _ from by kernel_rfl)⟩
 skip
 intro h4 g h0 bd cq ek dj e
 have dt := bd.trans (cq.mono bd.size)
 have y : g.f 23 = (pt a 0) := e 0 zo
 have aj : g.f 24 = (pt a 0) := e 1 zo
 have al : g.f 25 = (pt a 0) := e 2 zo
 have ad : g.f 26 = (S fl) := e 3 zo
 have r : g.f 27 = (S (fl ++ ([58] : List UInt8))) := e 4 zo
 have ae : g.f 28 = (pt a 0) := e 5 zo
 have au : g.f 29 = (pt a 0) := e 6 zo
 have ac : g.f 30 = (pt a 1) := e 7 zo
 have aq : g.f 31 = (I6 ln) := e 8 zo
 have ag : g.f 32 = (S (dg2 ln)) := e 9 zo
 have o : g.f 33 = (S ((fl ++ ([58] : List UInt8)) ++ (dg2 ln))) := e 10 zo
 have ab : g.f 34 = (S (((fl ++ ([58] : List UInt8)) ++ (dg2 ln)) ++ ([58, 32] : List UInt8))) := e 11 zo
 have aw : g.f 35 = (pt a 0) := e 12 zo
 have ay : g.f 36 = (pt a 0) := e 13 zo
 have az : g.f 37 = (pt a 2) := e 14 zo
 have a0 : g.f 38 = (I6 cd) := e 15 zo
 have s : g.f 39 = (S (errD cd)) := e 16 zo
 have br : g.f 40 = (S ((((fl ++ ([58] : List UInt8)) ++ (dg2 ln)) ++ ([58, 32] : List UInt8)) ++ (errD cd))) := e 17 zo
 have b7 := frm_eq [23, 24, 25, 26, 27, 28, 29, 30, 31, 32, 33, 34, 35, 36, 37, 38, 39, 40] [(pt a 0), (pt a 0), (pt a 0), (S fl), (S (fl ++ ([58] : List UInt8))), (pt a 0), (pt a 0), (pt a 1), (I6 ln), (S (dg2 ln)), (S ((fl ++ ([58] : List UInt8)) ++ (dg2 ln))), (S (((fl ++ ([58] : List UInt8)) ++ (dg2 ln)) ++ ([58, 32] : List UInt8))), (pt a 0), (pt a 0), (pt a 2), (I6 cd), (S (errD cd)), (S ((((fl ++ ([58] : List UInt8)) ++ (dg2 ln)) ++ ([58, 32] : List UInt8)) ++ (errD cd)))] rfl ek dj ⟨y, aj, al, ad, r, ae, au, ac, aq, ag, o, ab, aw, ay, az, a0, s, br, trivial⟩
 rw [b7]
 clear b7 y aj al ad r ae au ac aq ag o ab aw ay az a0 s br
 refine ip 18 rfl (S ((((fl ++ ([58] : List UInt8)) ++ (dg2 ln)) ++ ([58, 32] : List UInt8)) ++ (errD cd))) (I_done zk ?_)
 have l := l.tr dt
 exact zD (yA (yK [(S ((((fl ++ ([58] : List UInt8)) ++ (dg2 ln)) ++ ([58, 32] : List UInt8)) ++ (errD cd)))] ⟨congrArg S (by (unfold fltD; rw [if_neg za]; done)), l⟩))
theorem c_read_ok (no : Int) (k : Int) (m : List UInt8) (z : Value) (f : List (List UInt8)) (t : List UInt8) (w : World) (d : Rd w encStr z f) (hf : ∀ x ∈ f, x.length ≤ 1073741824) (hn : f.length ≤ 1073741824) (hok : (readB k f).2.2 = 0) :
  Calls Tryz.prog 40 #[(Value.agg #[(I6 no), (U8 k), (S m), z, (S t)])] w (Ret fun v w' => v = (.tuple #[(Value.agg #[(I3 ((readB k f).1.1)), (I3 ((readB k f).1.2.1)), (U8 ((readB k f).1.2.2))]), (.bool ((readB k f).2.1)), .nilIface]) ∧ Below w.heap.size w w') := by
 refine wO 67 func40 rfl ?_
 have n := Below.refl w.heap.size w
 refine wR (zN [(I6 no), (U8 k), (S m), z, (S t)] 90 ?_)
 intro b1 w2 o
 have ak := o.ge n.size
 have b := o.here
 refine zN [(I3 0), (I3 0), (U8 0)] 26 ?_
 intro b4 w5 j
 have n := n.tr o.below
 have u := j.ge n.size
 have a := j.here
 have b := zB b j.below
 refine zK (zK (nW (wR (zFO 1 b rfl (nQ (yF (wR (qM .u8 k 2 ?_ ?_))))))))
 ·intro h7
  refine zK (nQ (zT (wR (zr (Value.agg #[(I3 0), (I3 0), (U8 0)]) (zr (.iface 28 (I6 80)) (wE [(I3 0), (I3 0), (U8 0)] a ?_))))))
  intro w8 aj
  have a := aj.here
  refine zK (zK (nQ (yA (zR (zI (xP [.cell 2 26, .tmp 3, .tmp 4] [(Value.agg #[(I3 0), (I3 0), (U8 0)]), (.bool false), (.iface 28 (I6 80))] rfl rfl ⟨⟨⟨b4, 0, none⟩, zk, xL [(I3 0), (I3 0), (U8 0)] zk zk (xJ a)⟩, zk, zk, trivial⟩ ?_))))))
  exfalso; first | (rw [rd_order za] at hok; first | exact absurd hok za | exact absurd hok (by decide)) | (rw [rd_few za za] at hok; first | exact absurd hok za | exact absurd hok (by decide)) | (rw [rd_none za za] at hok; first | exact absurd hok za | exact absurd hok (by decide)) | (rw [rd_a za za za za] at hok; first | exact absurd hok za | exact absurd hok (by decide)) | (rw [rd_b za za za za za za] at hok; first | exact absurd hok za | exact absurd hok (by decide)) | (rw [rd_s za za za za za za za za] at hok; first | exact absurd hok za | exact absurd hok (by decide)) | (rw [rd_ok za za za za za za za za] at hok; first | exact absurd hok za | exact absurd hok (by decide))
 intro a4
 refine zK (nQ (zF (wR (qM .u8 k 1 ?_ ?_))))
 ·intro av
  have d := (d.below o.below).below j.below
  refine zK (nQ (zT (wR (zFO 3 b rfl (zln underlying88 (d).len (nNe ((f).length) 3 ?_ ?_))))))
  ·intro an
   refine nQ (zT (wR (zr (Value.agg #[(I3 0), (I3 0), (U8 0)]) (zr (.iface 28 (I6 80)) (wE [(I3 0), (I3 0), (U8 0)] a ?_)))))
   intro aq ae
   have a := ae.here
   refine zK (zK (nQ (yA (zR (zI (xP [.cell 2 26, .tmp 3, .tmp 4] [(Value.agg #[(I3 0), (I3 0), (U8 0)]), (.bool false), (.iface 28 (I6 80))] rfl rfl ⟨⟨⟨b4, 0, none⟩, zk, xL [(I3 0), (I3 0), (U8 0)] zk zk (xJ a)⟩, zk, zk, trivial⟩ ?_))))))
   exfalso; first | (rw [rd_order za] at hok; first | exact absurd hok za | exact absurd hok (by decide)) | (rw [rd_few za za] at hok; first | exact absurd hok za | exact absurd hok (by decide)) | (rw [rd_none za za] at hok; first | exact absurd hok za | exact absurd hok (by decide)) | (rw [rd_a za za za za] at hok; first | exact absurd hok za | exact absurd hok (by decide)) | (rw [rd_b za za za za za za] at hok; first | exact absurd hok za | exact absurd hok (by decide)) | (rw [rd_s za za za za za za za za] at hok; first | exact absurd hok za | exact absurd hok (by decide)) | (rw [rd_ok za za za za za za za za] at hok; first | exact absurd hok za | exact absurd hok (by decide))
  intro au
  refine nQ (zF (zW (zL (zD (wR (zFO 3 b rfl ?_))))))
  have hz := yB f 0 zo; obtain ⟨g, r⟩ := hz
  have ad := hf _ (List.mem_of_getElem? r)
  refine zE1 d el88 0 r rfl fun _ => (zc (c_points_Hex g _ zo) ?_)
  rintro _ ay ⟨rfl, c⟩
  refine zJ (zr (I3 ((hexF g).1)) (zr (I6 ((hexF g).2)) (zK (zK (nW (wR (zJ (zNe .i64 ((hexF g).2) 0 ?_ ?_))))))))
  ·intro a6
   have a := zB a c
   refine nQ (zT (wR (zr (Value.agg #[(I3 0), (I3 0), (U8 0)]) (zJ (zr (.iface 28 (I6 ((hexF g).2))) (wE [(I3 0), (I3 0), (U8 0)] a ?_))))))
   intro aw ag
   have a := ag.here
   refine zK (zK (nQ (yA (zI (xP [.cell 2 26, .tmp 3, .tmp 4] [(Value.agg #[(I3 0), (I3 0), (U8 0)]), (.bool false), (.iface 28 (I6 ((hexF g).2)))] rfl rfl ⟨⟨⟨b4, 0, none⟩, zk, xL [(I3 0), (I3 0), (U8 0)] zk zk (xJ a)⟩, zk, zk, trivial⟩ ?_)))))
   exfalso; first | (rw [rd_order za] at hok; first | exact absurd hok za | exact absurd hok (by decide)) | (rw [rd_few za za] at hok; first | exact absurd hok za | exact absurd hok (by decide)) | (rw [rd_none za za] at hok; first | exact absurd hok za | exact absurd hok (by decide)) | (rw [rd_a za za za za] at hok; first | exact absurd hok za | exact absurd hok (by decide)) | (rw [rd_b za za za za za za] at hok; first | exact absurd hok za | exact absurd hok (by decide)) | (rw [rd_s za za za za za za za za] at hok; first | exact absurd hok za | exact absurd hok (by decide)) | (rw [rd_ok za za za za za za za za] at hok; first | exact absurd hok za | exact absurd hok (by decide))
  intro ax
  have b := zB b c
  refine nQ (zF (zW (zD (wR (zFO 3 b rfl ?_)))))
  have hz := yB f 1 zo; obtain ⟨h, q⟩ := hz
  have ac := hf _ (List.mem_of_getElem? q)
  have d := d.below c
  refine zE1 d el88 1 q rfl fun _ => (zc (c_points_Hex h _ zo) ?_)
  rintro _ ao ⟨rfl, i⟩
  refine zJ (zr (I3 ((hexF h).1)) (zr (I6 ((hexF h).2)) (zK (zK (nW (wR (zJ (zNe .i64 ((hexF h).2) 0 ?_ ?_))))))))
  ·intro a2
   have a := zB (zB a c) i
   refine nQ (zT (wR (zr (Value.agg #[(I3 0), (I3 0), (U8 0)]) (zJ (zr (.iface 28 (I6 ((hexF h).2))) (wE [(I3 0), (I3 0), (U8 0)] a ?_))))))
   intro a0 ah
   have a := ah.here
   refine zK (zK (nQ (yA (zI (xP [.cell 2 26, .tmp 3, .tmp 4] [(Value.agg #[(I3 0), (I3 0), (U8 0)]), (.bool false), (.iface 28 (I6 ((hexF h).2)))] rfl rfl ⟨⟨⟨b4, 0, none⟩, zk, xL [(I3 0), (I3 0), (U8 0)] zk zk (xJ a)⟩, zk, zk, trivial⟩ ?_)))))
   exfalso; first | (rw [rd_order za] at hok; first | exact absurd hok za | exact absurd hok (by decide)) | (rw [rd_few za za] at hok; first | exact absurd hok za | exact absurd hok (by decide)) | (rw [rd_none za za] at hok; first | exact absurd hok za | exact absurd hok (by decide)) | (rw [rd_a za za za za] at hok; first | exact absurd hok za | exact absurd hok (by decide)) | (rw [rd_b za za za za za za] at hok; first | exact absurd hok za | exact absurd hok (by decide)) | (rw [rd_s za za za za za za za za] at hok; first | exact absurd hok za | exact absurd hok (by decide)) | (rw [rd_ok za za za za za za za za] at hok; first | exact absurd hok za | exact absurd hok (by decide))
  intro al
  have b := zB b i
  refine nQ (zF (zW (zD (wR (zFO 3 b rfl ?_)))))
  have hz := yB f 2 zo; obtain ⟨e, s⟩ := hz
  have ai := hf _ (List.mem_of_getElem? s)
  have d := d.below i
  refine zE1 d el88 2 s rfl fun _ => (zc (c_words_Side e _ zo) ?_)
  rintro _ ap ⟨rfl, l⟩
  refine zJ (zr (U8 ((sideF e).1)) (zr (I6 ((sideF e).2)) (zK (zK (nW (wR (zJ (zNe .i64 ((sideF e).2) 0 ?_ ?_))))))))
  ·intro a1
   have a := zB (zB (zB a c) i) l
   refine nQ (zT (wR (zr (Value.agg #[(I3 0), (I3 0), (U8 0)]) (zJ (zr (.iface 28 (I6 ((sideF e).2))) (wE [(I3 0), (I3 0), (U8 0)] a ?_))))))
   intro ar af
   have a := af.here
   refine zK (zK (nQ (yA (zI (xP [.cell 2 26, .tmp 3, .tmp 4] [(Value.agg #[(I3 0), (I3 0), (U8 0)]), (.bool false), (.iface 28 (I6 ((sideF e).2)))] rfl rfl ⟨⟨⟨b4, 0, none⟩, zk, xL [(I3 0), (I3 0), (U8 0)] zk zk (xJ a)⟩, zk, zk, trivial⟩ ?_)))))
   exfalso; first | (rw [rd_order za] at hok; first | exact absurd hok za | exact absurd hok (by decide)) | (rw [rd_few za za] at hok; first | exact absurd hok za | exact absurd hok (by decide)) | (rw [rd_none za za] at hok; first | exact absurd hok za | exact absurd hok (by decide)) | (rw [rd_a za za za za] at hok; first | exact absurd hok za | exact absurd hok (by decide)) | (rw [rd_b za za za za za za] at hok; first | exact absurd hok za | exact absurd hok (by decide)) | (rw [rd_s za za za za za za za za] at hok; first | exact absurd hok za | exact absurd hok (by decide)) | (rw [rd_ok za za za za za za za za] at hok; first | exact absurd hok za | exact absurd hok (by decide))
  intro az
  have a := zB (zB (zB a c) i) l
  refine nQ (zF (zW (zD (wR (zJ (zJ (zJ (zr (Value.agg #[(I3 ((hexF g).1)), (I3 ((hexF h).1)), (U8 ((sideF e).1))]) (wE [(I3 ((hexF g).1)), (I3 ((hexF h).1)), (U8 ((sideF e).1))] a ?_)))))))))
  intro a3 p
  have a := p.here
  refine zK (zK (nQ (yA (xP [.cell 2 26, .tmp 3, .tmp 4] [(Value.agg #[(I3 ((hexF g).1)), (I3 ((hexF h).1)), (U8 ((sideF e).1))]), (.bool true), .nilIface] rfl rfl ⟨⟨⟨b4, 0, none⟩, zk, xL [(I3 ((hexF g).1)), (I3 ((hexF h).1)), (U8 ((sideF e).1))] zk zk (xJ a)⟩, zk, zk, trivial⟩ ?_))))
  have n := ((((n.tr j.below).tr c).tr i).tr l).trans (p.below u)
  exact ⟨wK (by (rw [rd_ok za za za za za za za za]; done)) (eb (by (rw [rd_ok za za za za za za za za]; done))) rfl, n⟩
 intro a5
 refine zK (nQ (zF (wR (zr (Value.agg #[(I3 0), (I3 0), (U8 0)]) (wE [(I3 0), (I3 0), (U8 0)] a ?_)))))
 intro am y
 have a := y.here
 refine zK (zK (nQ (yA (zR (zI (xP [.cell 2 26, .tmp 3, .tmp 4] [(Value.agg #[(I3 0), (I3 0), (U8 0)]), (.bool false), .nilIface] rfl rfl ⟨⟨⟨b4, 0, none⟩, zk, xL [(I3 0), (I3 0), (U8 0)] zk zk (xJ a)⟩, zk, zk, trivial⟩ ?_))))))
 have n := (n.tr j.below).trans (y.below u)
 exact ⟨wK (by (rw [rd_none za za]; done)) (eb (by (rw [rd_none za za]; done))) rfl, n⟩
theorem c_read_bad (no : Int) (k : Int) (m : List UInt8) (ac : Value) (f : List (List UInt8)) (t : List UInt8) (w : World) (e : Rd w encStr ac f) (hf : ∀ x ∈ f, x.length ≤ 1073741824) (hn : f.length ≤ 1073741824) (hbad : (readB k f).2.2 ≠ 0) :
  Calls Tryz.prog 40 #[(Value.agg #[(I6 no), (U8 k), (S m), ac, (S t)])] w (Ret fun v w' => v = (.tuple #[(Value.agg #[(I3 0), (I3 0), (U8 0)]), (.bool false), (.iface 28 (I6 ((readB k f).2.2)))]) ∧ Below w.heap.size w w') := by
 refine wO 67 func40 rfl ?_
 have j := Below.refl w.heap.size w
 refine wR (zN [(I6 no), (U8 k), (S m), ac, (S t)] 90 ?_)
 intro b1 w2 p
 have al := p.ge j.size
 have b := p.here
 refine zN [(I3 0), (I3 0), (U8 0)] 26 ?_
 intro b4 w5 l
 have j := j.tr p.below
 have n := l.ge j.size
 have a := l.here
 have b := zB b l.below
 refine zK (zK (nW (wR (zFO 1 b rfl (nQ (yF (wR (qM .u8 k 2 ?_ ?_))))))))
 ·intro h7
  refine zK (nQ (zT (wR (zr (Value.agg #[(I3 0), (I3 0), (U8 0)]) (zr (.iface 28 (I6 80)) (wE [(I3 0), (I3 0), (U8 0)] a ?_))))))
  intro w8 ak
  have a := ak.here
  refine zK (zK (nQ (yA (zR (zI (xP [.cell 2 26, .tmp 3, .tmp 4] [(Value.agg #[(I3 0), (I3 0), (U8 0)]), (.bool false), (.iface 28 (I6 80))] rfl rfl ⟨⟨⟨b4, 0, none⟩, zk, xL [(I3 0), (I3 0), (U8 0)] zk zk (xJ a)⟩, zk, zk, trivial⟩ ?_))))))
  have j := (j.tr l.below).trans (ak.below n)
  exact ⟨wK rfl rfl (congrArg (fun z => Value.iface 28 (I6 z)) (by (rw [rd_order za]; done))), j⟩
 intro a5
 refine zK (nQ (zF (wR (qM .u8 k 1 ?_ ?_))))
 ·intro aw
  have e := (e.below p.below).below l.below
  refine zK (nQ (zT (wR (zFO 3 b rfl (zln underlying88 (e).len (nNe ((f).length) 3 ?_ ?_))))))
  ·intro ao
   refine nQ (zT (wR (zr (Value.agg #[(I3 0), (I3 0), (U8 0)]) (zr (.iface 28 (I6 80)) (wE [(I3 0), (I3 0), (U8 0)] a ?_)))))
   intro ar s
   have a := s.here
   refine zK (zK (nQ (yA (zR (zI (xP [.cell 2 26, .tmp 3, .tmp 4] [(Value.agg #[(I3 0), (I3 0), (U8 0)]), (.bool false), (.iface 28 (I6 80))] rfl rfl ⟨⟨⟨b4, 0, none⟩, zk, xL [(I3 0), (I3 0), (U8 0)] zk zk (xJ a)⟩, zk, zk, trivial⟩ ?_))))))
   have j := (j.tr l.below).trans (s.below n)
   exact ⟨wK rfl rfl (congrArg (fun z => Value.iface 28 (I6 z)) (by (rw [rd_few za za]; done))), j⟩
  intro av
  refine nQ (zF (zW (zL (zD (wR (zFO 3 b rfl ?_))))))
  have hz := yB f 0 zo; obtain ⟨h, r⟩ := hz
  have ah := hf _ (List.mem_of_getElem? r)
  refine zE1 e el88 0 r rfl fun _ => (zc (c_points_Hex h _ zo) ?_)
  rintro _ az ⟨rfl, c⟩
  refine zJ (zr (I3 ((hexF h).1)) (zr (I6 ((hexF h).2)) (zK (zK (nW (wR (zJ (zNe .i64 ((hexF h).2) 0 ?_ ?_))))))))
  ·intro a7
   have a := zB a c
   refine nQ (zT (wR (zr (Value.agg #[(I3 0), (I3 0), (U8 0)]) (zJ (zr (.iface 28 (I6 ((hexF h).2))) (wE [(I3 0), (I3 0), (U8 0)] a ?_))))))
   intro ax aa
   have a := aa.here
   refine zK (zK (nQ (yA (zI (xP [.cell 2 26, .tmp 3, .tmp 4] [(Value.agg #[(I3 0), (I3 0), (U8 0)]), (.bool false), (.iface 28 (I6 ((hexF h).2)))] rfl rfl ⟨⟨⟨b4, 0, none⟩, zk, xL [(I3 0), (I3 0), (U8 0)] zk zk (xJ a)⟩, zk, zk, trivial⟩ ?_)))))
   have j := ((j.tr l.below).tr c).trans (aa.below n)
   exact ⟨wK rfl rfl (congrArg (fun z => Value.iface 28 (I6 z)) (by (rw [rd_a za za za za]; done))), j⟩
  intro ay
  have b := zB b c
  refine nQ (zF (zW (zD (wR (zFO 3 b rfl ?_)))))
  have hz := yB f 1 zo; obtain ⟨i, q⟩ := hz
  have ag := hf _ (List.mem_of_getElem? q)
  have e := e.below c
  refine zE1 e el88 1 q rfl fun _ => (zc (c_points_Hex i _ zo) ?_)
  rintro _ ap ⟨rfl, d⟩
  refine zJ (zr (I3 ((hexF i).1)) (zr (I6 ((hexF i).2)) (zK (zK (nW (wR (zJ (zNe .i64 ((hexF i).2) 0 ?_ ?_))))))))
  ·intro a3
   have a := zB (zB a c) d
   refine nQ (zT (wR (zr (Value.agg #[(I3 0), (I3 0), (U8 0)]) (zJ (zr (.iface 28 (I6 ((hexF i).2))) (wE [(I3 0), (I3 0), (U8 0)] a ?_))))))
   intro a1 ab
   have a := ab.here
   refine zK (zK (nQ (yA (zI (xP [.cell 2 26, .tmp 3, .tmp 4] [(Value.agg #[(I3 0), (I3 0), (U8 0)]), (.bool false), (.iface 28 (I6 ((hexF i).2)))] rfl rfl ⟨⟨⟨b4, 0, none⟩, zk, xL [(I3 0), (I3 0), (U8 0)] zk zk (xJ a)⟩, zk, zk, trivial⟩ ?_)))))
   have j := (((j.tr l.below).tr c).tr d).trans (ab.below n)
   exact ⟨wK rfl rfl (congrArg (fun z => Value.iface 28 (I6 z)) (by (rw [rd_b za za za za za za]; done))), j⟩
  intro am
  have b := zB b d
  refine nQ (zF (zW (zD (wR (zFO 3 b rfl ?_)))))
  have hz := yB f 2 zo; obtain ⟨g, u⟩ := hz
  have aj := hf _ (List.mem_of_getElem? u)
  have e := e.below d
  refine zE1 e el88 2 u rfl fun _ => (zc (c_words_Side g _ zo) ?_)
  rintro _ aq ⟨rfl, o⟩
  refine zJ (zr (U8 ((sideF g).1)) (zr (I6 ((sideF g).2)) (zK (zK (nW (wR (zJ (zNe .i64 ((sideF g).2) 0 ?_ ?_))))))))
  ·intro a2
   have a := zB (zB (zB a c) d) o
   refine nQ (zT (wR (zr (Value.agg #[(I3 0), (I3 0), (U8 0)]) (zJ (zr (.iface 28 (I6 ((sideF g).2))) (wE [(I3 0), (I3 0), (U8 0)] a ?_))))))
   intro au y
   have a := y.here
   refine zK (zK (nQ (yA (zI (xP [.cell 2 26, .tmp 3, .tmp 4] [(Value.agg #[(I3 0), (I3 0), (U8 0)]), (.bool false), (.iface 28 (I6 ((sideF g).2)))] rfl rfl ⟨⟨⟨b4, 0, none⟩, zk, xL [(I3 0), (I3 0), (U8 0)] zk zk (xJ a)⟩, zk, zk, trivial⟩ ?_)))))
   have j := ((((j.tr l.below).tr c).tr d).tr o).trans (y.below n)
   exact ⟨wK rfl rfl (congrArg (fun z => Value.iface 28 (I6 z)) (by (rw [rd_s za za za za za za za za]; done))), j⟩
  intro a0
  have a := zB (zB (zB a c) d) o
  refine nQ (zF (zW (zD (wR (zJ (zJ (zJ (zr (Value.agg #[(I3 ((hexF h).1)), (I3 ((hexF i).1)), (U8 ((sideF g).1))]) (wE [(I3 ((hexF h).1)), (I3 ((hexF i).1)), (U8 ((sideF g).1))] a ?_)))))))))
  intro a4 ae
  have a := ae.here
  refine zK (zK (nQ (yA (xP [.cell 2 26, .tmp 3, .tmp 4] [(Value.agg #[(I3 ((hexF h).1)), (I3 ((hexF i).1)), (U8 ((sideF g).1))]), (.bool true), .nilIface] rfl rfl ⟨⟨⟨b4, 0, none⟩, zk, xL [(I3 ((hexF h).1)), (I3 ((hexF i).1)), (U8 ((sideF g).1))] zk zk (xJ a)⟩, zk, zk, trivial⟩ ?_))))
  exfalso; first | (rw [rd_order za] at hbad; exact hbad rfl) | (rw [rd_few za za] at hbad; exact hbad rfl) | (rw [rd_none za za] at hbad; exact hbad rfl) | (rw [rd_a za za za za] at hbad; exact hbad rfl) | (rw [rd_b za za za za za za] at hbad; exact hbad rfl) | (rw [rd_s za za za za za za za za] at hbad; exact hbad rfl) | (rw [rd_ok za za za za za za za za] at hbad; exact hbad rfl)
 intro a6
 refine zK (nQ (zF (wR (zr (Value.agg #[(I3 0), (I3 0), (U8 0)]) (wE [(I3 0), (I3 0), (U8 0)] a ?_)))))
 intro an ai
 have a := ai.here
 refine zK (zK (nQ (yA (zR (zI (xP [.cell 2 26, .tmp 3, .tmp 4] [(Value.agg #[(I3 0), (I3 0), (U8 0)]), (.bool false), .nilIface] rfl rfl ⟨⟨⟨b4, 0, none⟩, zk, xL [(I3 0), (I3 0), (U8 0)] zk zk (xJ a)⟩, zk, zk, trivial⟩ ?_))))))
 exfalso; first | (rw [rd_order za] at hbad; exact hbad rfl) | (rw [rd_few za za] at hbad; exact hbad rfl) | (rw [rd_none za za] at hbad; exact hbad rfl) | (rw [rd_a za za za za] at hbad; exact hbad rfl) | (rw [rd_b za za za za za za] at hbad; exact hbad rfl) | (rw [rd_s za za za za za za za za] at hbad; exact hbad rfl) | (rw [rd_ok za za za za za za za za] at hbad; exact hbad rfl)
theorem c_code (e : Int) (w : World) (hty : w.cell? ⟨0, 0, none⟩ = some (.iface 180 (.agg #[.pointer (some ⟨7, 39, none⟩)]))) :
  Calls Tryz.prog 41 #[(.iface 28 (I6 e))] w (Ret fun v w' => v = (I6 e) ∧ Below w.heap.size w w') := by
 refine wO 8 func41 rfl ?_
 have b := Below.refl w.heap.size w
 refine wR (zK (nR (zN [(I6 0)] 28 ?_)))
 intro h k c
 have f := c.ge b.size
 have a := c.here
 have b := b.tr c.below
 refine nR (zJ (zr (.iface 143 (pt h 0)) (zc (an_fk e h (I6 0) _ (wU hty b) a) ?_)))
 rintro _ j ⟨rfl, i, g, d⟩
 have a := d.here
 have b := (b.tr g).trans (d.below f)
 exact nR (zO 0 a rfl (zK (nQ (yA (yK [(I6 e)] ⟨rfl, b⟩)))))
end Go.Proofs.YtddnhlobnembaaaGreatDoor
end

/- === Wcb5 === -/
section
/- Walks, written by my program walk.py out of the specification cb5.py: each theorem says what one function returns and that it leaves memory as it was. -/
namespace Go.Proofs.YtddnhlobnembaaaGreatDoor
open Go Go.RowKit Go.FK _root_.Go.Proofs.Tryz
set_option maxHeartbeats 4000000
set_option maxRecDepth 100000
theorem c_Parse_bad (file : List UInt8) (text : List UInt8) (w : World) (hty : w.cell? ⟨0, 0, none⟩ = some (.iface 180 (.agg #[.pointer (some ⟨7, 39, none⟩)]))) (hs : text.length ≤ 67108864) (hbad : (parF text).2.2 ≠ 0) :
  Calls Tryz.prog 15 #[(S file), (S text)] w (Ret fun v w' => ∃ (cb0 : Nat), v = (.tuple #[(.pointer none), (.iface 83 (pt cb0 0))]) ∧ w'.heap[cb0]? = some (.cells [(S file), (I6 ((parF text).2.1)), (I6 ((parF text).2.2))].toArray 85 (0, 0)) ∧ w.heap.size ≤ cb0 ∧ Below w.heap.size w w') := by
 refine enterM (args := [(S file), (S text)]) func15 rfl (zk : _ = 83) zk ?_
 have y := Below.refl w.heap.size w
 refine wR (zN [(S file)] 9 ?_)
 intro b1 w2 ey
 have gj := ey.ge y.size
 have i := ey.here
 refine zN [(.pointer none)] 27 ?_
 intro b4 w5 ew
 have y := y.tr ey.below
 have dk := ew.ge y.size
 have b := ew.here
 refine zN [.nilIface] 39 ?_
 intro b7 w8 el
 have y := y.tr ew.below
 have dh := el.ge y.size
 have f := el.here
 refine nR (L_gmk (T := 66) .i32 vBrk ?_)
 intro c6 gu b0
 have i := zB (zB i ew.below) el.below
 have cs := yS (yE i) b0
 have b := zB b el.below
 have ci := yS (yE b) b0
 have cc := yS (yE f) b0
 have y := y.tr el.below
 have en := b0.ge y.size
 have q := b0.here
 refine zr (Value.agg #[(.map (some c6)), (.map none)]) (zN [(.map (some c6)), (.map none)] 69 ?_)
 intro ce gx b8
 have dj := yS (yE q) b8
 have b6 := NE.symm dj
 have y := y.tr b0.below
 have fs := b8.ge y.size
 have m := b8.here
 refine zN [(.pointer none)] 27 ?_
 intro ev gq bv
 have b := zB (zB b b0.below) b8.below
 have c4 := yS (yE b) bv
 have b3 := NE.symm c4
 have q := zB q b8.below
 have cx := yS (yE q) bv
 have co := NE.symm cx
 have y := y.tr b8.below
 have fk := bv.ge y.size
 have p := bv.here
 refine z1 0 (pt ce 0) [(pt ce 0)] p ?_
 intro gw cp
 have i := zB (zB (zB i b0.below) b8.below) bv.below
 have i := zH i cp (zP i p zi)
 have f := zB (zB (zB f b0.below) b8.below) bv.below
 have f := zH f cp (zP f p zi)
 have m := zB m bv.below
 have m := zH m cp (zP m p zi)
 have p := cp.here
 refine nR (zN [(.slice none 0 0)] 22 ?_)
 intro eu hu bu
 have q := zH (zB q bv.below) cp cx
 have cv := yS (yE q) bu
 have du := NE.symm cv
 have y := (y.tr bv.below).trans (cp.below fk)
 have e8 := bu.ge y.size
 have r := bu.here
 refine nR (zN [(.slice none 0 0)] 79 ?_)
 intro d1 g4 bm
 have q := zB q bu.below
 have cq := yS (yE q) bm
 have dn := NE.symm cq
 have y := y.tr bu.below
 have fh := bm.ge y.size
 have o := bm.here
 refine nW (wR (zJ (zc (c_lines_Each text _ ) ?_)))
 rintro _ ai ⟨c2, rfl, a, dd, b2⟩
 have q := zB q bm.below
 have de := NE_ge (yE q) dd
 have bz := NE.symm de
 have y := y.tr bm.below
 replace dd := Nat.le_trans y.size dd
 refine nQ (yF ?_)
 have i := zB (zB (zB i bu.below) bm.below) b2
 have cw : b1 < ai.heap.size := yE i
 have b := zB (zB (zB (zH (zB b bv.below) cp c4) bu.below) bm.below) b2
 have cl : b4 < ai.heap.size := yE b
 have f := zB (zB (zB f bu.below) bm.below) b2
 have cf : b7 < ai.heap.size := yE f
 have q := zB q b2
 have c3 : c6 < ai.heap.size := yE q
 have m := zB (zB (zB m bu.below) bm.below) b2
 have b5 : ce < ai.heap.size := yE m
 have p := zB (zB (zB p bu.below) bm.below) b2
 have cj : ev < ai.heap.size := yE p
 have r := zB (zB r bm.below) b2
 have di : eu < ai.heap.size := yE r
 have o := zB o b2
 have dg : d1 < ai.heap.size := yE o
 have bi : c2 < ai.heap.size := yE a
 have y := y.tr b2
 have c1 := y.size
 have f5 := y
 refine W_range 66 [(pt c2 0)] (toldF text) zk (fun _ _ => rfl) (it_lines_Each_1 c2 text (by first | omega | assumption)) a ((fun D A B h hc hd => zZ h hc (fun h => Nat.not_lt.2 (hd _ h) bi))) (by intro x; rfl) (fun K dc A => ∃ (bd : List Brk) (ca : List Int) (ml : List (Int × Brk)) (ao : Value) (af : Value), (A.heap[b1]? = some (.cells [(S file)].toArray 9 (0, 0))) ∧ (A.heap[b4]? = some (.cells [(.pointer none)].toArray 27 (0, 0))) ∧ (A.heap[b7]? = some (.cells [.nilIface].toArray 39 (0, 0))) ∧ (A.heap[c6]? = some (gmObj .i32 vBrk ml)) ∧ (A.heap[ce]? = some (.cells [(.map (some c6)), (.map none)].toArray 69 (0, 0))) ∧ (A.heap[ev]? = some (.cells [(pt ce 0)].toArray 27 (0, 0))) ∧ (A.heap[eu]? = some (.cells [ao].toArray 22 (0, 0))) ∧ (A.heap[d1]? = some (.cells [af].toArray 79 (0, 0))) ∧ (A.heap[c2]? = some (.cells [(S text)].toArray 9 (0, 0))) ∧ (Row A w.heap.size 26 3 encBrk ao bd) ∧ (∀ g, Value.ownBlock ao = some g → ¬ Iv ai.heap.size K g) ∧ (Row A w.heap.size 3 1 encInt af ca) ∧ (∀ g, Value.ownBlock af = some g → ¬ Iv ai.heap.size K g) ∧ (Below w.heap.size w A) ∧ (ParI dc bd ca) ∧ (ml = kv bd) ∧ (bd.length ≤ dc.length) ∧ (ca.length = bd.length)) (fun K c dc A => (∃ (bq : Nat) (no : Int) (e : Int), (c = .ret) ∧ (A.heap[b1]? = some (.cells [(S file)].toArray 9 (0, 0))) ∧ (A.heap[b4]? = some (.cells [(.pointer none)].toArray 27 (0, 0))) ∧ (A.heap[b7]? = some (.cells [(.iface 83 (pt bq 0))].toArray 39 (0, 0))) ∧ (A.heap[ce]? = some (.cells [(.map (some c6)), (.map none)].toArray 69 (0, 0))) ∧ (A.heap[ev]? = some (.cells [(pt ce 0)].toArray 27 (0, 0))) ∧ (A.heap[c2]? = some (.cells [(S text)].toArray 9 (0, 0))) ∧ (A.heap[bq]? = some (.cells [(S file), (I6 no), (I6 e)].toArray 85 (0, 0))) ∧ (w.heap.size ≤ bq) ∧ (¬ Iv ai.heap.size K bq) ∧ (Below w.heap.size w A) ∧ ((parF text).2 = (no, e)) ∧ (e ≠ 0))) ?_ ?_ ?_ ?_ ?_ ?_
 ·intro A hA
  exact ⟨[], [], [], (.slice none 0 0), (.slice none 0 0), zB i hA, zB b hA, zB f hA, zB q hA, zB m hA, zB p hA, zB r hA, zB o hA, zB a hA, Row.nil _ _ _ _ _, nr_nil _ _, Row.nil _ _ _ _ _, nr_nil _ _, y.trans (hA.mono y.size), by exact ParI.nil, by rfl, by exact Nat.le_refl _, by rfl⟩
 ·rintro K dc A B ⟨bd, ca, ml, ao, af, i, b, f, q, m, p, r, o, a, n, ad, j, ac, y, p1, p2, p3, p4⟩ hc
  exact ⟨bd, ca, ml, ao, af, zZ i hc (fun h => Nat.not_lt.2 h.1 cw), zZ b hc (fun h => Nat.not_lt.2 h.1 cl), zZ f hc (fun h => Nat.not_lt.2 h.1 cf), zZ q hc (fun h => Nat.not_lt.2 h.1 c3), zZ m hc (fun h => Nat.not_lt.2 h.1 b5), zZ p hc (fun h => Nat.not_lt.2 h.1 cj), zZ r hc (fun h => Nat.not_lt.2 h.1 di), zZ o hc (fun h => Nat.not_lt.2 h.1 dg), zZ a hc (fun h => Nat.not_lt.2 h.1 bi), n.ch hc ad, ad, j.ch hc ac, ac, hc.below y y.size (fun k h => Nat.le_trans c1 h.1), p1, p2, p3, p4⟩
 ·rintro K c dc A B (⟨bq, no, e, fx, i, b, f, m, p, a, c0, d4, dq, y, q1, q2⟩) hc
  exact ⟨bq, no, e, fx, zZ i hc (fun h => Nat.not_lt.2 h.1 cw), zZ b hc (fun h => Nat.not_lt.2 h.1 cl), zZ f hc (fun h => Nat.not_lt.2 h.1 cf), zZ m hc (fun h => Nat.not_lt.2 h.1 b5), zZ p hc (fun h => Nat.not_lt.2 h.1 cj), zZ a hc (fun h => Nat.not_lt.2 h.1 bi), zZ c0 hc dq, d4, dq, hc.below y y.size (fun k h => Nat.le_trans c1 h.1), q1, q2⟩
 ·intro l K dc x A hi hN hh hK cd
  obtain ⟨bd, ca, ml, ao, af, i, b, f, q, m, p, r, o, a, n, ad, j, ac, y, p1, p2, p3, p4⟩ := hi
  have hk := Kp.refl (ai.heap.size) K A
  have e1 : ¬ Iv (ai.heap.size) K b1 := fun h => Nat.not_lt.2 h.1 cw
  have c5 : ¬ Iv (ai.heap.size) K b4 := fun h => Nat.not_lt.2 h.1 cl
  have c7 : ¬ Iv (ai.heap.size) K b7 := fun h => Nat.not_lt.2 h.1 cf
  have dv : ¬ Iv (ai.heap.size) K c6 := fun h => Nat.not_lt.2 h.1 c3
  have et : ¬ Iv (ai.heap.size) K ce := fun h => Nat.not_lt.2 h.1 b5
  have e3 : ¬ Iv (ai.heap.size) K ev := fun h => Nat.not_lt.2 h.1 cj
  have ed : ¬ Iv (ai.heap.size) K eu := fun h => Nat.not_lt.2 h.1 di
  have d3 : ¬ Iv (ai.heap.size) K d1 := fun h => Nat.not_lt.2 h.1 dg
  have d5 : ¬ Iv (ai.heap.size) K c2 := fun h => Nat.not_lt.2 h.1 bi
  have a := hN
  have gv := told_short (pre_mem cd)
  have fo := cd.length_le; rw [List.length_append, List.length_singleton] at fo
  have ht := told_len text
  have hv := scan_flen x.1 x.2
  have e9 := scan_parts (no := x.1) (s := x.2) 1073741824 zo
  refine wR (zN [(I6 0)] 3 ?_)
  intro em ha ap
  have cu := yS (yE q) ap
  have ck := NE.symm cu
  have fi := ap.ge y.size
  have ec : ¬ Iv ai.heap.size K em := fun h => by have := h.2; have := ap.num; omega
  have aw := j.new_ne ap
  replace hk := hk.ch (Ch.of_below ap.below) hK (fun _ h => h.elim)
  replace hK := Nat.le_trans hK (ap.below.size)
  have u := ap.here
  refine z1 0 (I6 x.1) [(I6 x.1)] u ?_
  intro gy a0
  replace hk := hk.ch (Ch.of_wrote a0) hK (fun k e h => ec (e ▸ h))
  replace hK := Nat.le_trans hK (Nat.le_of_eq a0.size.symm)
  have i := zB i ap.below
  have i := zH i a0 (zP i u zi)
  have b := zB b ap.below
  have b := zH b a0 (zP b u zi)
  have f := zB f ap.below
  have f := zH f a0 (zP f u zi)
  have m := zB m ap.below
  have m := zH m a0 (zP m u zi)
  have p := zB p ap.below
  have p := zH p a0 (zP p u zi)
  have r := zB r ap.below
  have r := zH r a0 (zP r u zi)
  have o := zB o ap.below
  have o := zH o a0 (zP o u zi)
  have a := zB a ap.below
  have a := zH a a0 (zP a u zi)
  have n := n.below ap.below
  have n := n.wrote a0 (n.ne u zi)
  have u := a0.here
  refine nQ (zY (zK (zS (zD ⟨hk, ?_⟩))))
  intro fu a6
  have y := (y.tr ap.below).trans (a0.below fi)
  have y := a6.below y y.size (fun k h => Nat.le_trans c1 h.1)
  replace hK := Nat.le_trans hK a6.size
  replace hk := Kp.refl (ai.heap.size) K fu
  have u := zZ u a6 ec
  refine yF (wR (zr (.func (.func 38) #[] #[(pt b1 0), (pt em 0)]) (zK (nR (zO 0 u rfl (zJ (zc (c_lines_Scan x.1 x.2 _ (by first | omega | assumption)) ?_)))))))
  rintro _ g5 ⟨d2, rfl, au, a5⟩
  have e5 := nr_row (K0 := ai.heap.size) au hK
  have i := zZ i a6 e1
  have d6 := Row.nb_call au i
  have a := zZ a a6 d5
  have dy := Row.nb_call au a
  have au := au.base y.size
  replace hk := hk.ch (Ch.of_below a5) hK (fun _ h => h.elim)
  replace hK := Nat.le_trans hK (a5.size)
  have := scan_err x.1 x.2
  refine zJ (zr (Value.agg #[(I6 ((scanF x.1 x.2).1.1)), (U8 ((scanF x.1 x.2).1.2.1)), (S ((scanF x.1 x.2).1.2.2.1)), d2, (S ((scanF x.1 x.2).1.2.2.2.2))]) (zr (I6 ((scanF x.1 x.2).2)) (zN [(I6 0), (U8 0), (S []), (.slice none 0 0), (S [])] 90 ?_)))
  intro ff hl ah
  have q := zB (zZ (zH (zB q ap.below) a0 cu) a6 dv) a5
  have b9 := yS (yE q) ah
  have y := y.tr a5
  have db := ah.ge y.size
  have ex : ¬ Iv ai.heap.size K ff := fun h => by have := h.2; have := ah.num; omega
  replace hk := hk.ch (Ch.of_below ah.below) hK (fun _ h => h.elim)
  replace hK := Nat.le_trans hK (ah.below.size)
  have am := ah.here
  have au := au.below ah.below
  refine qS ff 0 [(I6 ((scanF x.1 x.2).1.1)), (U8 ((scanF x.1 x.2).1.2.1)), (S ((scanF x.1 x.2).1.2.2.1)), d2, (S ((scanF x.1 x.2).1.2.2.2.2))] [(I6 0), (U8 0), (S []), (.slice none 0 0), (S [])] [(I6 ((scanF x.1 x.2).1.1)), (U8 ((scanF x.1 x.2).1.2.1)), (S ((scanF x.1 x.2).1.2.2.1)), d2, (S ((scanF x.1 x.2).1.2.2.2.2))] 90 zk zk (wS rfl (wS rfl (wS rfl (wS au.one (wS rfl rfl))))) zk am zk rfl ?_
  intro gn ak
  replace hk := hk.ch (Ch.of_wrote ak) hK (fun k e h => ex (e ▸ h))
  replace hK := Nat.le_trans hK (Nat.le_of_eq ak.size.symm)
  have i := zB (zB i a5) ah.below
  have i := zH i ak (zP i am zi)
  have b := zB (zB (zZ b a6 c5) a5) ah.below
  have b := zH b ak (zP b am zi)
  have f := zB (zB (zZ f a6 c7) a5) ah.below
  have f := zH f ak (zP f am zi)
  have m := zB (zB (zZ m a6 et) a5) ah.below
  have m := zH m ak (zP m am zi)
  have p := zB (zB (zZ p a6 e3) a5) ah.below
  have p := zH p ak (zP p am zi)
  have r := zB (zB (zZ r a6 ed) a5) ah.below
  have r := zH r ak (zP r am zi)
  have o := zB (zB (zZ o a6 d3) a5) ah.below
  have o := zH o ak (zP o am zi)
  have a := zB (zB a a5) ah.below
  have a := zH a ak (zP a am zi)
  have u := zB (zB u a5) ah.below
  have u := zH u ak (zP u am zi)
  have n := ((n.ch a6 ad).below a5).below ah.below
  have n := n.wrote ak (n.ne am zi)
  have j := ((((j.below ap.below).wrote a0 aw).ch a6 ac).below a5).below ah.below
  have j := j.wrote ak (j.ne am zi)
  have au := au.wrote ak (au.ne am zi)
  have am := ak.here
  refine zK (nW (wR (zJ (zNe .i64 ((scanF x.1 x.2).2) 0 ?_ ?_))))
  ·intro gl
   refine nQ (zT (wR (zJ (zJ (L_inline 38 [(I6 ((scanF x.1 x.2).2)), (pt b1 0), (pt em 0)] zk zk (wO 11 func38 rfl (wR (zK (nR (zO 0 i rfl (zO 0 u rfl (zJ (zr (Value.agg #[(S file), (I6 x.1), (I6 ((scanF x.1 x.2).2))]) (zN [(S file), (I6 x.1), (I6 ((scanF x.1 x.2).2))] 85 ?_))))))))))))))
   intro dr g6 bk
   have y := (y.tr ah.below).trans (ak.below db)
   have ea := bk.ge y.size
   have dz : ¬ Iv ai.heap.size K dr := fun h => by have := h.2; have := bk.num; omega
   replace hk := hk.ch (Ch.of_below bk.below) hK (fun _ h => h.elim)
   replace hK := Nat.le_trans hK (bk.below.size)
   have a1 := bk.here
   refine zr (.iface 83 (pt dr 0)) (zK (nQ (yA (yK [(.iface 83 (pt dr 0))] ?_))))
   show L _ _ _ _ _ _ (Fm.put _ _ (.iface 83 (pt dr 0))) _
   have b := zB b bk.below
   refine z1 0 (.pointer none) [(.pointer none)] b ?_
   intro hr bp
   replace hk := hk.ch (Ch.of_wrote bp) hK (fun k e h => c5 (e ▸ h))
   replace hK := Nat.le_trans hK (Nat.le_of_eq bp.size.symm)
   have i := zB i bk.below
   have i := zH i bp (zP i b zi)
   have f := zB f bk.below
   have f := zH f bp (zP f b zi)
   have m := zB m bk.below
   have m := zH m bp (zP m b zi)
   have a := zB a bk.below
   have a := zH a bp (zP a b zi)
   have a1 := zH a1 bp (zP a1 b zi)
   have b := bp.here
   refine z1 0 (.iface 83 (pt dr 0)) [(.iface 83 (pt dr 0))] f ?_
   intro go bs
   replace hk := hk.ch (Ch.of_wrote bs) hK (fun k e h => c7 (e ▸ h))
   replace hK := Nat.le_trans hK (Nat.le_of_eq bs.size.symm)
   have i := zH i bs (zP i f zi)
   have b := zH b bs (zP b f zi)
   have m := zH m bs (zP m f zi)
   have p := zH (zB p bk.below) bp b3
   have p := zH p bs (zP p f zi)
   have a := zH a bs (zP a f zi)
   have a1 := zH a1 bs (zP a1 f zi)
   have f := bs.here
   refine nQ (yA (zI (zR ?_)))
   have y := ((y.tr bk.below).trans (bp.below dk)).trans (bs.below dh)
   refine round_ret hk (⟨dr, x.1, ((scanF x.1 x.2).2), rfl, i, b, f, m, p, a, a1, ea, dz, y, ?_, ?_⟩)
   ·exact par_scan p1 cd za
   assumption
  intro g1
  refine nQ (zF (zW (zD (wR (zOW am ?_)))))
  by_cases ga : (readB ((scanF x.1 x.2).1.2.1) ((scanF x.1 x.2).1.2.2.2.1)).2.2 = 0
  ·skip
   refine zc (c_read_ok ((scanF x.1 x.2).1.1) ((scanF x.1 x.2).1.2.1) ((scanF x.1 x.2).1.2.2.1) d2 ((scanF x.1 x.2).1.2.2.2.1) ((scanF x.1 x.2).1.2.2.2.2) _ au.rd (by exact e9.1) zo (by first | omega | assumption)) ?_
   rintro _ hy ⟨rfl, ae⟩
   replace hk := hk.ch (Ch.of_below ae) hK (fun _ h => h.elim)
   replace hK := Nat.le_trans hK (ae.size)
   refine zJ (zr (Value.agg #[(I3 ((readB ((scanF x.1 x.2).1.2.1) ((scanF x.1 x.2).1.2.2.2.1)).1.1)), (I3 ((readB ((scanF x.1 x.2).1.2.1) ((scanF x.1 x.2).1.2.2.2.1)).1.2.1)), (U8 ((readB ((scanF x.1 x.2).1.2.1) ((scanF x.1 x.2).1.2.2.2.1)).1.2.2))]) (zr (.bool ((readB ((scanF x.1 x.2).1.2.1) ((scanF x.1 x.2).1.2.2.2.1)).2.1)) (yN ((readB ((scanF x.1 x.2).1.2.1) ((scanF x.1 x.2).1.2.2.2.1)).2.1) ?_ ?_)))
   ·intro hp
    refine zr .nilIface (zN [(I3 0), (I3 0), (U8 0)] 26 ?_)
    intro fz gm an
    have q := zB (zH (zB q ah.below) ak b9) ae
    have a7 := yS (yE q) an
    have dl := NE.symm a7
    have y := ((y.tr ah.below).trans (ak.below db)).tr ae
    have cb := an.ge y.size
    have bx : ¬ Iv ai.heap.size K fz := fun h => by have := h.2; have := an.num; omega
    have n := n.below ae
    have z := n.new_ne an
    replace hk := hk.ch (Ch.of_below an.below) hK (fun _ h => h.elim)
    replace hK := Nat.le_trans hK (an.below.size)
    have t := an.here
    refine wE [(I3 ((readB ((scanF x.1 x.2).1.2.1) ((scanF x.1 x.2).1.2.2.2.1)).1.1)), (I3 ((readB ((scanF x.1 x.2).1.2.1) ((scanF x.1 x.2).1.2.2.2.1)).1.2.1)), (U8 ((readB ((scanF x.1 x.2).1.2.1) ((scanF x.1 x.2).1.2.2.2.1)).1.2.2))] t ?_
    intro hm ax
    replace hk := hk.ch (Ch.of_wrote ax) hK (fun k e h => bx (e ▸ h))
    replace hK := Nat.le_trans hK (Nat.le_of_eq ax.size.symm)
    have i := zB (zB i ae) an.below
    have i := zH i ax (zP i t zi)
    have b := zB (zB b ae) an.below
    have b := zH b ax (zP b t zi)
    have f := zB (zB f ae) an.below
    have f := zH f ax (zP f t zi)
    have m := zB (zB m ae) an.below
    have m := zH m ax (zP m t zi)
    have p := zB (zB p ae) an.below
    have p := zH p ax (zP p t zi)
    have r := zB (zB r ae) an.below
    have r := zH r ax (zP r t zi)
    have o := zB (zB o ae) an.below
    have o := zH o ax (zP o t zi)
    have a := zB (zB a ae) an.below
    have a := zH a ax (zP a t zi)
    have u := zB (zB u ae) an.below
    have u := zH u ax (zP u t zi)
    have j := (j.below ae).below an.below
    have j := j.wrote ax (j.ne t zi)
    have t := ax.here
    have y := (y.tr an.below).trans (ax.below cb)
    have q := zH (zB q an.below) ax a7
    refine zK (zK (nW (wR (zJ (zr (.bool false) (nQ (zF (zW (zD (yC (wR (zJ (qW true (nQ (zF (zW (zD (yC (wR (zO 0 p rfl (zOW t (zc (c_add ce c6 ml (.map none) ((readB ((scanF x.1 x.2).1.2.1) ((scanF x.1 x.2).1.2.2.2.1)).1.1) ((readB ((scanF x.1 x.2).1.2.1) ((scanF x.1 x.2).1.2.2.2.1)).1.2.1) ((readB ((scanF x.1 x.2).1.2.1) ((scanF x.1 x.2).1.2.2.2.1)).1.2.2) w.heap.size _ y.size m q en) ?_))))))))))))))))))))))
    rintro _ hw ⟨rfl, fj, aj⟩
    replace hk := hk.ch aj hK (fun k e h => dv (e ▸ h))
    replace hK := Nat.le_trans hK aj.size
    have y := aj.below y y.size (fun k e => e ▸ en)
    have n := (n.below an.below).wrote ax z
    have n := n.ch aj (fun g e d => (n.ne q (by simp [gmObj])) (d ▸ e))
    have j := j.ch aj (fun g e d => (j.ne q (by simp [gmObj])) (d ▸ e))
    have q := fj
    refine zK (nR (zJ (zNe .i64 (addE ml (((readB ((scanF x.1 x.2).1.2.1) ((scanF x.1 x.2).1.2.2.2.1)).1.1), ((readB ((scanF x.1 x.2).1.2.1) ((scanF x.1 x.2).1.2.2.2.1)).1.2.1), ((readB ((scanF x.1 x.2).1.2.1) ((scanF x.1 x.2).1.2.2.2.1)).1.2.2))) 0 ?_ ?_)))
    ·intro hj
     refine nQ (zT (wR (zJ (zJ (L_inline 38 [(I6 (addE ml (((readB ((scanF x.1 x.2).1.2.1) ((scanF x.1 x.2).1.2.2.2.1)).1.1), ((readB ((scanF x.1 x.2).1.2.1) ((scanF x.1 x.2).1.2.2.2.1)).1.2.1), ((readB ((scanF x.1 x.2).1.2.1) ((scanF x.1 x.2).1.2.2.2.1)).1.2.2)))), (pt b1 0), (pt em 0)] zk zk (wO 11 func38 rfl ?_))))))
     have i := zZ i aj (fun e => cs e)
     have u := zZ u aj (fun e => ck e)
     refine wR (zK (nR (zO 0 i rfl (zO 0 u rfl (zJ (zr (Value.agg #[(S file), (I6 x.1), (I6 (addE ml (((readB ((scanF x.1 x.2).1.2.1) ((scanF x.1 x.2).1.2.2.2.1)).1.1), ((readB ((scanF x.1 x.2).1.2.1) ((scanF x.1 x.2).1.2.2.2.1)).1.2.1), ((readB ((scanF x.1 x.2).1.2.1) ((scanF x.1 x.2).1.2.2.2.1)).1.2.2))))]) (zN [(S file), (I6 x.1), (I6 (addE ml (((readB ((scanF x.1 x.2).1.2.1) ((scanF x.1 x.2).1.2.2.2.1)).1.1), ((readB ((scanF x.1 x.2).1.2.1) ((scanF x.1 x.2).1.2.2.2.1)).1.2.1), ((readB ((scanF x.1 x.2).1.2.1) ((scanF x.1 x.2).1.2.2.2.1)).1.2.2))))] 85 ?_)))))))
     intro dt g2 bl
     have eh := bl.ge y.size
     have dw : ¬ Iv ai.heap.size K dt := fun h => by have := h.2; have := bl.num; omega
     replace hk := hk.ch (Ch.of_below bl.below) hK (fun _ h => h.elim)
     replace hK := Nat.le_trans hK (bl.below.size)
     have ay := bl.here
     refine zr (.iface 83 (pt dt 0)) (zK (nQ (yA (yK [(.iface 83 (pt dt 0))] ?_))))
     show L _ _ _ _ _ _ (Fm.put _ _ (.iface 83 (pt dt 0))) _
     have b := zB (zZ b aj (fun e => ci e)) bl.below
     refine z1 0 (.pointer none) [(.pointer none)] b ?_
     intro hg br
     replace hk := hk.ch (Ch.of_wrote br) hK (fun k e h => c5 (e ▸ h))
     replace hK := Nat.le_trans hK (Nat.le_of_eq br.size.symm)
     have i := zB i bl.below
     have i := zH i br (zP i b zi)
     have f := zB (zZ f aj (fun e => cc e)) bl.below
     have f := zH f br (zP f b zi)
     have m := zB (zZ m aj (fun e => b6 e)) bl.below
     have m := zH m br (zP m b zi)
     have a := zB (zZ a aj (fun e => bz e)) bl.below
     have a := zH a br (zP a b zi)
     have ay := zH ay br (zP ay b zi)
     have b := br.here
     refine z1 0 (.iface 83 (pt dt 0)) [(.iface 83 (pt dt 0))] f ?_
     intro gs bt
     replace hk := hk.ch (Ch.of_wrote bt) hK (fun k e h => c7 (e ▸ h))
     replace hK := Nat.le_trans hK (Nat.le_of_eq bt.size.symm)
     have i := zH i bt (zP i f zi)
     have b := zH b bt (zP b f zi)
     have m := zH m bt (zP m f zi)
     have p := zH (zB (zZ p aj (fun e => co e)) bl.below) br b3
     have p := zH p bt (zP p f zi)
     have a := zH a bt (zP a f zi)
     have ay := zH ay bt (zP ay f zi)
     have f := bt.here
     refine nQ (yA (zI (zR ?_)))
     have y := ((y.tr bl.below).trans (br.below dk)).trans (bt.below dh)
     refine round_ret hk (⟨dt, x.1, (addE ml (((readB ((scanF x.1 x.2).1.2.1) ((scanF x.1 x.2).1.2.2.2.1)).1.1), ((readB ((scanF x.1 x.2).1.2.1) ((scanF x.1 x.2).1.2.2.2.1)).1.2.1), ((readB ((scanF x.1 x.2).1.2.1) ((scanF x.1 x.2).1.2.2.2.1)).1.2.2))), rfl, i, b, f, m, p, a, ay, eh, dw, y, ?_, ?_⟩)
     ·exact par_add2 p1 cd p2 za za za za
     assumption
    intro he
    have t := zZ t aj (fun e => dl e)
    have r := zZ r aj (fun e => du e)
    refine nQ (zF (zW (zD (wR (zO 0 r rfl (zOW t (qE wM w.heap.size ao bd ((readB ((scanF x.1 x.2).1.2.1) ((scanF x.1 x.2).1.2.2.2.1)).1.1, (readB ((scanF x.1 x.2).1.2.1) ((scanF x.1 x.2).1.2.2.2.1)).1.2.1, (readB ((scanF x.1 x.2).1.2.1) ((scanF x.1 x.2).1.2.2.2.1)).1.2.2) y.size n zo zk rfl rfl zk rfl zk zk ?_)))))))
    intro ez gp e7 ba eb
    have ef := nr_app eb ad hK
    have dx := ownb_app eb z (yE t)
    have y := y.tg y.size ba n
    replace hk := hk.ch (Ch.of_grown ba) hK (fun k e => ad k e)
    replace hK := Nat.le_trans hK (ba.size)
    have i := zZ i aj (fun e => cs e)
    have i := yO i ba (n.ne i zi)
    have b := zZ b aj (fun e => ci e)
    have b := yO b ba (n.ne b zi)
    have f := zZ f aj (fun e => cc e)
    have f := yO f ba (n.ne f zi)
    have q := yO q ba (n.ne q (by simp [gmObj]))
    have m := zZ m aj (fun e => b6 e)
    have m := yO m ba (n.ne m zi)
    have p := zZ p aj (fun e => co e)
    have p := yO p ba (n.ne p zi)
    have r := yO r ba (n.ne r zi)
    have o := zZ o aj (fun e => dn e)
    have o := yO o ba (n.ne o zi)
    have a := zZ a aj (fun e => bz e)
    have a := yO a ba (n.ne a zi)
    have u := zZ u aj (fun e => ck e)
    have u := yO u ba (n.ne u zi)
    have j := j.grown ba (j.apart n zk)
    have z := dx
    have n := e7
    have ad := ef; clear ef
    refine vE eu 0 ez [ao] [ez] 22 zk zk n.one zk r zi rfl ?_
    intro gr az
    replace hk := hk.ch (Ch.of_wrote az) hK (fun k e h => ed (e ▸ h))
    replace hK := Nat.le_trans hK (Nat.le_of_eq az.size.symm)
    have i := zH i az (zP i r zi)
    have b := zH b az (zP b r zi)
    have f := zH f az (zP f r zi)
    have m := zH m az (zP m r zi)
    have p := zH p az (zP p r zi)
    have o := zH o az (zP o r zi)
    have a := zH a az (zP a r zi)
    have u := zH u az (zP u r zi)
    have n := n.wrote az (n.ne r zi)
    have j := j.wrote az (j.ne r zi)
    have r := az.here
    have y := y.trans (az.below e8)
    refine nQ (zY (zO 0 o rfl (zO 0 u rfl (qE el79 w.heap.size af ca x.1 y.size j zo zk rfl rfl zk rfl zk zk ?_))))
    intro e4 g3 fe bg ee
    have ef := nr_app ee ac hK
    have ek := ownb_app ee aw (yE u)
    have y := y.tg y.size bg j
    replace hk := hk.ch (Ch.of_grown bg) hK (fun k e => ac k e)
    replace hK := Nat.le_trans hK (bg.size)
    have i := yO i bg (j.ne i zi)
    have b := yO b bg (j.ne b zi)
    have f := yO f bg (j.ne f zi)
    have q := zH q az cv
    have q := yO q bg (j.ne q (by simp [gmObj]))
    have m := yO m bg (j.ne m zi)
    have p := yO p bg (j.ne p zi)
    have r := yO r bg (j.ne r zi)
    have o := yO o bg (j.ne o zi)
    have a := yO a bg (j.ne a zi)
    have n := n.grown bg (n.apart j zk)
    have aw := ek
    have j := fe
    have ac := ef; clear ef
    refine vE d1 0 e4 [af] [e4] 79 zk zk j.one zk o zi rfl ?_
    intro gz a9
    replace hk := hk.ch (Ch.of_wrote a9) hK (fun k e h => d3 (e ▸ h))
    replace hK := Nat.le_trans hK (Nat.le_of_eq a9.size.symm)
    have i := zH i a9 (zP i o zi)
    have b := zH b a9 (zP b o zi)
    have f := zH f a9 (zP f o zi)
    have m := zH m a9 (zP m o zi)
    have p := zH p a9 (zP p o zi)
    have r := zH r a9 (zP r o zi)
    have a := zH a a9 (zP a o zi)
    have n := n.wrote a9 (n.ne o zi)
    have j := j.wrote a9 (j.ne o zi)
    have o := a9.here
    refine zS (zL ?_)
    have y := y.trans (a9.below fh)
    have q := zH q a9 cq
    refine wI hk a ⟨(bd ++ [((readB ((scanF x.1 x.2).1.2.1) ((scanF x.1 x.2).1.2.2.2.1)).1.1, (readB ((scanF x.1 x.2).1.2.1) ((scanF x.1 x.2).1.2.2.2.1)).1.2.1, (readB ((scanF x.1 x.2).1.2.1) ((scanF x.1 x.2).1.2.2.2.1)).1.2.2)]), (ca ++ [x.1]), (addM ml (((readB ((scanF x.1 x.2).1.2.1) ((scanF x.1 x.2).1.2.2.2.1)).1.1), ((readB ((scanF x.1 x.2).1.2.1) ((scanF x.1 x.2).1.2.2.2.1)).1.2.1), ((readB ((scanF x.1 x.2).1.2.1) ((scanF x.1 x.2).1.2.2.2.1)).1.2.2))), ez, e4, i, b, f, q, m, p, r, o, a, n, ad, j, ac, y, ?_, ?_, ?_, ?_⟩
    ·exact ParI.add p1 za za za (add_kv p2 za)
    ·exact addM_kv p2 za
    ·(simp only [List.length_append, List.length_cons, List.length_nil]; omega)
    (simp only [List.length_append, List.length_cons, List.length_nil]; omega)
   intro g9
   refine zr .nilIface (zN [(I3 0), (I3 0), (U8 0)] 26 ?_)
   intro fr g8 aq
   have q := zB (zH (zB q ah.below) ak b9) ae
   have a7 := yS (yE q) aq
   have y := ((y.tr ah.below).trans (ak.below db)).tr ae
   have cb := aq.ge y.size
   have bx : ¬ Iv ai.heap.size K fr := fun h => by have := h.2; have := aq.num; omega
   have n := n.below ae
   have z := n.new_ne aq
   replace hk := hk.ch (Ch.of_below aq.below) hK (fun _ h => h.elim)
   replace hK := Nat.le_trans hK (aq.below.size)
   have t := aq.here
   refine wE [(I3 ((readB ((scanF x.1 x.2).1.2.1) ((scanF x.1 x.2).1.2.2.2.1)).1.1)), (I3 ((readB ((scanF x.1 x.2).1.2.1) ((scanF x.1 x.2).1.2.2.2.1)).1.2.1)), (U8 ((readB ((scanF x.1 x.2).1.2.1) ((scanF x.1 x.2).1.2.2.2.1)).1.2.2))] t ?_
   intro hf a8
   replace hk := hk.ch (Ch.of_wrote a8) hK (fun k e h => bx (e ▸ h))
   replace hK := Nat.le_trans hK (Nat.le_of_eq a8.size.symm)
   have i := zB (zB i ae) aq.below
   have i := zH i a8 (zP i t zi)
   have b := zB (zB b ae) aq.below
   have b := zH b a8 (zP b t zi)
   have f := zB (zB f ae) aq.below
   have f := zH f a8 (zP f t zi)
   have m := zB (zB m ae) aq.below
   have m := zH m a8 (zP m t zi)
   have p := zB (zB p ae) aq.below
   have p := zH p a8 (zP p t zi)
   have r := zB (zB r ae) aq.below
   have r := zH r a8 (zP r t zi)
   have o := zB (zB o ae) aq.below
   have o := zH o a8 (zP o t zi)
   have a := zB (zB a ae) aq.below
   have a := zH a a8 (zP a t zi)
   have j := (j.below ae).below aq.below
   have j := j.wrote a8 (j.ne t zi)
   refine zK (zK (nW (wR (zJ (zr (.bool false) (nQ (zF (zW (zD (yC (wR (zJ (qW false (nQ (zT (yU (zV (yI ?_))))))))))))))))))
   have y := (y.tr aq.below).trans (a8.below cb)
   have q := zH (zB q aq.below) a8 a7
   have n := (n.below aq.below).wrote a8 z
   refine wI hk a ⟨bd, ca, ml, ao, af, i, b, f, q, m, p, r, o, a, n, ad, j, ac, y, ?_, ?_, ?_, ?_⟩
   ·exact ParI.skip p1 za za za
   ·exact p2
   ·(simp only [List.length_append, List.length_cons, List.length_nil]; omega)
   exact p4
  skip
  refine zc (c_read_bad ((scanF x.1 x.2).1.1) ((scanF x.1 x.2).1.2.1) ((scanF x.1 x.2).1.2.2.1) d2 ((scanF x.1 x.2).1.2.2.2.1) ((scanF x.1 x.2).1.2.2.2.2) _ au.rd (by exact e9.1) zo (by first | omega | assumption)) ?_
  rintro _ hn ⟨rfl, bn⟩
  replace hk := hk.ch (Ch.of_below bn) hK (fun _ h => h.elim)
  replace hK := Nat.le_trans hK (bn.size)
  refine zJ (zr (Value.agg #[(I3 0), (I3 0), (U8 0)]) (zr (.bool false) (zr (.iface 28 (I6 ((readB ((scanF x.1 x.2).1.2.1) ((scanF x.1 x.2).1.2.2.2.1)).2.2))) (zN [(I3 0), (I3 0), (U8 0)] 26 ?_))))
  intro fl gd ar
  have y := ((y.tr ah.below).trans (ak.below db)).tr bn
  have cb := ar.ge y.size
  have bx : ¬ Iv ai.heap.size K fl := fun h => by have := h.2; have := ar.num; omega
  have n := n.below bn
  have z := n.new_ne ar
  replace hk := hk.ch (Ch.of_below ar.below) hK (fun _ h => h.elim)
  replace hK := Nat.le_trans hK (ar.below.size)
  have t := ar.here
  refine wE [(I3 0), (I3 0), (U8 0)] t ?_
  intro gh bb
  replace hk := hk.ch (Ch.of_wrote bb) hK (fun k e h => bx (e ▸ h))
  replace hK := Nat.le_trans hK (Nat.le_of_eq bb.size.symm)
  have i := zB (zB i bn) ar.below
  have i := zH i bb (zP i t zi)
  have b := zB (zB b bn) ar.below
  have b := zH b bb (zP b t zi)
  have f := zB (zB f bn) ar.below
  have f := zH f bb (zP f t zi)
  have m := zB (zB m bn) ar.below
  have m := zH m bb (zP m t zi)
  have p := zB (zB p bn) ar.below
  have p := zH p bb (zP p t zi)
  have a := zB (zB a bn) ar.below
  have a := zH a bb (zP a t zi)
  have u := zB (zB u bn) ar.below
  have u := zH u bb (zP u t zi)
  have y := (y.tr ar.below).trans (bb.below cb)
  refine zK (zK (nW (wR (zJ (zr (.bool true) (nQ (zT (wR (zJ (zJ (zc (c_code ((readB ((scanF x.1 x.2).1.2.1) ((scanF x.1 x.2).1.2.2.2.1)).2.2) _ (wU hty y)) ?_)))))))))))
  rintro _ gi ⟨rfl, bc⟩
  replace hk := hk.ch (Ch.of_below bc) hK (fun _ h => h.elim)
  replace hK := Nat.le_trans hK (bc.size)
  refine L_inline 38 [(I6 ((readB ((scanF x.1 x.2).1.2.1) ((scanF x.1 x.2).1.2.2.2.1)).2.2)), (pt b1 0), (pt em 0)] zk zk (wO 11 func38 rfl ?_)
  have i := zB i bc
  have u := zB u bc
  refine wR (zK (nR (zO 0 i rfl (zO 0 u rfl (zJ (zr (Value.agg #[(S file), (I6 x.1), (I6 ((readB ((scanF x.1 x.2).1.2.1) ((scanF x.1 x.2).1.2.2.2.1)).2.2))]) (zN [(S file), (I6 x.1), (I6 ((readB ((scanF x.1 x.2).1.2.1) ((scanF x.1 x.2).1.2.2.2.1)).2.2))] 85 ?_)))))))
  intro cm gg av
  have y := y.tr bc
  have d8 := av.ge y.size
  have d0 : ¬ Iv ai.heap.size K cm := fun h => by have := h.2; have := av.num; omega
  replace hk := hk.ch (Ch.of_below av.below) hK (fun _ h => h.elim)
  replace hK := Nat.le_trans hK (av.below.size)
  have a2 := av.here
  refine zr (.iface 83 (pt cm 0)) (zK (nQ (yA (yK [(.iface 83 (pt cm 0))] ?_))))
  show L _ _ _ _ _ _ (Fm.put _ _ (.iface 83 (pt cm 0))) _
  have b := zB (zB b bc) av.below
  refine z1 0 (.pointer none) [(.pointer none)] b ?_
  intro f2 be
  replace hk := hk.ch (Ch.of_wrote be) hK (fun k e h => c5 (e ▸ h))
  replace hK := Nat.le_trans hK (Nat.le_of_eq be.size.symm)
  have i := zB i av.below
  have i := zH i be (zP i b zi)
  have f := zB (zB f bc) av.below
  have f := zH f be (zP f b zi)
  have m := zB (zB m bc) av.below
  have m := zH m be (zP m b zi)
  have a := zB (zB a bc) av.below
  have a := zH a be (zP a b zi)
  have a2 := zH a2 be (zP a2 b zi)
  have b := be.here
  refine z1 0 (.iface 83 (pt cm 0)) [(.iface 83 (pt cm 0))] f ?_
  intro f1 bf
  replace hk := hk.ch (Ch.of_wrote bf) hK (fun k e h => c7 (e ▸ h))
  replace hK := Nat.le_trans hK (Nat.le_of_eq bf.size.symm)
  have i := zH i bf (zP i f zi)
  have b := zH b bf (zP b f zi)
  have m := zH m bf (zP m f zi)
  have p := zH (zB (zB p bc) av.below) be b3
  have p := zH p bf (zP p f zi)
  have a := zH a bf (zP a f zi)
  have a2 := zH a2 bf (zP a2 f zi)
  have f := bf.here
  refine nQ (yA (zI (zR ?_)))
  have y := ((y.tr av.below).trans (be.below dk)).trans (bf.below dh)
  refine round_ret hk (⟨cm, x.1, ((readB ((scanF x.1 x.2).1.2.1) ((scanF x.1 x.2).1.2.2.2.1)).2.2), rfl, i, b, f, m, p, a, a2, d8, d0, y, ?_, ?_⟩)
  ·exact par_read p1 cd za za
  assumption
 ·intro K A hi fp aa
  obtain ⟨bd, ca, ml, ao, af, i, b, f, q, m, p, r, o, a, n, ad, j, ac, y, p1, p2, p3, p4⟩ := hi
  refine zL (zD (yC (wR (zO 0 r rfl (zO 0 p rfl (zr (.func (.func 30) #[(pt ce 0)] #[]) (zc (c_idx ao bd ce c6 ml (.map none) [] _ n.rd m (GmAt.of q) (.inl ⟨rfl, rfl⟩) (by (have := told_len text; omega))) ?_)))))))
  rintro _ f7 ⟨rfl, a3⟩
  refine zK (nR (zJ (zGe .i64 (idxL ml bd) 0 ?_ ?_)))
  ·intro f3
   have ho := idxL_bd ml bd
   refine nQ (zT (yC (W_heldJ 9 10 zk zk zk ?_)))
   intro f0 a4
   refine ⟨fun w => (w.heap[b1]? = some (.cells [(S file)].toArray 9 (0, 0))) ∧ (w.heap[d1]? = some (.cells [af].toArray 79 (0, 0))) ∧ (Rd w encInt af ca), ?_⟩
   have i := zB (zB i a3) a4
   have o := zB (zB o a3) a4
   have j := (j.below a3).below a4
   refine jt 0 [0, 5, 6, 7, 9] rfl (S file) ⟨i, o, j.rd⟩ (yQ b1 0 (S file) zk zf (fun w2 h2 => zQ h2.1 rfl)) (hq := (zA (zA yY))) (jt 1 [1, 3, 4, 5, 6, 7, 9] rfl af ⟨i, o, j.rd⟩ (yQ d1 0 af zk zf (fun w2 h2 => zQ h2.2.1 rfl)) (hq := (zA (zA yY))) (jp 2 [2, 3, 4, 5, 6, 7, 9] rfl (I6 (idxL ml bd)) ⟨i, o, j.rd⟩ (hq := (zA (zA yY))) ?_))
   have hz := yB ca ((idxL ml bd).toNat) (by first | omega | assumption); obtain ⟨dm, d7⟩ := hz
   have hz := (j.rd).at (k := 1) zj d7; obtain ⟨d9, da, ej, ft⟩ := hz
   refine jt 3 [3, 4, 5, 6, 7, 9] rfl (pt d9 (da + ((idxL ml bd).toNat) * 1)) ⟨i, o, j.rd⟩ (R_ixaddrZ (k := .i64) af (idxL ml bd) ((idxL ml bd).toNat) _ d9 da zo el79 ej (by first | omega | assumption) zk zk) (hq := (zA (zA yY))) (jt 4 [4, 5, 6, 7, 9] rfl (I6 dm) ⟨i, o, j.rd⟩ (yQ d9 (da + ((idxL ml bd).toNat) * 1) (I6 dm) zk zf (fun w2 h2 => Rd.later (k := 1) h2.2.2 zj ej d7 0 _ rfl)) (hq := (zA (zA yY))) (jp 5 [5, 6, 7, 9] rfl (Value.agg #[(S file), (I6 dm), (I6 82)]) ⟨i, o, j.rd⟩ (hq := (zA (zA yY))) (hrun := fun _ _ => zk) ?_))
   refine J_all2 6 8 zk ?_ ?_
   ·skip
    refine wY 6 rfl ?_ rfl
    refine zN [(S file), (I6 dm), (I6 82)] 85 ?_
    intro cz f4 bj
    have y := (y.tr a3).tr a4
    have dp := bj.ge y.size
    have ag := bj.here
    refine zS ?_
    have i := zB i bj.below
    have o := zB o bj.below
    have j := j.below bj.below
    refine ⟨rfl, .inr ⟨i, o, j.rd⟩, jp 7 [7, 9] rfl (.iface 83 (pt cz 0)) ⟨i, o, j.rd⟩ (hq := (zA (zA yY))) (wF 8 zk (wY 8 rfl ?_ rfl))⟩
    have b := zB (zB (zB b a3) a4) bj.below
    refine z1 0 (.pointer none) [(.pointer none)] b ?_
    intro f9 bo
    have i := zH i bo (zP i b zi)
    have f := zB (zB (zB f a3) a4) bj.below
    have f := zH f bo (zP f b zi)
    have o := zH o bo (zP o b zi)
    have aa := zB (zB (zB aa a3) a4) bj.below
    have aa := zH aa bo (zP aa b zi)
    have ag := zH ag bo (zP ag b zi)
    have j := j.wrote bo (j.ne b zi)
    have b := bo.here
    refine zS ?_
    refine ⟨rfl, .inr ⟨i, o, j.rd⟩, wF 9 zk (wY 9 rfl ?_ rfl)⟩
    refine z1 0 (.iface 83 (pt cz 0)) [(.iface 83 (pt cz 0))] f ?_
    intro gk cn
    have b := zH b cn (zP b f zi)
    have aa := zH aa cn (zP aa f zi)
    have ag := zH ag cn (zP ag f zi)
    have f := cn.here
    refine zS ?_
    refine ⟨rfl, .inl rfl, vQ zk (zD (yA (zI (wN (ds := [⟨.collected ai.heap.size, #[]⟩]) zk (wH aa ?_)))))⟩
    intro e6 c8
    have b := zH b c8 (zP b aa zi)
    have f := zH f c8 (zP f aa zi)
    have ag := zH ag c8 (zP ag aa zi)
    refine vI [.cell 4 27, .cell 5 39] [(.pointer none), (.iface 83 (pt cz 0))] rfl ⟨⟨⟨b4, 0, none⟩, zk, wJ zk (zQ b rfl)⟩, ⟨⟨b7, 0, none⟩, zk, wJ zk (zQ f rfl)⟩, trivial⟩ ?_
    have oE : e6.heap[cz]? = some (.cells [(S file), (I6 ((parF text).2.1)), (I6 ((parF text).2.2))].toArray 85 (0, 0)) := by (rw [par_lone3 p1 p2 za za]; exact ag)
    have y := (((y.tr bj.below).trans (bo.below dk)).trans (cn.below dh)).trans (c8.below c1)
    exact ⟨cz, rfl, oE, dp, y⟩
   skip
   refine wY 8 rfl ?_ rfl
   have b := zB (zB b a3) a4
   refine z1 0 (.pointer none) [(.pointer none)] b ?_
   intro f8 bw
   have i := zH i bw (zP i b zi)
   have f := zB (zB f a3) a4
   have f := zH f bw (zP f b zi)
   have o := zH o bw (zP o b zi)
   have aa := zB (zB aa a3) a4
   have aa := zH aa bw (zP aa b zi)
   have j := j.wrote bw (j.ne b zi)
   have b := bw.here
   refine zS ?_
   refine ⟨rfl, .inr ⟨i, o, j.rd⟩, wF 6 zk (wY 6 rfl ?_ rfl)⟩
   refine zN [(S file), (I6 dm), (I6 82)] 85 ?_
   intro cy gf bh
   have y := ((y.tr a3).tr a4).trans (bw.below dk)
   have dp := bh.ge y.size
   have ag := bh.here
   refine zS ?_
   have i := zB i bh.below
   have o := zB o bh.below
   have j := j.below bh.below
   refine ⟨rfl, .inr ⟨i, o, j.rd⟩, jp 7 [7, 9] rfl (.iface 83 (pt cy 0)) ⟨i, o, j.rd⟩ (hq := (zA (zA yY))) (wF 9 zk (wY 9 rfl ?_ rfl))⟩
   have f := zB f bh.below
   refine z1 0 (.iface 83 (pt cy 0)) [(.iface 83 (pt cy 0))] f ?_
   intro gc ct
   have b := zB b bh.below
   have b := zH b ct (zP b f zi)
   have aa := zB aa bh.below
   have aa := zH aa ct (zP aa f zi)
   have ag := zH ag ct (zP ag f zi)
   have f := ct.here
   refine zS ?_
   refine ⟨rfl, .inl rfl, vQ zk (zD (yA (zI (wN (ds := [⟨.collected ai.heap.size, #[]⟩]) zk (wH aa ?_)))))⟩
   intro fd c9
   have b := zH b c9 (zP b aa zi)
   have f := zH f c9 (zP f aa zi)
   have ag := zH ag c9 (zP ag aa zi)
   refine vI [.cell 4 27, .cell 5 39] [(.pointer none), (.iface 83 (pt cy 0))] rfl ⟨⟨⟨b4, 0, none⟩, zk, wJ zk (zQ b rfl)⟩, ⟨⟨b7, 0, none⟩, zk, wJ zk (zQ f rfl)⟩, trivial⟩ ?_
   have oE : fd.heap[cy]? = some (.cells [(S file), (I6 ((parF text).2.1)), (I6 ((parF text).2.2))].toArray 85 (0, 0)) := by (rw [par_lone3 p1 p2 za za]; exact ag)
   have y := ((y.tr bh.below).trans (ct.below dh)).trans (c9.below c1)
   exact ⟨cy, rfl, oE, dp, y⟩
  intro fg
  exfalso; (rw [par_ok2 p1 p2 fg] at hbad; exact hbad rfl)
 intro K c fb x0 A cd hx fp aa
 obtain ⟨dc, ei⟩ : ∃ dc, dc = fb ++ [x0] := ⟨_, rfl⟩
 rw [← ei] at cd; try rw [← ei] at hx
 rcases hx with ⟨bq, no, e, rfl, i, b, f, m, p, a, c0, d4, dq, y, q1, q2⟩
 obtain rfl : no = (parF text).2.1 := by rw [q1]
 obtain rfl : e = (parF text).2.2 := by rw [q1]
 refine yA (zR (zI (wN (ds := [⟨.collected ai.heap.size, #[]⟩]) zk (wH aa ?_))))
 intro fa df
 have b := zH b df (zP b aa zi)
 have f := zH f df (zP f aa zi)
 have c0 := zH c0 df (zP c0 aa zi)
 refine vI [.cell 4 27, .cell 5 39] [(.pointer none), (.iface 83 (pt bq 0))] rfl ⟨⟨⟨b4, 0, none⟩, zk, wJ zk (zQ b rfl)⟩, ⟨⟨b7, 0, none⟩, zk, wJ zk (zQ f rfl)⟩, trivial⟩ ?_
 have oE : fa.heap[bq]? = some (.cells [(S file), (I6 ((parF text).2.1)), (I6 ((parF text).2.2))].toArray 85 (0, 0)) := by exact c0
 have y := y.trans (df.below c1)
 exact ⟨bq, rfl, oE, d4, y⟩
end Go.Proofs.YtddnhlobnembaaaGreatDoor
end

/- === Wcb6 === -/
section
/- Walks, written by my program walk.py out of the specification cb6.py: each theorem says what one function returns and that it leaves memory as it was. -/
namespace Go.Proofs.YtddnhlobnembaaaGreatDoor
open Go Go.RowKit Go.FK _root_.Go.Proofs.Tryz
set_option maxHeartbeats 4000000
set_option maxRecDepth 100000
set_option maxRecDepth 100000
theorem awk_par : parF ([48, 48, 50, 56, 59, 32, 48, 48, 50, 57, 59, 32, 111, 10] : List UInt8) = (([(40, 41, 1)], [1]), 1, 82) := by kernel_rfl
theorem awk_new : newB ([(40, 41, 1), (41, 40, 2)] : List Brk) = none := by kernel_rfl
theorem xV : Elem Tryz.prog 50 52 2 8 := ⟨underlying50, zk, rfl⟩
theorem c_round (w : World) :
  Calls Tryz.prog 27 #[] w (Ret fun v w' => ∃ (q0 : Value), v = q0 ∧ Row w' w.heap.size 26 3 encBrk q0 ([(40, 41, 1), (41, 40, 2)] : List Brk) ∧ Below w.heap.size w w') := by
 refine wO 4 func27 rfl ?_
 have d := Below.refl w.heap.size w
 refine wR (zK (nR (zr (Value.agg #[(I3 40), (I3 41), (U8 1)]) (zr (Value.agg #[(I3 41), (I3 40), (U8 2)]) (zM 2 [(I3 40), (I3 41), (U8 1), (I3 41), (I3 40), (U8 2)] 26 ?_)))))
 intro e f a
 have b := a.ge d.size
 have c : Row f w.heap.size 26 3 encBrk (.slice (some ⟨e, 0, none⟩) 2 2) ([(40, 41, 1), (41, 40, 2)] : List (Int × Int × Int)) := Row.made ([(40, 41, 1), (41, 40, 2)] : List (Int × Int × Int)) a b rfl rfl (by first | decide | (simp; done))
 have d := d.tr a.below
 exact zK (nQ (yA (yK [(.slice (some ⟨e, 0, none⟩) 2 2)] ⟨(.slice (some ⟨e, 0, none⟩) 2 2), rfl, c.cast (by rfl), d⟩)))
theorem c_awake8 (w : World) (hty : w.cell? ⟨0, 0, none⟩ = some (.iface 180 (.agg #[.pointer (some ⟨7, 39, none⟩)]))) :
  Calls Tryz.prog 14 #[] w (Ret fun v w' => v = (.bool true) ∧ Below w.heap.size w w') := by
 refine wO 61 func14 rfl ?_
 have g := Below.refl w.heap.size w
 refine wR (zK (nR (zc (c_round  _ ) ?_)))
 rintro q1 w2 ⟨_, rfl, i, t⟩
 have i := i.base g.size
 refine zc (c_New_ok q1 ([(40, 41, 1), (41, 40, 2)] : List Brk) _ i.rd (by first | omega | decide | (simp; done)) (by exact awk_new)) ?_
 rintro _ r ⟨l, o, rfl, a, h, b, k, y⟩
 have g := g.tr t
 replace h := Nat.le_trans g.size h
 replace k := Nat.le_trans g.size k
 have g := g.tr y
 refine zJ (zr (pt l 0) (zr (I6 0) (zr (I6 0) (zK (zK (zK (nR (zc (calls_as (c_Parse_bad ([102] : List UInt8) ([48, 48, 50, 56, 59, 32, 48, 48, 50, 57, 59, 32, 111, 10] : List UInt8) _ (wU hty g) (by first | omega | decide | (simp; done)) (by (rw [awk_par]; decide))) (zk : _ = fun v w' => ∃ (cb0 : Nat), v = (.tuple #[(.pointer none), (.iface 83 (pt cb0 0))]) ∧ w'.heap[cb0]? = some (.cells [(S [102]), (I6 1), (I6 82)].toArray 85 (0, 0)) ∧ r.heap.size ≤ cb0 ∧ Below r.heap.size r w')) ?_))))))))
 rintro _ w9 ⟨n, rfl, c, f, j⟩
 replace f := Nat.le_trans g.size f
 have a := zB a j
 have b := zB b j
 refine zJ (zr (.pointer none) (zr (.iface 83 (pt n 0)) (zK (zK (nW (wR (zJ (zr (.bool false) (zJ (zw (zJ (zw (zr (.bool false) (xY (zJ (zw (zJ (zw (zr (.bool false) (xY (zJ (zw (zJ (zw (zr (.bool false) (xY (zJ (zw (zJ (zw (zr (.bool false) (xY (nQ (zF (zW (zD (wR (zJ (zc (c_Bracket l o (kv ([(40, 41, 1), (41, 40, 2)] : List Brk)) (.map none) [] 40 _ a (GmAt.of b) (.inl ⟨rfl, rfl⟩)) ?_)))))))))))))))))))))))))))))))))))))))
 rintro _ ad ⟨rfl, e⟩
 refine zJ (zr (I3 ((brkF (kv ([(40, 41, 1), (41, 40, 2)] : List Brk)) 40).1)) (zr (U8 ((brkF (kv ([(40, 41, 1), (41, 40, 2)] : List Brk)) 40).2)) (zK (zK (nR (zJ (qM .i32 ((brkF (kv ([(40, 41, 1), (41, 40, 2)] : List Brk)) 40).1) 41 ?_ ?_)))))))
 ·intro aj
  refine zJ (zw (zJ (zw (qM .u8 ((brkF (kv ([(40, 41, 1), (41, 40, 2)] : List Brk)) 40).2) 1 ?_ ?_))))
  ·intro ab
   have a := zB a e
   have b := zB b e
   refine xS (zJ (zw (zJ (zw (zc (c_Matches l o (kv ([(40, 41, 1), (41, 40, 2)] : List Brk)) (.map none) [] 40 41 _ a (GmAt.of b) (.inl ⟨rfl, rfl⟩)) ?_)))))
   rintro _ ac ⟨rfl, d⟩
   refine yN (mtcF (kv ([(40, 41, 1), (41, 40, 2)] : List Brk)) [] 40 41) ?_ ?_
   ·intro ah
    have a := zB a d
    have b := zB b d
    refine xS (zJ (zw (zJ (zw (zc (c_Write12 l o (kv ([(40, 41, 1), (41, 40, 2)] : List Brk)) (.map none) _ a b (by (simp [kv]; done))) ?_)))))
    rintro _ ai ⟨rfl, m⟩
    have := vH (kv ([(40, 41, 1), (41, 40, 2)] : List Brk))
    refine zw (L_seq (writeB (kv ([(40, 41, 1), (41, 40, 2)] : List Brk))) ([48, 48, 50, 56, 59, 32, 48, 48, 50, 57, 59, 32, 111, 10, 48, 48, 50, 57, 59, 32, 48, 48, 50, 56, 59, 32, 99, 10] : List UInt8) rfl zk zk ?_ ?_)
    ·intro ak
     have c := zB (zB (zB c e) d) m
     refine xS (zJ (zw (zJ (zw (zc (c_Fault_Error n ([102] : List UInt8) 1 82 _ c (by first | omega | decide | (simp; done)) (by first | omega | decide | (simp; done)) (by first | omega | decide | (simp; done))) ?_)))))
     rintro _ af ⟨rfl, p⟩
     refine zw (L_seq (fltD ([102] : List UInt8) 1 82) ([102, 58, 49, 58, 32, 101, 114, 114, 111, 114, 32, 56, 50] : List UInt8) rfl zk zk ?_ ?_)
     ·intro ag
      have g := ((((g.tr j).tr e).tr d).tr m).tr p
      exact xS (zK (nQ (yA (yK [(.bool true)] ⟨rfl, g⟩))))
     intro s
     exfalso; exact s zk
    intro u
    exfalso; exact u zk
   intro aa
   exfalso; exact absurd (aa.symm.trans zk) (by decide : ¬ false = true)
  intro q
  exfalso; exact q zk
 intro z
 exfalso; exact z zk
end Go.Proofs.YtddnhlobnembaaaGreatDoor
end

/- === FKbg === -/
section
/- FKbg: the beginning of a slice that is only read. My own text. -/
namespace Go.FK
open Go Go.RowKit
section
variable {r : Option Nat} {P : Program} {n : Nat} {Q : Post} {s : Fm} {w : World} {ops : Array Oper} {rest : List Oper}
variable {d : Option Tmp} {ty : TypeId} {pos : String} {af : Array Edge}
theorem rd_take {α : Type} {enc : α → List Value} {a a' : Option Addr} {c : Nat} {xs : List α} {m : Nat} (hm : m ≤ xs.length) (hr : Rd w enc (.slice a xs.length c) xs) (ha : 0 < m → a' = a) : Rd w enc (.slice a' m c) (xs.take m) := by
 have hl : (xs.take m).length = m := by rw [List.length_take]; omega
 refine ⟨a', c, by rw [hl], ?_⟩
 rcases Nat.eq_zero_or_pos m with b | b
 ·left; omega
 ·right
  obtain ⟨f, d, hv, hc⟩ := hr
  injection hv with hv1 hv2 hv3
  rcases hc with hc | ⟨g, off, hg, hc⟩
  ·omega
  ·refine ⟨g, off, by rw [ha b, hv1, hg], fun j u hu => hc j u ?_⟩
   have e : xs.flatMap enc = (xs.take m).flatMap enc ++ (xs.drop m).flatMap enc := by rw [← List.flatMap_append, List.take_append_drop]
   rw [e, List.getElem?_append_left (List.getElem?_eq_some_iff.1 hu).1]
   exact hu
theorem L_slrd {α : Type} {X : Operand} {hi : Operand} {T E k bytes : Nat} {enc : α → List Value} (he : Elem P T E k bytes) (v : Value) (xs : List α) (m : Nat) (hrd : Rd w enc v xs) (hcap : CapOk v) (hm : m ≤ xs.length)
  (hX : s.ev n X = v) (hhi : ∃ kk, s.ev n hi = .int kk m)
  (h : ∀ v', Rd w enc v' (xs.take m) → CapOk v' → L r P n ops Q rest (s.put d v') w) : L r P n ops Q (⟨d, .slice T X none (some hi) none, ty, pos, af, none⟩ :: rest) s w := by
 obtain ⟨kk, hhi⟩ := hhi
 obtain ⟨a, c, rfl, hc⟩ := id hrd
 have hcl := hcap a xs.length c rfl
 have hb := sliceB (P := P) (w := w) (len := xs.length) (cap := c) (lo := none) (hi := some (.int kk (m : Nat))) 0 m rfl ⟨kk, rfl⟩ (Nat.zero_le _) (by omega) true
 have hcp : ∀ q : Option Addr, CapOk (.slice q m c) := fun q a' n' c' e => by injection e with _ e2 e3; omega
 cases a with
 | none =>
  refine wC (.slice none m c) w (by simp) ?_ (h _ (rd_take hm hrd fun _ => rfl) (hcp _))
  simp only [execOp, hX, hhi, Instr.sliceAt, Instr.slice, Sem.run_bind, Sem.run_pure, Result.andThen_ok, run_underlying he.ht, Option.map_none, Option.map_some, hb, run_size he, Nat.sub_zero]
  split <;> rfl
 | some p =>
  refine wC (.slice (some (if c = 0 then p else p.add (0 * k))) m c) w (by simp) ?_ (h _ (rd_take hm hrd fun h0 => ?_) (hcp _))
  ·simp only [execOp, hX, hhi, Instr.sliceAt, Instr.slice, Sem.run_bind, Sem.run_pure, Result.andThen_ok, run_underlying he.ht, Option.map_none, Option.map_some, hb, run_size he, Nat.sub_zero]
   split <;> rfl
  ·rw [if_neg (by omega)]
   rcases hc with hc | ⟨g, off, hg, hc⟩
   ·omega
   ·cases hg; rw [qL, Nat.zero_mul, Nat.add_zero]
end
end Go.FK
end

/- === Wrb1 === -/
section
/- Walks, written by my program walk.py out of the specification rb1.py: each theorem says what one function returns and that it leaves memory as it was. -/
namespace Go.Proofs.YtddnhlobnembaaaGreatDoor
open Go Go.RowKit Go.FK _root_.Go.Proofs.Tryz
set_option maxHeartbeats 4000000
set_option maxRecDepth 100000
theorem wB (c : Value) (rows : List (Int × Int × Int)) (r : Int) (w : World) (a : Rd w encBrk c rows) (hl : rows.length ≤ 9223372036854775807) :
  Calls Tryz.prog 32 #[c, (I3 r)] w (Ret fun v w' => v = (.tuple #[(Value.agg #[(I3 ((lookB (kv rows) r).1)), (I3 ((lookB (kv rows) r).2.1)), (U8 ((lookB (kv rows) r).2.2))]), (.bool ((gget (kv rows) r).isSome))]) ∧ Below w.heap.size w w') := by
 refine wO 25 func32 rfl ?_
 have e := Below.refl w.heap.size w
 refine wR (zN [(I3 0), (I3 0), (U8 0)] 26 ?_)
 intro p w2 g
 have j := g.ge e.size
 have b := g.here
 refine zK (nW (wR (zK (nQ (yF ?_)))))
 have e := e.tr g.below
 have a := a.below g.below
 refine xG (fun m s0 w0 => ∃ (i : Nat), (m = rows.length - i) ∧ (s0.ds = []) ∧ ([0, 1, 4, 6].map s0.f = [c, (I3 r), (pt p 0), (N6 i)]) ∧ (Rd w0 encBrk c rows) ∧ (w0.heap[p]? = some (.cells [(I3 0), (I3 0), (U8 0)].toArray 26 (0, 0))) ∧ (Below w.heap.size w w0) ∧ (i ≤ rows.length) ∧ (gget (kv (rows.take i)) r = none)) _ ⟨0, rfl, zk, zk, a, b, e, (Nat.zero_le _), rfl⟩ ?_
 rintro m4 s5 w6 ⟨i, hm, l, q, a, b, e, i1, n⟩
 refine yZ q (yC (wR (zJ (zJ (zln underlying22 (a).len (nLt i ((rows).length) ?_ ?_))))))
 ·intro h7
  refine nQ (zT (zW (zD (yC (yF (wR (zJ (zJ ?_))))))))
  have s := yB rows i zo; obtain ⟨d, o⟩ := s
  refine zE a wM i o 0 rfl fun _ _ => (zJ (qM .i32 d.1 r ?_ ?_))
  ·intro aa
   refine nQ (zT (wR (zJ (zJ (zEA a wM i o [(I3 d.1), (I3 d.2.1), (U8 d.2.2)] rfl fun _ => (wE [(I3 d.1), (I3 d.2.1), (U8 d.2.2)] b ?_))))))
   intro y k
   have b := k.here
   refine zK (nQ (yA (zR (zI (zI (zR (zI (xP [.cell 4 26, .tmp 5] [(Value.agg #[(I3 d.1), (I3 d.2.1), (U8 d.2.2)]), (.bool true)] rfl l ⟨⟨⟨p, 0, none⟩, zk, xL [(I3 d.1), (I3 d.2.1), (U8 d.2.2)] zk zk (xJ b)⟩, zk, trivial⟩ ?_))))))))
   have e := e.trans (k.below j)
   exact ⟨xQ (by (rw [lk_hit (fd_hit n za za)]; done)) (eb (by (rw [is_hit (fd_hit n za za)]; done))), e⟩
  intro t
  refine nQ (zF (zW (zL (zD (zY (zJ (xR i 1 (zK (zS (zD ⟨_, zo, (i + 1), rfl, l, zk, a, b, e, zo, ?_⟩))))))))))
  exact fd_on n za za
 intro u
 refine nQ (zF (yU (zV (zV (yI (zD (wR (zr (Value.agg #[(I3 0), (I3 0), (U8 0)]) (wE [(I3 0), (I3 0), (U8 0)] b ?_)))))))))
 intro z h
 have b := h.here
 refine zK (nQ (yA (xP [.cell 4 26, .tmp 5] [(Value.agg #[(I3 0), (I3 0), (U8 0)]), (.bool false)] rfl l ⟨⟨⟨p, 0, none⟩, zk, xL [(I3 0), (I3 0), (U8 0)] zk zk (xJ b)⟩, zk, trivial⟩ ?_)))
 have e := e.trans (h.below j)
 exact ⟨xQ (by (rw [lk_none (fd_end n zo)]; done)) (eb (by (rw [is_none (fd_end n zo)]; done))), e⟩
theorem c_May8 (xa : Int) (xo : Int) (xs : Int) (w : World) :
  Calls Tryz.prog 62 #[(Value.agg #[(I3 xa), (I3 xo), (U8 xs)])] w (Ret fun v w' => v = (.bool (mayR (xa, xo, xs))) ∧ Below w.heap.size w w') := by
 refine wO 38 func62 rfl ?_
 have b := Below.refl w.heap.size w
 refine wR (zN [(I3 xa), (I3 xo), (U8 xs)] 26 ?_)
 intro d t c
 have e := c.ge b.size
 have a := c.here
 refine zK (nR (zFO 0 a rfl (zGe .i32 xa 0 ?_ ?_)))
 ·intro n
  refine zJ (zw (zr (pt d 0) (zw (zO 0 a rfl (zw (zLe .i32 xa 1114111 ?_ ?_))))))
  ·intro s
   refine xS (zJ (zw (zr (pt d 1) (zw (zO 1 a rfl (zw (zGe .i32 xo 0 ?_ ?_)))))))
   ·intro r
    refine xS (zJ (zw (zr (pt d 1) (zw (zO 1 a rfl (zw (zLe .i32 xo 1114111 ?_ ?_)))))))
    ·intro o
     refine xS (zJ (zw (zr (pt d 0) (zw (zO 0 a rfl (zw (zr (pt d 1) (zw (zO 1 a rfl (zw (zNe .i32 xa xo ?_ ?_)))))))))))
     ·intro q
      refine xS (zJ (zw (zr (pt d 2) (zw (zO 2 a rfl (zw (qM .u8 xs 1 ?_ ?_)))))))
      ·intro p
       have b := b.tr c.below
       exact zw (zJ (zs (zs (zs (zw (xS (xS (zK (nQ (yA (yK [(.bool true)] ⟨eb (by exact mayr_y zo), b⟩)))))))))))
      intro l
      refine zw (zJ (zw (zr (pt d 2) (zw (zO 2 a rfl (zw (qM .u8 xs 2 ?_ ?_)))))))
      ·intro i
       have b := b.tr c.below
       exact zw (xY (xS (zK (nQ (yA (yK [(.bool true)] ⟨eb (by exact mayr_y zo), b⟩))))))
      intro g
      have b := b.tr c.below
      exact zw (xY (xS (zK (nQ (yA (yK [(.bool false)] ⟨eb (by exact mayr_n zo), b⟩))))))
     intro j
     have b := b.tr c.below
     exact xS (zJ (zs (zs (zs (zs (zs (zs (zs (zs (xY (zK (nQ (yA (yK [(.bool false)] ⟨eb (by exact mayr_n zo), b⟩))))))))))))))
    intro m
    have b := b.tr c.below
    exact xS (zJ (zs (zs (zs (zs (zs (xY (zJ (zs (zs (zs (zs (zs (zs (zs (zs (xY (zK (nQ (yA (yK [(.bool false)] ⟨eb (by exact mayr_n zo), b⟩)))))))))))))))))))))
   intro h
   have b := b.tr c.below
   exact xS (zJ (zs (zs (zs (xY (zJ (zs (zs (zs (zs (zs (xY (zJ (zs (zs (zs (zs (zs (zs (zs (zs (xY (zK (nQ (yA (yK [(.bool false)] ⟨eb (by exact mayr_n zo), b⟩))))))))))))))))))))))))))
  intro k
  have b := b.tr c.below
  exact xS (zJ (zs (zs (zs (xY (zJ (zs (zs (zs (xY (zJ (zs (zs (zs (zs (zs (xY (zJ (zs (zs (zs (zs (zs (zs (zs (zs (xY (zK (nQ (yA (yK [(.bool false)] ⟨eb (by exact mayr_n zo), b⟩)))))))))))))))))))))))))))))))
 intro f
 have b := b.tr c.below
 exact zJ (zs (zs (zs (xY (zJ (zs (zs (zs (xY (zJ (zs (zs (zs (xY (zJ (zs (zs (zs (zs (zs (xY (zJ (zs (zs (zs (zs (zs (zs (zs (zs (xY (zK (nQ (yA (yK [(.bool false)] ⟨eb (by exact mayr_n zo), b⟩)))))))))))))))))))))))))))))))))))
theorem c_First8 (g : Value) (rows : List (Int × Int × Int)) (w : World) (a : Rd w encBrk g rows) (hcap : CapOk g) (hl : rows.length ≤ 9223372036854775807) :
  Calls Tryz.prog 31 #[g] w (Ret fun v w' => v = (.tuple #[(N6 (fsI rows)), (I6 (fsE rows))]) ∧ Below w.heap.size w w') := by
 refine wO 34 func31 rfl ?_
 have c := Below.refl w.heap.size w
 have b := a
 refine wR (zK (zK (nW (wR (zK (nQ (yF (xG (fun m s0 w0 => ∃ (i : Nat), (m = rows.length - i) ∧ (s0.ds = []) ∧ ([0, 4].map s0.f = [g, (N6 i)]) ∧ (Rd w0 encBrk g rows) ∧ (Below w.heap.size w w0) ∧ (i ≤ rows.length) ∧ (FstI rows i)) _ ⟨0, rfl, zk, zk, a, c, (Nat.zero_le _), (FstI.zero _)⟩ ?_))))))))
 rintro m1 s2 w3 ⟨i, hm, j, ax, a, c, i1, l⟩
 refine yZ ax (yC (wR (zJ (zJ (zln underlying22 (a).len (nLt i ((rows).length) ?_ ?_))))))
 ·intro h4
  refine nQ (zT (zW (zD (yC (yF (yC (wR (zJ (zJ ?_)))))))))
  have hz := yB rows i zo; obtain ⟨e, af⟩ := hz
  refine zEA a wM i af [(I3 e.1), (I3 e.2.1), (U8 e.2.2)] rfl fun _ => (zc (c_May8 e.1 e.2.1 e.2.2 _ ) ?_)
  rintro _ bb ⟨rfl, ab⟩
  refine yN (mayR (e.1, e.2.1, e.2.2)) ?_ ?_
  ·intro b5
   refine qW true (nQ (zF (zW (zD (yC (xD 13 15 zk zk zk ?_))))))
   intro a7 an
   refine ⟨fun w => (Rd w encBrk g rows), ?_⟩
   have c := (c.tr ab).tr an
   have a := b.below c
   refine mp 0 rfl g (.inr a) zg (hq := (zA (zC (zA (zA (zC (zA zG))))))) (mp 1 rfl (N6 i) (.inr a) zg (hq := (zA (zC (zA (zA (zC (zA zG))))))) (mp 3 rfl g (.inr a) zg (hq := (zA (zC (zA (zA (zC (zA zG))))))) (mp 4 rfl (N6 i) (.inr a) zg (hq := (zA (zC (zA (zA (zC (zA zG))))))) ?_)))
   have hz := (a).at (k := 3) zj af; obtain ⟨z, o, ac, az⟩ := hz
   refine mp 5 rfl (pt z (o + i * 3)) (.inr a) (yJ (k := .i64) g i _ z o wM ac zo zk zk) (hq := (zA (zC (zA (zA (zC (zA zG))))))) (mp 6 rfl (pt z (o + i * 3)) (.inr a) zg (hq := (zA (zC (zA (zA (zC (zA zG))))))) (mt 7 [7, 8, 9, 10, 11, 13, 14] rfl (I3 e.1) a (yQ z (o + i * 3) (I3 e.1) zk zf (fun w2 h2 => Rd.later (k := 3) h2 zj ac af 0 _ rfl)) (hq := (zA (zC (zA (zA (zC (zA zG))))))) ?_))
   refine wG 2 12 zk ?_ ?_
   ·skip
    refine yR 2 rfl ?_ rfl
    refine L_slrd wM g rows i a hcap zo zk ⟨.i64, zk⟩ ?_
    intro ao n aw
    refine zS ?_
    refine ⟨rfl, .inr a, wG 8 12 zk ?_ ?_⟩
    ·skip
     refine yR 8 rfl ?_ rfl
     refine zc (wB ao (List.take i rows) e.1 _ n (by (simp only [List.length_take]; omega))) ?_
     rintro _ bd ⟨rfl, am⟩
     refine zS ?_
     have c := c.tr am
     have a := b.below c
     refine ⟨rfl, .inr a, mp 9 rfl (.tuple #[(Value.agg #[(I3 ((lookB (kv (List.take i rows)) e.1).1)), (I3 ((lookB (kv (List.take i rows)) e.1).2.1)), (U8 ((lookB (kv (List.take i rows)) e.1).2.2))]), (.bool ((gget (kv (List.take i rows)) e.1).isSome))]) (.inr a) zg (hq := (zA (zC (zA (zA (zC (zA zG))))))) (mp 10 rfl (Value.agg #[(I3 ((lookB (kv (List.take i rows)) e.1).1)), (I3 ((lookB (kv (List.take i rows)) e.1).2.1)), (U8 ((lookB (kv (List.take i rows)) e.1).2.2))]) (.inr a) zg (hq := (zA (zC (zA (zA (zC (zA zG))))))) (wG 11 12 zk ?_ ?_))⟩
     ·skip
      refine yR 11 rfl ?_ rfl
      refine zr (.bool ((gget (kv (List.take i rows)) e.1).isSome)) (yN ((gget (kv (List.take i rows)) e.1).isSome) ?_ ?_)
      ·intro bp
       refine zS ?_
       refine ⟨rfl, .inr a, yH 12 zk (yR 12 rfl ?_ rfl)⟩
       refine zN [(I3 0), (I3 0), (U8 0)] 26 ?_
       intro b4 b6 s
       have h := s.ge c.size
       have d := s.here
       refine zS ?_
       have c := c.tr s.below
       have a := b.below c
       refine ⟨rfl, .inr a, yH 13 zk (yR 13 rfl ?_ rfl)⟩
       refine wE [(I3 ((lookB (kv (List.take i rows)) e.1).1)), (I3 ((lookB (kv (List.take i rows)) e.1).2.1)), (U8 ((lookB (kv (List.take i rows)) e.1).2.2))] d ?_
       intro a6 al
       refine zS ?_
       refine ⟨rfl, .inl zk, ?_⟩
       have c := c.trans (al.below h)
       exact mp 14 rfl (.bool true) (.inl zk) zg (hq := (zA (zC (zA (zA (zC (zA zG))))))) (yT zk (zD (wR (zJ (nQ (zT (wR (zJ (zK (zK (nQ (yA (zR (zI (zI (zR (zI (yK [(N6 i), (I6 81)] (hd := j) ⟨xQ (e6 (by (rw [(wW l za za za).1]; done))) (e6 (by (rw [(wW l za za za).2]; done))), c⟩))))))))))))))))))
      intro bv
      refine zS ?_
      refine ⟨rfl, .inr a, yH 12 zk (yR 12 rfl ?_ rfl)⟩
      refine zN [(I3 0), (I3 0), (U8 0)] 26 ?_
      intro bx bj u
      have h := u.ge c.size
      have d := u.here
      refine zS ?_
      have c := c.tr u.below
      have a := b.below c
      refine ⟨rfl, .inr a, yH 13 zk (yR 13 rfl ?_ rfl)⟩
      refine wE [(I3 ((lookB (kv (List.take i rows)) e.1).1)), (I3 ((lookB (kv (List.take i rows)) e.1).2.1)), (U8 ((lookB (kv (List.take i rows)) e.1).2.2))] d ?_
      intro bi ap
      refine zS ?_
      refine ⟨rfl, .inl zk, mp 14 rfl (.bool false) (.inl zk) zg (hq := (zA (zC (zA (zA (zC (zA zG))))))) (yT zk (zD (wR (zJ (nQ (zF (zW (zL (zD (zY (zJ (xR i 1 (zK (zS ?_))))))))))))))⟩
      have c := c.trans (ap.below h)
      have a := b.below c
      exact zD ⟨_, zo, (i + 1), rfl, j, zk, a, c, zo, l.step za za za⟩
     skip
     refine yR 12 rfl ?_ rfl
     refine zN [(I3 0), (I3 0), (U8 0)] 26 ?_
     intro ba a4 t
     have h := t.ge c.size
     have d := t.here
     refine zS ?_
     have c := c.tr t.below
     have a := b.below c
     refine ⟨rfl, .inr a, wG 11 13 zk ?_ ?_⟩
     ·skip
      refine yR 11 rfl ?_ rfl
      refine zr (.bool ((gget (kv (List.take i rows)) e.1).isSome)) (yN ((gget (kv (List.take i rows)) e.1).isSome) ?_ ?_)
      ·intro a8
       refine zS ?_
       refine ⟨rfl, .inr a, yH 13 zk (yR 13 rfl ?_ rfl)⟩
       refine wE [(I3 ((lookB (kv (List.take i rows)) e.1).1)), (I3 ((lookB (kv (List.take i rows)) e.1).2.1)), (U8 ((lookB (kv (List.take i rows)) e.1).2.2))] d ?_
       intro a3 ar
       refine zS ?_
       refine ⟨rfl, .inl zk, ?_⟩
       have c := c.trans (ar.below h)
       exact mp 14 rfl (.bool true) (.inl zk) zg (hq := (zA (zC (zA (zA (zC (zA zG))))))) (yT zk (zD (wR (zJ (nQ (zT (wR (zJ (zK (zK (nQ (yA (zR (zI (zI (zR (zI (yK [(N6 i), (I6 81)] (hd := j) ⟨xQ (e6 (by (rw [(wW l za za za).1]; done))) (e6 (by (rw [(wW l za za za).2]; done))), c⟩))))))))))))))))))
      intro a0
      refine zS ?_
      refine ⟨rfl, .inr a, yH 13 zk (yR 13 rfl ?_ rfl)⟩
      refine wE [(I3 ((lookB (kv (List.take i rows)) e.1).1)), (I3 ((lookB (kv (List.take i rows)) e.1).2.1)), (U8 ((lookB (kv (List.take i rows)) e.1).2.2))] d ?_
      intro bn ah
      refine zS ?_
      refine ⟨rfl, .inl zk, mp 14 rfl (.bool false) (.inl zk) zg (hq := (zA (zC (zA (zA (zC (zA zG))))))) (yT zk (zD (wR (zJ (nQ (zF (zW (zL (zD (zY (zJ (xR i 1 (zK (zS ?_))))))))))))))⟩
      have c := c.trans (ah.below h)
      have a := b.below c
      exact zD ⟨_, zo, (i + 1), rfl, j, zk, a, c, zo, l.step za za za⟩
     skip
     refine yR 13 rfl ?_ rfl
     refine wE [(I3 ((lookB (kv (List.take i rows)) e.1).1)), (I3 ((lookB (kv (List.take i rows)) e.1).2.1)), (U8 ((lookB (kv (List.take i rows)) e.1).2.2))] d ?_
     intro a1 ad
     refine zS ?_
     refine ⟨rfl, .inl zk, yH 11 zk (yR 11 rfl ?_ rfl)⟩
     refine zr (.bool ((gget (kv (List.take i rows)) e.1).isSome)) (yN ((gget (kv (List.take i rows)) e.1).isSome) ?_ ?_)
     ·intro bk
      refine zS ?_
      refine ⟨rfl, .inl zk, ?_⟩
      have c := c.trans (ad.below h)
      exact mp 14 rfl (.bool true) (.inl zk) zg (hq := (zA (zC (zA (zA (zC (zA zG))))))) (yT zk (zD (wR (zJ (nQ (zT (wR (zJ (zK (zK (nQ (yA (zR (zI (zI (zR (zI (yK [(N6 i), (I6 81)] (hd := j) ⟨xQ (e6 (by (rw [(wW l za za za).1]; done))) (e6 (by (rw [(wW l za za za).2]; done))), c⟩))))))))))))))))))
     intro b0
     refine zS ?_
     refine ⟨rfl, .inl zk, mp 14 rfl (.bool false) (.inl zk) zg (hq := (zA (zC (zA (zA (zC (zA zG))))))) (yT zk (zD (wR (zJ (nQ (zF (zW (zL (zD (zY (zJ (xR i 1 (zK (zS ?_))))))))))))))⟩
     have c := c.trans (ad.below h)
     have a := b.below c
     exact zD ⟨_, zo, (i + 1), rfl, j, zk, a, c, zo, l.step za za za⟩
    skip
    refine yR 12 rfl ?_ rfl
    refine zN [(I3 0), (I3 0), (U8 0)] 26 ?_
    intro a5 b2 r
    have h := r.ge c.size
    have d := r.here
    refine zS ?_
    have c := c.tr r.below
    have a := b.below c
    refine ⟨rfl, .inr a, yH 8 zk (yR 8 rfl ?_ rfl)⟩
    have n := n.below r.below
    refine zc (wB ao (List.take i rows) e.1 _ n (by (simp only [List.length_take]; omega))) ?_
    rintro _ b7 ⟨rfl, q⟩
    refine zS ?_
    have c := c.tr q
    have a := b.below c
    refine ⟨rfl, .inr a, mp 9 rfl (.tuple #[(Value.agg #[(I3 ((lookB (kv (List.take i rows)) e.1).1)), (I3 ((lookB (kv (List.take i rows)) e.1).2.1)), (U8 ((lookB (kv (List.take i rows)) e.1).2.2))]), (.bool ((gget (kv (List.take i rows)) e.1).isSome))]) (.inr a) zg (hq := (zA (zC (zA (zA (zC (zA zG))))))) (mp 10 rfl (Value.agg #[(I3 ((lookB (kv (List.take i rows)) e.1).1)), (I3 ((lookB (kv (List.take i rows)) e.1).2.1)), (U8 ((lookB (kv (List.take i rows)) e.1).2.2))]) (.inr a) zg (hq := (zA (zC (zA (zA (zC (zA zG))))))) (wG 11 13 zk ?_ ?_))⟩
    ·skip
     refine yR 11 rfl ?_ rfl
     refine zr (.bool ((gget (kv (List.take i rows)) e.1).isSome)) (yN ((gget (kv (List.take i rows)) e.1).isSome) ?_ ?_)
     ·intro bt
      refine zS ?_
      refine ⟨rfl, .inr a, yH 13 zk (yR 13 rfl ?_ rfl)⟩
      have d := zB d q
      refine wE [(I3 ((lookB (kv (List.take i rows)) e.1).1)), (I3 ((lookB (kv (List.take i rows)) e.1).2.1)), (U8 ((lookB (kv (List.take i rows)) e.1).2.2))] d ?_
      intro bw aq
      refine zS ?_
      refine ⟨rfl, .inl zk, ?_⟩
      have c := c.trans (aq.below h)
      exact mp 14 rfl (.bool true) (.inl zk) zg (hq := (zA (zC (zA (zA (zC (zA zG))))))) (yT zk (zD (wR (zJ (nQ (zT (wR (zJ (zK (zK (nQ (yA (zR (zI (zI (zR (zI (yK [(N6 i), (I6 81)] (hd := j) ⟨xQ (e6 (by (rw [(wW l za za za).1]; done))) (e6 (by (rw [(wW l za za za).2]; done))), c⟩))))))))))))))))))
     intro bg
     refine zS ?_
     refine ⟨rfl, .inr a, yH 13 zk (yR 13 rfl ?_ rfl)⟩
     have d := zB d q
     refine wE [(I3 ((lookB (kv (List.take i rows)) e.1).1)), (I3 ((lookB (kv (List.take i rows)) e.1).2.1)), (U8 ((lookB (kv (List.take i rows)) e.1).2.2))] d ?_
     intro bq ai
     refine zS ?_
     refine ⟨rfl, .inl zk, mp 14 rfl (.bool false) (.inl zk) zg (hq := (zA (zC (zA (zA (zC (zA zG))))))) (yT zk (zD (wR (zJ (nQ (zF (zW (zL (zD (zY (zJ (xR i 1 (zK (zS ?_))))))))))))))⟩
     have c := c.trans (ai.below h)
     have a := b.below c
     exact zD ⟨_, zo, (i + 1), rfl, j, zk, a, c, zo, l.step za za za⟩
    skip
    refine yR 13 rfl ?_ rfl
    have d := zB d q
    refine wE [(I3 ((lookB (kv (List.take i rows)) e.1).1)), (I3 ((lookB (kv (List.take i rows)) e.1).2.1)), (U8 ((lookB (kv (List.take i rows)) e.1).2.2))] d ?_
    intro b3 ae
    refine zS ?_
    refine ⟨rfl, .inl zk, yH 11 zk (yR 11 rfl ?_ rfl)⟩
    refine zr (.bool ((gget (kv (List.take i rows)) e.1).isSome)) (yN ((gget (kv (List.take i rows)) e.1).isSome) ?_ ?_)
    ·intro bh
     refine zS ?_
     refine ⟨rfl, .inl zk, ?_⟩
     have c := c.trans (ae.below h)
     exact mp 14 rfl (.bool true) (.inl zk) zg (hq := (zA (zC (zA (zA (zC (zA zG))))))) (yT zk (zD (wR (zJ (nQ (zT (wR (zJ (zK (zK (nQ (yA (zR (zI (zI (zR (zI (yK [(N6 i), (I6 81)] (hd := j) ⟨xQ (e6 (by (rw [(wW l za za za).1]; done))) (e6 (by (rw [(wW l za za za).2]; done))), c⟩))))))))))))))))))
    intro bo
    refine zS ?_
    refine ⟨rfl, .inl zk, mp 14 rfl (.bool false) (.inl zk) zg (hq := (zA (zC (zA (zA (zC (zA zG))))))) (yT zk (zD (wR (zJ (nQ (zF (zW (zL (zD (zY (zJ (xR i 1 (zK (zS ?_))))))))))))))⟩
    have c := c.trans (ae.below h)
    have a := b.below c
    exact zD ⟨_, zo, (i + 1), rfl, j, zk, a, c, zo, l.step za za za⟩
   skip
   refine yR 12 rfl ?_ rfl
   refine zN [(I3 0), (I3 0), (U8 0)] 26 ?_
   intro br bf y
   have h := y.ge c.size
   have d := y.here
   refine zS ?_
   have c := c.tr y.below
   have a := b.below c
   refine ⟨rfl, .inr a, yH 2 zk (yR 2 rfl ?_ rfl)⟩
   refine L_slrd wM g rows i a hcap zo zk ⟨.i64, zk⟩ ?_
   intro ay ag av
   refine zS ?_
   refine ⟨rfl, .inr a, yH 8 zk (yR 8 rfl ?_ rfl)⟩
   refine zc (wB ay (List.take i rows) e.1 _ ag (by (simp only [List.length_take]; omega))) ?_
   rintro _ b1 ⟨rfl, p⟩
   refine zS ?_
   have c := c.tr p
   have a := b.below c
   refine ⟨rfl, .inr a, mp 9 rfl (.tuple #[(Value.agg #[(I3 ((lookB (kv (List.take i rows)) e.1).1)), (I3 ((lookB (kv (List.take i rows)) e.1).2.1)), (U8 ((lookB (kv (List.take i rows)) e.1).2.2))]), (.bool ((gget (kv (List.take i rows)) e.1).isSome))]) (.inr a) zg (hq := (zA (zC (zA (zA (zC (zA zG))))))) (mp 10 rfl (Value.agg #[(I3 ((lookB (kv (List.take i rows)) e.1).1)), (I3 ((lookB (kv (List.take i rows)) e.1).2.1)), (U8 ((lookB (kv (List.take i rows)) e.1).2.2))]) (.inr a) zg (hq := (zA (zC (zA (zA (zC (zA zG))))))) (wG 11 13 zk ?_ ?_))⟩
   ·skip
    refine yR 11 rfl ?_ rfl
    refine zr (.bool ((gget (kv (List.take i rows)) e.1).isSome)) (yN ((gget (kv (List.take i rows)) e.1).isSome) ?_ ?_)
    ·intro a2
     refine zS ?_
     refine ⟨rfl, .inr a, yH 13 zk (yR 13 rfl ?_ rfl)⟩
     have d := zB d p
     refine wE [(I3 ((lookB (kv (List.take i rows)) e.1).1)), (I3 ((lookB (kv (List.take i rows)) e.1).2.1)), (U8 ((lookB (kv (List.take i rows)) e.1).2.2))] d ?_
     intro bc ak
     refine zS ?_
     refine ⟨rfl, .inl zk, ?_⟩
     have c := c.trans (ak.below h)
     exact mp 14 rfl (.bool true) (.inl zk) zg (hq := (zA (zC (zA (zA (zC (zA zG))))))) (yT zk (zD (wR (zJ (nQ (zT (wR (zJ (zK (zK (nQ (yA (zR (zI (zI (zR (zI (yK [(N6 i), (I6 81)] (hd := j) ⟨xQ (e6 (by (rw [(wW l za za za).1]; done))) (e6 (by (rw [(wW l za za za).2]; done))), c⟩))))))))))))))))))
    intro bs
    refine zS ?_
    refine ⟨rfl, .inr a, yH 13 zk (yR 13 rfl ?_ rfl)⟩
    have d := zB d p
    refine wE [(I3 ((lookB (kv (List.take i rows)) e.1).1)), (I3 ((lookB (kv (List.take i rows)) e.1).2.1)), (U8 ((lookB (kv (List.take i rows)) e.1).2.2))] d ?_
    intro a9 aj
    refine zS ?_
    refine ⟨rfl, .inl zk, mp 14 rfl (.bool false) (.inl zk) zg (hq := (zA (zC (zA (zA (zC (zA zG))))))) (yT zk (zD (wR (zJ (nQ (zF (zW (zL (zD (zY (zJ (xR i 1 (zK (zS ?_))))))))))))))⟩
    have c := c.trans (aj.below h)
    have a := b.below c
    exact zD ⟨_, zo, (i + 1), rfl, j, zk, a, c, zo, l.step za za za⟩
   skip
   refine yR 13 rfl ?_ rfl
   have d := zB d p
   refine wE [(I3 ((lookB (kv (List.take i rows)) e.1).1)), (I3 ((lookB (kv (List.take i rows)) e.1).2.1)), (U8 ((lookB (kv (List.take i rows)) e.1).2.2))] d ?_
   intro bu aa
   refine zS ?_
   refine ⟨rfl, .inl zk, yH 11 zk (yR 11 rfl ?_ rfl)⟩
   refine zr (.bool ((gget (kv (List.take i rows)) e.1).isSome)) (yN ((gget (kv (List.take i rows)) e.1).isSome) ?_ ?_)
   ·intro be
    refine zS ?_
    refine ⟨rfl, .inl zk, ?_⟩
    have c := c.trans (aa.below h)
    exact mp 14 rfl (.bool true) (.inl zk) zg (hq := (zA (zC (zA (zA (zC (zA zG))))))) (yT zk (zD (wR (zJ (nQ (zT (wR (zJ (zK (zK (nQ (yA (zR (zI (zI (zR (zI (yK [(N6 i), (I6 81)] (hd := j) ⟨xQ (e6 (by (rw [(wW l za za za).1]; done))) (e6 (by (rw [(wW l za za za).2]; done))), c⟩))))))))))))))))))
   intro bm
   refine zS ?_
   refine ⟨rfl, .inl zk, mp 14 rfl (.bool false) (.inl zk) zg (hq := (zA (zC (zA (zA (zC (zA zG))))))) (yT zk (zD (wR (zJ (nQ (zF (zW (zL (zD (zY (zJ (xR i 1 (zK (zS ?_))))))))))))))⟩
   have c := c.trans (aa.below h)
   have a := b.below c
   exact zD ⟨_, zo, (i + 1), rfl, j, zk, a, c, zo, l.step za za za⟩
  intro bz
  have c := c.tr ab
  exact qW false (nQ (zT (wR (zJ (zK (zK (nQ (yA (zI (zR (zI (zI (zR (zI (yK [(N6 i), (I6 80)] (hd := j) ⟨xQ (e6 (by (rw [(fs_bad l za za).1]; done))) (e6 (by (rw [(fs_bad l za za).2]; done))), c⟩)))))))))))))))
 intro bl
 exact nQ (zF (yU (zV (zV (yI (zD (wR (zK (zK (nQ (yA (yK [(I6 0), (I6 0)] (hd := j) ⟨xQ (e6 (by (rw [(fs_all l zo).1]; rfl))) (e6 (by (rw [(fs_all l zo).2]; done))), c⟩))))))))))))
theorem c_New8_bad (c : Value) (rows : List (Int × Int × Int)) (w : World) (b : Rd w encBrk c rows) (hcap : CapOk c) (hl : rows.length ≤ 9223372036854775807) (hbad : newB rows ≠ none) :
  Calls Tryz.prog 11 #[c] w (Ret fun v w' => v = (.tuple #[(.pointer none), (N6 (newI rows)), (I6 (newE rows))]) ∧ Below w.heap.size w w') := by
 refine wO 133 func11 rfl ?_
 have e := Below.refl w.heap.size w
 have d := b
 refine wR (zK (zK (zK (nR (zJ (zc (c_First8 c rows _ b (by first | omega | assumption) (by first | omega | assumption)) ?_))))))
 rintro _ w1 ⟨rfl, ae⟩
 refine zJ (zr (N6 (fsI rows)) (zr (I6 (fsE rows)) (zK (zK (nW (wR (zJ (zNe .i64 (fsE rows) 0 ?_ ?_))))))))
 ·intro h4
  have e := e.tr ae
  exact nQ (zT (wR (zJ (zJ (zK (zK (zK (nQ (yA (zI (yK [(.pointer none), (N6 (fsI rows)), (I6 (fsE rows))] ⟨wK rfl (e6 (by (rw [(fs_new za).1]; done))) (e6 (by (rw [(fs_new za).2]; done))), e⟩)))))))))))
 intro h5
 refine nQ (zF (zW (zD (yC (wR (zK (nQ (yF ?_))))))))
 have e := e.tr ae
 have b := d.below e
 refine xG (fun m s0 w0 => ∃ (i : Nat), (m = rows.length - i) ∧ (s0.ds = []) ∧ ([0, 7].map s0.f = [c, (N6 i)]) ∧ (Rd w0 encBrk c rows) ∧ (Below w.heap.size w w0) ∧ (i ≤ rows.length) ∧ (LonI (kv rows) rows i)) _ ⟨0, rfl, zk, zk, b, e, (Nat.zero_le _), (LonI.zero _ _)⟩ ?_
 rintro m6 s7 w8 ⟨i, hm, q, ao, b, e, i1, t⟩
 refine yZ ao (yC (wR (zJ (zJ (zln underlying22 (b).len (nLt i ((rows).length) ?_ ?_))))))
 ·intro h9
  refine nQ (zT (zW (zD (yC (yF (wR (zJ (zJ (zJ ?_)))))))))
  have hz := yB rows i (by first | omega | assumption); obtain ⟨a, n⟩ := hz
  refine zE b wM i n 1 rfl fun _ _ => (zc (wB c rows a.2.1 _ b (by first | omega | assumption)) ?_)
  rintro _ a0 ⟨rfl, u⟩
  refine zJ (zr (Value.agg #[(I3 ((lookB (kv rows) a.2.1).1)), (I3 ((lookB (kv rows) a.2.1).2.1)), (U8 ((lookB (kv rows) a.2.1).2.2))]) (zr (.bool ((gget (kv rows) a.2.1).isSome)) (yN ((gget (kv rows) a.2.1).isSome) ?_ ?_)))
  ·intro a1
   refine zN [(I3 0), (I3 0), (U8 0)] 26 ?_
   intro r a2 l
   have e := e.tr u
   have o := l.ge e.size
   have g := l.here
   refine wE [(I3 ((lookB (kv rows) a.2.1).1)), (I3 ((lookB (kv rows) a.2.1).2.1)), (U8 ((lookB (kv rows) a.2.1).2.2))] g ?_
   intro a3 s
   have g := s.here
   refine zK (nW (yP zk zk (zU (xF true zk (zU (qw (yD (pt r 1) zf (qw (zX r 1 (I3 ((lookB (kv rows) a.2.1).2.1)) zk zf (zQ g rfl) (qw (zU (qw (zU (qw ?_))))))))))))))
   have e := (e.tr l.below).trans (s.below o)
   have b := d.below e
   have hz := (b).at (k := 3) zj n
   obtain ⟨y, h, ah, ak⟩ := hz
   refine yM (k := .i64) c i _ y h wM ah (by first | omega | assumption) zk zk (qw (yD (pt y (h + i * 3)) zf (qw (zX y (h + i * 3) (I3 a.1) zk zf (ak 0 _ rfl) (qw (xB .i32 ((lookB (kv rows) a.2.1).2.1) a.1 ((lookB (kv rows) a.2.1).2.1 ≠ a.1) rfl (xN ((lookB (kv rows) a.2.1).2.1) a.1) zk zk ?_ ?_))))))
   ·intro ap
    replace ap : (lookB (kv rows) a.2.1).2.1 ≠ a.1 := by omega
    refine qF (zU (qs (qs (qs (qs (qs (qs (qs (qs (qT (yG ?_)))))))))))
    intro av aj
    have e := e.tr aj
    exact zD (zT (wR (zJ (zK (zK (zK (nQ (yA (zR (zI (zI (zR (zI (yK [(.pointer none), (N6 i), (I6 82)] (hd := q) ⟨wK rfl (e6 (by (rw [(vR (fs_lone (by assumption : fsE rows = 0) t za (lone_2 za))).1]; done))) (e6 (by (rw [(vR (fs_lone (by assumption : fsE rows = 0) t za (lone_2 za))).2]; done))), e⟩))))))))))))))
   intro aq
   replace aq : (lookB (kv rows) a.2.1).2.1 = a.1 := by omega
   refine qF (zU (qw (yD (pt r 2) zf (qw (zX r 2 (U8 ((lookB (kv rows) a.2.1).2.2)) zk zf (zQ g rfl) (qw (zU (qw (zU (qw ?_))))))))))
   have hz := (b).at (k := 3) zj n
   obtain ⟨z, j, ad, ai⟩ := hz
   refine yM (k := .i64) c i _ z j wM ad (by first | omega | assumption) zk zk (qw (yD (pt z ((j + i * 3) + 2)) zf (qw (zX z ((j + i * 3) + 2) (U8 a.2.2) zk zf (ai 2 _ rfl) (qw (xB .u8 ((lookB (kv rows) a.2.1).2.2) a.2.2 ((lookB (kv rows) a.2.1).2.2 = a.2.2) rfl (cmp_eq ((lookB (kv rows) a.2.1).2.2) a.2.2) zk zk ?_ ?_))))))
   ·intro al
    replace al : (lookB (kv rows) a.2.1).2.2 = a.2.2 := by omega
    refine qF (yG ?_)
    intro ax aa
    have e := e.tr aa
    exact zD (zT (wR (zJ (zK (zK (zK (nQ (yA (zR (zI (zI (zR (zI (yK [(.pointer none), (N6 i), (I6 82)] (hd := q) ⟨wK rfl (e6 (by (rw [(vR (fs_lone (by assumption : fsE rows = 0) t za (lone_3 za))).1]; done))) (e6 (by (rw [(vR (fs_lone (by assumption : fsE rows = 0) t za (lone_3 za))).2]; done))), e⟩))))))))))))))
   intro am
   replace am : (lookB (kv rows) a.2.1).2.2 ≠ a.2.2 := by omega
   refine qF (yG ?_)
   intro aw ag
   refine zD (zF (zW (zL (zD (zY (zJ (xR i 1 (zK (zS ?_)))))))))
   have e := e.tr ag
   have b := d.below e
   exact zD ⟨_, zo, (i + 1), rfl, q, zk, b, e, zo, t.step za (lone_n za za za)⟩
  intro ar
  refine zN [(I3 0), (I3 0), (U8 0)] 26 ?_
  intro au a4 p
  have e := e.tr u
  have o := p.ge e.size
  have g := p.here
  refine wE [(I3 ((lookB (kv rows) a.2.1).1)), (I3 ((lookB (kv rows) a.2.1).2.1)), (U8 ((lookB (kv rows) a.2.1).2.2))] g ?_
  intro ay ac
  refine zK (nW (yP zk zk (zU (xF false zk (zU (qs (qs (qs (qs (qs (qs (qs (qs (qT (zU (qs (qs (qs (qs (qs (qs (qs (qs (qT (yG ?_)))))))))))))))))))))))))
  intro az af
  have e := ((e.tr p.below).trans (ac.below o)).tr af
  exact zD (zT (wR (zJ (zK (zK (zK (nQ (yA (zR (zI (zI (zR (zI (yK [(.pointer none), (N6 i), (I6 82)] (hd := q) ⟨wK rfl (e6 (by (rw [(vR (fs_lone (by assumption : fsE rows = 0) t za (lone_1 za))).1]; done))) (e6 (by (rw [(vR (fs_lone (by assumption : fsE rows = 0) t za (lone_1 za))).2]; done))), e⟩))))))))))))))
 intro an
 exfalso; exact hbad (fs_fine (by assumption : fsE rows = 0) t an)
theorem c_New8_ok (g : Value) (rows : List (Int × Int × Int)) (w : World) (b : Rd w encBrk g rows) (hcap : CapOk g) (hl : rows.length ≤ 1114112) (hok : newB rows = none) :
  Calls Tryz.prog 11 #[g] w (Ret fun v w' => ∃ (q0 : Value) (q1 : Value) (cb0 : Nat), v = (.tuple #[(pt cb0 0), (I6 0), (I6 0)]) ∧ Row w' w.heap.size 26 3 encBrk q0 (rowsB (kv rows)) ∧ Row w' w.heap.size 52 2 encTw q1 ([] : List (Int × Int)) ∧ w'.heap[cb0]? = some (.cells [q0, q1].toArray 78 (0, 0)) ∧ w.heap.size ≤ cb0 ∧ Below w.heap.size w w') := by
 refine wO 133 func11 rfl ?_
 have p := Below.refl w.heap.size w
 have j := b
 refine wR (zK (zK (zK (nR (zJ (zc (c_First8 g rows _ b (by first | omega | assumption) (by first | omega | assumption)) ?_))))))
 rintro _ w1 ⟨rfl, c2⟩
 refine zJ (zr (N6 (fsI rows)) (zr (I6 (fsE rows)) (zK (zK (nW (wR (zJ (zNe .i64 (fsE rows) 0 ?_ ?_))))))))
 ·intro h4
  exfalso; exact ins_dead hok (fs_some h4)
 intro h5
 refine nQ (zF (zW (zD (yC (wR (zK (nQ (yF ?_))))))))
 have p := p.tr c2
 have b := j.below p
 refine xG (fun m s0 w0 => ∃ (i : Nat), (m = rows.length - i) ∧ (s0.ds = []) ∧ ([0, 7].map s0.f = [g, (N6 i)]) ∧ (Rd w0 encBrk g rows) ∧ (Below w.heap.size w w0) ∧ (i ≤ rows.length) ∧ (LonI (kv rows) rows i)) _ ⟨0, rfl, zk, zk, b, p, (Nat.zero_le _), (LonI.zero _ _)⟩ ?_
 rintro m6 s7 w8 ⟨i, hm, ab, bj, b, p, i1, i2⟩
 refine yZ bj (yC (wR (zJ (zJ (zln underlying22 (b).len (nLt i ((rows).length) ?_ ?_))))))
 ·intro h9
  refine nQ (zT (zW (zD (yC (yF (wR (zJ (zJ (zJ ?_)))))))))
  have u := yB rows i (by first | omega | assumption); obtain ⟨n, bb⟩ := u
  refine zE b wM i bb 1 rfl fun _ _ => (zc (wB g rows n.2.1 _ b (by first | omega | assumption)) ?_)
  rintro _ d3 ⟨rfl, ck⟩
  refine zJ (zr (Value.agg #[(I3 ((lookB (kv rows) n.2.1).1)), (I3 ((lookB (kv rows) n.2.1).2.1)), (U8 ((lookB (kv rows) n.2.1).2.2))]) (zr (.bool ((gget (kv rows) n.2.1).isSome)) (yN ((gget (kv rows) n.2.1).isSome) ?_ ?_)))
  ·intro dq
   refine zN [(I3 0), (I3 0), (U8 0)] 26 ?_
   intro bn dw a2
   have p := p.tr ck
   have cg := a2.ge p.size
   have av := a2.here
   refine wE [(I3 ((lookB (kv rows) n.2.1).1)), (I3 ((lookB (kv rows) n.2.1).2.1)), (U8 ((lookB (kv rows) n.2.1).2.2))] av ?_
   intro dy bs
   have av := bs.here
   refine zK (nW (yP zk zk (zU (xF true zk (zU (qw (yD (pt bn 1) zf (qw (zX bn 1 (I3 ((lookB (kv rows) n.2.1).2.1)) zk zf (zQ av rfl) (qw (zU (qw (zU (qw ?_))))))))))))))
   have p := (p.tr a2.below).trans (bs.below cg)
   have b := j.below p
   have u := (b).at (k := 3) zj bb
   obtain ⟨b0, am, cl, cc⟩ := u
   refine yM (k := .i64) g i _ b0 am wM cl (by first | omega | assumption) zk zk (qw (yD (pt b0 (am + i * 3)) zf (qw (zX b0 (am + i * 3) (I3 n.1) zk zf (cc 0 _ rfl) (qw (xB .i32 ((lookB (kv rows) n.2.1).2.1) n.1 ((lookB (kv rows) n.2.1).2.1 ≠ n.1) rfl (xN ((lookB (kv rows) n.2.1).2.1) n.1) zk zk ?_ ?_))))))
   ·intro ce
    replace ce : (lookB (kv rows) n.2.1).2.1 ≠ n.1 := by omega
    exfalso; exact ins_dead hok (fs_lone (by assumption : fsE rows = 0) i2 za (lone_2 ce))
   intro cx
   replace cx : (lookB (kv rows) n.2.1).2.1 = n.1 := by omega
   refine qF (zU (qw (yD (pt bn 2) zf (qw (zX bn 2 (U8 ((lookB (kv rows) n.2.1).2.2)) zk zf (zQ av rfl) (qw (zU (qw (zU (qw ?_))))))))))
   have u := (b).at (k := 3) zj bb
   obtain ⟨bw, au, cf, cj⟩ := u
   refine yM (k := .i64) g i _ bw au wM cf (by first | omega | assumption) zk zk (qw (yD (pt bw ((au + i * 3) + 2)) zf (qw (zX bw ((au + i * 3) + 2) (U8 n.2.2) zk zf (cj 2 _ rfl) (qw (xB .u8 ((lookB (kv rows) n.2.1).2.2) n.2.2 ((lookB (kv rows) n.2.1).2.2 = n.2.2) rfl (cmp_eq ((lookB (kv rows) n.2.1).2.2) n.2.2) zk zk ?_ ?_))))))
   ·intro cb
    replace cb : (lookB (kv rows) n.2.1).2.2 = n.2.2 := by omega
    exfalso; exact ins_dead hok (fs_lone (by assumption : fsE rows = 0) i2 za (lone_3 cb))
   intro cy
   replace cy : (lookB (kv rows) n.2.1).2.2 ≠ n.2.2 := by omega
   refine qF (yG ?_)
   intro dj cd
   refine zD (zF (zW (zL (zD (zY (zJ (xR i 1 (zK (zS ?_)))))))))
   have p := p.tr cd
   have b := j.below p
   exact zD ⟨_, zo, (i + 1), rfl, ab, zk, b, p, zo, i2.step za (lone_n za za za)⟩
  intro cr
  exfalso; exact ins_dead hok (fs_lone (by assumption : fsE rows = 0) i2 za (lone_1 cr))
 intro dm
 refine nQ (zF (yU (zV (zV (yI (zD (wR (zr (Value.agg #[(.slice none 0 0), (.slice none 0 0)]) (zN [(.slice none 0 0), (.slice none 0 0)] 78 ?_)))))))))
 intro l dp bh
 have bc := bh.ge p.size
 have d := bh.here
 refine zK (nW (wR (zK (nQ (yF ?_)))))
 have p := p.tr bh.below
 have b := j.below p
 refine xG (fun m s0 w0 => ∃ (i : Nat) (al : List Brk) (e : Value), (m = rows.length - i) ∧ (s0.ds = []) ∧ ([0, 10, 11].map s0.f = [g, (pt l 0), (N6 i)]) ∧ (Rd w0 encBrk g rows) ∧ (Row w0 w.heap.size 26 3 encBrk e al) ∧ (w0.heap[l]? = some (.cells [e, (.slice none 0 0)].toArray 78 (0, 0))) ∧ (Below w.heap.size w w0) ∧ (i ≤ rows.length) ∧ (InsI rows i al)) _ ⟨0, [], (.slice none 0 0), rfl, ab, zk, b, Row.nil _ _ _ _ _, d, p, (Nat.zero_le _), (InsI.zero _)⟩ ?_
 rintro dv d5 dk ⟨i, al, e, hm, ab, bj, b, a, d, p, i1, i3⟩
 refine yZ bj ?_
 have d4 := i3.len i1
 refine yC (wR (zJ (zJ (zln underlying22 (b).len (nLt i ((rows).length) ?_ ?_)))))
 ·intro dt
  refine nQ (zT (zW (zD (yC (yF (wR (zJ (zr (pt l 0) (zFO 0 d rfl (zln underlying22 (a.rd).len (zK (nW (xD 13 14 zk zk zk ?_)))))))))))))
  intro dn bd
  refine ⟨fun w => (w.heap[l]? = some (.cells [e, (.slice none 0 0)].toArray 78 (0, 0))) ∧ (Rd w encBrk g rows), ?_⟩
  have p := p.tr bd
  have d := zB d bd
  have b := j.below p
  refine mp 0 rfl (pt l 0) (.inr ⟨d, b⟩) zg (hq := (zA (zC (zA (zA (zC (zA zG))))))) (mp 1 rfl (pt l 0) (.inr ⟨d, b⟩) zg (hq := (zA (zC (zA (zA (zC (zA zG))))))) (mp 2 rfl (pt l 0) (.inr ⟨d, b⟩) zg (hq := (zA (zC (zA (zA (zC (zA zG))))))) (mp 3 rfl (pt l 0) (.inr ⟨d, b⟩) zg (hq := (zA (zC (zA (zA (zC (zA zG))))))) (mt 4 [4, 10, 11, 12, 13] rfl e ⟨d, b⟩ (yQ l 0 e zk zf (fun w2 h2 => zQ h2.1 rfl)) (hq := (zA (zC (zA (zA (zC (zA zG))))))) (mp 5 rfl g (.inr ⟨d, b⟩) zg (hq := (zA (zC (zA (zA (zC (zA zG))))))) (mp 6 rfl (N6 i) (.inr ⟨d, b⟩) zg (hq := (zA (zC (zA (zA (zC (zA zG))))))) ?_))))))
  have u := yB rows i (by first | omega | assumption); obtain ⟨t, br⟩ := u
  have u := (b).at (k := 3) zj br; obtain ⟨b6, ah, bq, c8⟩ := u
  refine mp 7 rfl (pt b6 (ah + i * 3)) (.inr ⟨d, b⟩) (yJ (k := .i64) g i _ b6 ah wM bq (by first | omega | assumption) zk zk) (hq := (zA (zC (zA (zA (zC (zA zG))))))) (mt 8 [8, 9, 10, 11, 12, 13] rfl (Value.agg #[(I3 t.1), (I3 t.2.1), (U8 t.2.2)]) ⟨d, b⟩ (R_loadA b6 (ah + i * 3) [(I3 t.1), (I3 t.2.1), (U8 t.2.2)] zk zf zf (fun w2 h2 => Rd.later (k := 3) h2.2 zj bq br)) (hq := (zA (zC (zA (zA (zC (zA zG))))))) (yH 9 zk ?_))
  refine yR 9 rfl ?_ rfl
  refine zM 1 [(I3 t.1), (I3 t.2.1), (U8 t.2.2)] 26 ?_
  intro az cz z
  have b3 := z.ge p.size
  have a := a.below bd
  have y : Value.ownBlock e = none ∨ Value.ownBlock e ≠ Value.ownBlock (.slice (some ⟨az, 0, none⟩) 1 1) := .inr (a.new_ne z)
  have h := ap_comm y
  have s : Row cz w.heap.size 26 3 encBrk (.slice (some ⟨az, 0, none⟩) 1 1) ([(t.1, t.2.1, t.2.2)] : List (Int × Int × Int)) := Row.made ([(t.1, t.2.1, t.2.2)] : List (Int × Int × Int)) z b3 rfl rfl (by first | decide | (simp; done))
  refine zS ?_
  have p := p.tr z.below
  have d := zB d z.below
  have b := j.below p
  refine ⟨rfl, .inr ⟨d, b⟩, yH 10 zk (yR 10 rfl ?_ rfl)⟩
  have a := a.below z.below
  refine L_appAll wM w.heap.size e (.slice (some ⟨az, 0, none⟩) 1 1) al ([(t.1, t.2.1, t.2.2)] : List (Int × Int × Int)) p.size a s.rd (by (simp only [List.length_append, List.length_cons, List.length_nil]; omega)) zj zj zk zk zk ?_
  intro b1 dx b8 bm b5 
  have aq := ap_app2 s b5 h
  have p := p.tg p.size bm a
  have d := yO d bm (a.ne d zi)
  have s := s.grown bm h
  have h := aq
  have a := b8
  refine zS ?_
  have b := j.below p
  refine ⟨rfl, .inr ⟨d, b⟩, mp 11 rfl (pt l 0) (.inr ⟨d, b⟩) zg (hq := (zA (zC (zA (zA (zC (zA zG))))))) (mp 12 rfl (pt l 0) (.inr ⟨d, b⟩) zg (hq := (zA (zC (zA (zA (zC (zA zG))))))) (yH 13 zk (yR 13 rfl ?_ rfl)))⟩
  refine vE l 0 b1 [e, (.slice none 0 0)] [b1, (.slice none 0 0)] 78 zk zk a.one zk d zi rfl ?_
  intro du ay
  have a := a.wrote ay (a.ne d zi)
  have s := s.wrote ay (s.ne d zi)
  have d := ay.here
  refine zS ?_
  refine ⟨rfl, .inl zk, yT zk (zD (yC (yF ?_)))⟩
  have p := p.trans (ay.below bc)
  have b := j.below p
  refine xG (fun m s0 w0 => ∃ (k : Nat) (c : List Brk) (e : Value), (m = k) ∧ (s0.ds = []) ∧ ([0, 10, 11, 12].map s0.f = [g, (pt l 0), (N6 i), (N6 k)]) ∧ (Rd w0 encBrk g rows) ∧ (Row w0 w.heap.size 26 3 encBrk (.slice (some ⟨az, 0, none⟩) 1 1) ([(t.1, t.2.1, t.2.2)] : List (Int × Int × Int))) ∧ (Row w0 w.heap.size 26 3 encBrk e c) ∧ (w0.heap[l]? = some (.cells [e, (.slice none 0 0)].toArray 78 (0, 0))) ∧ (Value.ownBlock (.slice (some ⟨az, 0, none⟩) 1 1) = none ∨ Value.ownBlock (.slice (some ⟨az, 0, none⟩) 1 1) ≠ Value.ownBlock e) ∧ (Below w.heap.size w w0) ∧ (InsX rows al c i k)) _ ⟨((al).length), (al ++ ([(t.1, t.2.1, t.2.2)] : List (Int × Int × Int))), b1, rfl, ab, zk, b, s, a, d, h, p, (InsX.start za zo)⟩ ?_
  rintro d6 d2 d1 ⟨k, c, e, hm, ab, bj, b, s, a, d, h, p, j1⟩
  refine yZ bj ?_
  have d0 := j1.len
  refine yC (yC (yP zk zk (zU (xB .i64 ((k : Nat) : Int) ((0 : Nat) : Int) (0 < k) rfl (cmpN_gt k 0) zk zk ?_ ?_))))
  ·intro cs
   replace cs : 0 < k := by omega
   refine zU (qw (zU (qw (yD (pt l 0) zf (qw (yD (pt l 0) zf (qw (zX l 0 e zk zf (zQ d rfl) (qw (zU (qw (Lq_subN k 1 zo zo zk zk (qw ?_)))))))))))))
   have u := yB c (k - 1) (by first | omega | assumption); obtain ⟨r, be⟩ := u
   have u := (a.rd).at (k := 3) zj be
   obtain ⟨b4, ak, b7, b9⟩ := u
   refine yM (k := .i64) e (k - 1) _ b4 ak wM b7 (by first | omega | assumption) zk zk (qw (yD (pt b4 (ak + (k - 1) * 3)) zf (qw (zX b4 (ak + (k - 1) * 3) (I3 r.1) zk zf (b9 0 _ rfl) (qw (zU (qw (zU (qw ?_)))))))))
   have u := yB rows i (by first | omega | assumption); obtain ⟨q, a7⟩ := u
   have u := (b).at (k := 3) zj a7
   obtain ⟨bx, ao, ca, ci⟩ := u
   refine yM (k := .i64) g i _ bx ao wM ca (by first | omega | assumption) zk zk (qw (yD (pt bx (ao + i * 3)) zf (qw (zX bx (ao + i * 3) (I3 q.1) zk zf (ci 0 _ rfl) (qw (xB .i32 r.1 q.1 (q.1 < r.1) rfl (cmp_gt r.1 q.1) zk zk ?_ ?_))))))
   ·intro cv
    replace cv : q.1 < r.1 := by omega
    refine qT (yG ?_)
    intro dr aw
    refine zD (zT (zW (zD (yF (yC (xD 14 15 zk zk zk ?_))))))
    intro d7 ax
    refine ⟨fun w => (w.heap[l]? = some (.cells [e, (.slice none 0 0)].toArray 78 (0, 0))) ∧ (Rd w encBrk e c), ?_⟩
    have d := zB (zB d aw) ax
    have a := (a.below aw).below ax
    refine mp 0 rfl (pt l 0) (.inr ⟨d, a.rd⟩) zg (hq := (zA (zC (zA (zC (zA (zC (zA (zA (zC (zA zG))))))))))) (mp 1 rfl (pt l 0) (.inr ⟨d, a.rd⟩) zg (hq := (zA (zC (zA (zC (zA (zC (zA (zA (zC (zA zG))))))))))) (mp 2 rfl (pt l 0) (.inr ⟨d, a.rd⟩) zg (hq := (zA (zC (zA (zC (zA (zC (zA (zA (zC (zA zG))))))))))) (mt 3 [3, 13, 14] rfl e ⟨d, a.rd⟩ (yQ l 0 e zk zf (fun w2 h2 => zQ h2.1 rfl)) (hq := (zA (zC (zA (zC (zA (zC (zA (zA (zC (zA zG))))))))))) (mp 4 rfl (N6 k) (.inr ⟨d, a.rd⟩) zg (hq := (zA (zC (zA (zC (zA (zC (zA (zA (zC (zA zG))))))))))) (mp 5 rfl (pt l 0) (.inr ⟨d, a.rd⟩) zg (hq := (zA (zC (zA (zC (zA (zC (zA (zA (zC (zA zG))))))))))) (mp 6 rfl (pt l 0) (.inr ⟨d, a.rd⟩) zg (hq := (zA (zC (zA (zC (zA (zC (zA (zA (zC (zA zG))))))))))) (mp 7 rfl (pt l 0) (.inr ⟨d, a.rd⟩) zg (hq := (zA (zC (zA (zC (zA (zC (zA (zA (zC (zA zG))))))))))) (mt 8 [8, 11, 12, 13, 14] rfl e ⟨d, a.rd⟩ (yQ l 0 e zk zf (fun w2 h2 => zQ h2.1 rfl)) (hq := (zA (zC (zA (zC (zA (zC (zA (zA (zC (zA zG))))))))))) (mp 9 rfl (N6 k) (.inr ⟨d, a.rd⟩) zg (hq := (zA (zC (zA (zC (zA (zC (zA (zA (zC (zA zG))))))))))) (mp 10 rfl (N6 (k - 1)) (.inr ⟨d, a.rd⟩) (fun w2 _ => RI_subN k 1 (by first | omega | assumption) (by first | omega | assumption) zk zk w2) (hq := (zA (zC (zA (zC (zA (zC (zA (zA (zC (zA zG))))))))))) ?_))))))))))
    have u := (a.rd).at (k := 3) zj be; obtain ⟨bt, ai, bo, dc⟩ := u
    refine mp 11 rfl (pt bt (ai + (k - 1) * 3)) (.inr ⟨d, a.rd⟩) (yJ (k := .i64) e (k - 1) _ bt ai wM bo (by first | omega | assumption) zk zk) (hq := (zA (zC (zA (zC (zA (zC (zA (zA (zC (zA zG))))))))))) (mt 12 [12, 13, 14] rfl (Value.agg #[(I3 r.1), (I3 r.2.1), (U8 r.2.2)]) ⟨d, a.rd⟩ (R_loadA bt (ai + (k - 1) * 3) [(I3 r.1), (I3 r.2.1), (U8 r.2.2)] zk zf zf (fun w2 h2 => Rd.later (k := 3) h2.2 zj bo be)) (hq := (zA (zC (zA (zC (zA (zC (zA (zA (zC (zA zG))))))))))) ?_)
    have u := yB c k (by first | omega | assumption); obtain ⟨dl, bp⟩ := u
    have u := (a.rd).at (k := 3) zj bp; obtain ⟨bz, ad, bg, cu⟩ := u
    refine mp 13 rfl (pt bz (ad + k * 3)) (.inr ⟨d, a.rd⟩) (yJ (k := .i64) e k _ bz ad wM bg (by first | omega | assumption) zk zk) (hq := (zA (zC (zA (zC (zA (zC (zA (zA (zC (zA zG))))))))))) (yH 14 zk (yR 14 rfl ?_ rfl))
    refine qP k bz ad (r.1, r.2.1, r.2.2) [(I3 r.1), (I3 r.2.1), (U8 r.2.2)] a zj (by first | omega | assumption) bg zk zk rfl zk rfl ?_
    intro dd b2 ag
    have p := (p.tr aw).tr ax
    have p := p.tg p.size ag a
    have d := yO d ag (a.ne d zi)
    have a := b2
    have cq : (List.set c k (r.1, r.2.1, r.2.2))[k]? = some (r.1, r.2.1, r.2.2) := xA bp
    refine zS ?_
    refine ⟨rfl, .inl zk, yT zk (zD (zY (zJ (zsb k 1 (zK (zS (zL ?_)))))))⟩
    have b := j.below p
    have s := ((s.below aw).below ax).grown ag h
    exact zD ⟨_, zo, (k - 1), (List.set c k (r.1, r.2.1, r.2.2)), e, rfl, ab, zk, b, s, a, d, h, p, j1.step za zo za zo⟩
   intro ch
   replace ch : r.1 ≤ q.1 := by omega
   refine qT (yG ?_)
   intro c5 aj
   refine zD (zF (yU (zV (zV (yI (zD (xD 10 11 zk zk zk ?_)))))))
   intro di ap
   refine ⟨fun w => (w.heap[l]? = some (.cells [e, (.slice none 0 0)].toArray 78 (0, 0))) ∧ (Rd w encBrk g rows) ∧ (Rd w encBrk e c), ?_⟩
   have p := (p.tr aj).tr ap
   have d := zB (zB d aj) ap
   have b := j.below p
   have a := (a.below aj).below ap
   refine mp 0 rfl (pt l 0) (.inr ⟨d, b, a.rd⟩) zg (hq := (zC (zA (zA (zC (zA zG)))))) (mp 1 rfl (pt l 0) (.inr ⟨d, b, a.rd⟩) zg (hq := (zC (zA (zA (zC (zA zG)))))) (mp 2 rfl (pt l 0) (.inr ⟨d, b, a.rd⟩) zg (hq := (zC (zA (zA (zC (zA zG)))))) (mt 3 [3, 9, 10] rfl e ⟨d, b, a.rd⟩ (yQ l 0 e zk zf (fun w2 h2 => zQ h2.1 rfl)) (hq := (zC (zA (zA (zC (zA zG)))))) (mp 4 rfl (N6 k) (.inr ⟨d, b, a.rd⟩) zg (hq := (zC (zA (zA (zC (zA zG)))))) (mp 5 rfl g (.inr ⟨d, b, a.rd⟩) zg (hq := (zC (zA (zA (zC (zA zG)))))) (mp 6 rfl (N6 i) (.inr ⟨d, b, a.rd⟩) zg (hq := (zC (zA (zA (zC (zA zG)))))) ?_))))))
   have u := (b).at (k := 3) zj a7; obtain ⟨a1, ac, a6, c4⟩ := u
   refine mp 7 rfl (pt a1 (ac + i * 3)) (.inr ⟨d, b, a.rd⟩) (yJ (k := .i64) g i _ a1 ac wM a6 (by first | omega | assumption) zk zk) (hq := (zC (zA (zA (zC (zA zG)))))) (mt 8 [8, 9, 10] rfl (Value.agg #[(I3 q.1), (I3 q.2.1), (U8 q.2.2)]) ⟨d, b, a.rd⟩ (R_loadA a1 (ac + i * 3) [(I3 q.1), (I3 q.2.1), (U8 q.2.2)] zk zf zf (fun w2 h2 => Rd.later (k := 3) h2.2.1 zj a6 a7)) (hq := (zC (zA (zA (zC (zA zG)))))) ?_)
   have u := yB c k (by first | omega | assumption); obtain ⟨c6, bl⟩ := u
   have u := (a.rd).at (k := 3) zj bl; obtain ⟨a4, ae, a8, c0⟩ := u
   refine mp 9 rfl (pt a4 (ae + k * 3)) (.inr ⟨d, b, a.rd⟩) (yJ (k := .i64) e k _ a4 ae wM a8 (by first | omega | assumption) zk zk) (hq := (zC (zA (zA (zC (zA zG)))))) (yH 10 zk (yR 10 rfl ?_ rfl))
   refine qP k a4 ae (q.1, q.2.1, q.2.2) [(I3 q.1), (I3 q.2.1), (U8 q.2.2)] a zj (by first | omega | assumption) a8 zk zk rfl zk rfl ?_
   intro df bv a5
   have p := p.tg p.size a5 a
   have d := yO d a5 (a.ne d zi)
   have a := bv
   have c3 : (List.set c k (q.1, q.2.1, q.2.2))[k]? = some (q.1, q.2.1, q.2.2) := xA bl
   refine zS ?_
   refine ⟨rfl, .inl zk, yT zk (zL (zD (zY (zJ (xR i 1 (zK (zS ?_)))))))⟩
   have b := j.below p
   exact zD ⟨_, zo, (i + 1), (List.set c k (q.1, q.2.1, q.2.2)), e, rfl, ab, zk, b, a, d, p, zo, j1.done i3 za (.inr ⟨_, by assumption, by omega⟩)⟩
  intro cm
  replace cm : k ≤ 0 := by omega
  refine zU (qs (qs (qs (qs (qs (qs (qs (qs (qs (qs (qs (qs (qs (qs (qs (qF (yG ?_)))))))))))))))))
  intro c7 ar
  refine zD (zF (yU (zV (zV (yI (zD (xD 10 11 zk zk zk ?_)))))))
  intro da an
  refine ⟨fun w => (w.heap[l]? = some (.cells [e, (.slice none 0 0)].toArray 78 (0, 0))) ∧ (Rd w encBrk g rows) ∧ (Rd w encBrk e c), ?_⟩
  have p := (p.tr ar).tr an
  have d := zB (zB d ar) an
  have b := j.below p
  have a := (a.below ar).below an
  refine mp 0 rfl (pt l 0) (.inr ⟨d, b, a.rd⟩) zg (hq := (zC (zA (zA (zC (zA zG)))))) (mp 1 rfl (pt l 0) (.inr ⟨d, b, a.rd⟩) zg (hq := (zC (zA (zA (zC (zA zG)))))) (mp 2 rfl (pt l 0) (.inr ⟨d, b, a.rd⟩) zg (hq := (zC (zA (zA (zC (zA zG)))))) (mt 3 [3, 9, 10] rfl e ⟨d, b, a.rd⟩ (yQ l 0 e zk zf (fun w2 h2 => zQ h2.1 rfl)) (hq := (zC (zA (zA (zC (zA zG)))))) (mp 4 rfl (N6 k) (.inr ⟨d, b, a.rd⟩) zg (hq := (zC (zA (zA (zC (zA zG)))))) (mp 5 rfl g (.inr ⟨d, b, a.rd⟩) zg (hq := (zC (zA (zA (zC (zA zG)))))) (mp 6 rfl (N6 i) (.inr ⟨d, b, a.rd⟩) zg (hq := (zC (zA (zA (zC (zA zG)))))) ?_))))))
  have u := yB rows i (by first | omega | assumption); obtain ⟨o, bf⟩ := u
  have u := (b).at (k := 3) zj bf; obtain ⟨bk, af, a0, cw⟩ := u
  refine mp 7 rfl (pt bk (af + i * 3)) (.inr ⟨d, b, a.rd⟩) (yJ (k := .i64) g i _ bk af wM a0 (by first | omega | assumption) zk zk) (hq := (zC (zA (zA (zC (zA zG)))))) (mt 8 [8, 9, 10] rfl (Value.agg #[(I3 o.1), (I3 o.2.1), (U8 o.2.2)]) ⟨d, b, a.rd⟩ (R_loadA bk (af + i * 3) [(I3 o.1), (I3 o.2.1), (U8 o.2.2)] zk zf zf (fun w2 h2 => Rd.later (k := 3) h2.2.1 zj a0 bf)) (hq := (zC (zA (zA (zC (zA zG)))))) ?_)
  have u := yB c k (by first | omega | assumption); obtain ⟨db, bi⟩ := u
  have u := (a.rd).at (k := 3) zj bi; obtain ⟨a9, aa, a3, ct⟩ := u
  refine mp 9 rfl (pt a9 (aa + k * 3)) (.inr ⟨d, b, a.rd⟩) (yJ (k := .i64) e k _ a9 aa wM a3 (by first | omega | assumption) zk zk) (hq := (zC (zA (zA (zC (zA zG)))))) (yH 10 zk (yR 10 rfl ?_ rfl))
  refine qP k a9 aa (o.1, o.2.1, o.2.2) [(I3 o.1), (I3 o.2.1), (U8 o.2.2)] a zj (by first | omega | assumption) a3 zk zk rfl zk rfl ?_
  intro dg bu ba
  have p := p.tg p.size ba a
  have d := yO d ba (a.ne d zi)
  have a := bu
  have c1 : (List.set c k (o.1, o.2.1, o.2.2))[k]? = some (o.1, o.2.1, o.2.2) := xA bi
  refine zS ?_
  refine ⟨rfl, .inl zk, yT zk (zL (zD (zY (zJ (xR i 1 (zK (zS ?_)))))))⟩
  have b := j.below p
  exact zD ⟨_, zo, (i + 1), (List.set c k (o.1, o.2.1, o.2.2)), e, rfl, ab, zk, b, a, d, p, zo, j1.done i3 za (.inl zo)⟩
 intro de
 exact nQ (zF (yU (zV (zV (yI (zD (wR (zJ (zK (zK (zK (nQ (yA (yK [(pt l 0), (I6 0), (I6 0)] (hd := ab) ⟨e, (.slice none 0 0), l, rfl, a.cast (by exact i3.all zo hok), (Row.nil _ _ _ _ _), d, bc, p⟩))))))))))))))
end Go.Proofs.YtddnhlobnembaaaGreatDoor
end
