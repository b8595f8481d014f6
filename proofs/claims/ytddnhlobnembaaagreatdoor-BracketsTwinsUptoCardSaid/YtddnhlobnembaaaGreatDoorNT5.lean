/- Joined by my program pack2.py out of my own texts: Wrb2 Wrb3 Wrb4 Wrb5 PRb3. -/
import Derived.Test.YtddnhlobnembaaaGreatDoorProg
import Derived.Tactics2
import Derived.Test.YtddnhlobnembaaaGreatDoorNT1
import Derived.Test.YtddnhlobnembaaaGreatDoorNT2
import Derived.Test.YtddnhlobnembaaaGreatDoorNT3
import Derived.Test.YtddnhlobnembaaaGreatDoorNT4
set_option linter.unusedVariables false
set_option linter.unusedSimpArgs false
/- === Wrb2 === -/
section
/- Walks, written by my program walk.py out of the specification rb2.py: each theorem says what one function returns and that it leaves memory as it was. -/
namespace Go.Proofs.YtddnhlobnembaaaGreatDoor
open Go Go.RowKit Go.FK _root_.Go.Proofs.Tryz
set_option maxHeartbeats 4000000
set_option maxRecDepth 100000
theorem c_plain8 (r : Int) (w : World) :
  Calls Tryz.prog 63 #[(I3 r)] w (Ret fun v w' => v = (I3 (askB r)) ∧ Below w.heap.size w w') := by
 refine wO 10 func63 rfl ?_
 have a := Below.refl w.heap.size w
 refine wR (zK (nW (wR (zJ (zLt .i32 r 0 ?_ ?_)))))
 ·intro e
  exact zJ (zs (zs (xS (nQ (zT (wR (zK (nQ (yA (zI (yK [(I3 65533)] ⟨e3 (by exact (ask_nn zo).symm), a⟩)))))))))))
 intro c
 refine zJ (zw (zJ (zw (zGt .i32 r 1114111 ?_ ?_))))
 ·intro b
  exact xY (nQ (zT (wR (zK (nQ (yA (zI (yK [(I3 65533)] ⟨e3 (by exact (ask_nn zo).symm), a⟩))))))))
 intro d
 exact xY (nQ (zF (zW (zD (wR (zJ (zK (nQ (yA (yK [(I3 r)] ⟨e3 (by exact (ask_ny zo zo).symm), a⟩))))))))))
theorem c_twin8 (aa : Nat) (s : Value) (ws : List (Int × Int × Int)) (ac : Value) (wt : List (Int × Int)) (u : Value) (l : List (Int × Int)) (r : Int) (w : World) (a : w.heap[aa]? = some (.cells [s, ac].toArray 78 (0, 0))) (e : Rd w encBrk s ws) (j : Rd w encTw ac wt) (b : Rd w encTw u l) (hw : ws.length ≤ 4194304) (hl : l.length ≤ 9223372036854775807) :
  Calls Tryz.prog 56 #[(pt aa 0), u, (I3 r)] w (Ret fun v w' => v = (I3 (twF ws l r)) ∧ Below w.heap.size w w') := by
 refine wO 45 func56 rfl ?_
 have c := Below.refl w.heap.size w
 have d := b
 have h := e
 have o := j
 refine wR (zK (nW (wR (zK (nQ (yF (xG (fun m s0 w0 => ∃ (i : Nat), (m = l.length - i) ∧ (s0.ds = []) ∧ ([0, 1, 2, 7].map s0.f = [(pt aa 0), u, (I3 r), (N6 i)]) ∧ (Rd w0 encTw u l) ∧ (Rd w0 encBrk s ws) ∧ (Rd w0 encTw ac wt) ∧ (w0.heap[aa]? = some (.cells [s, ac].toArray 78 (0, 0))) ∧ (Below w.heap.size w w0) ∧ (i ≤ l.length) ∧ ((l.take i).find? (pT (kv ws) r) = none)) _ ⟨0, rfl, zk, zk, b, e, j, a, c, (Nat.zero_le _), rfl⟩ ?_)))))))
 rintro m1 s2 w3 ⟨i, hm, q, bg, b, e, j, a, c, i1, i2⟩
 refine yZ bg (yC (wR (zJ (zJ (zln underlying50 (b).len (nLt i ((l).length) ?_ ?_))))))
 ·intro h4
  refine nQ (zT (zW (zD (yC (yF (yC (xD 14 16 zk zk zk ?_)))))))
  intro w5 a8
  refine ⟨fun w => (w.heap[aa]? = some (.cells [s, ac].toArray 78 (0, 0))) ∧ (Rd w encTw u l), ?_⟩
  have c := c.tr a8
  have a := zB a a8
  have b := d.below c
  refine mp 0 rfl (pt aa 0) (.inr ⟨a, b⟩) zg (hq := (zA (zC (zA (zA (zC (zA zG))))))) (mp 1 rfl (pt aa 0) (.inr ⟨a, b⟩) zg (hq := (zA (zC (zA (zA (zC (zA zG))))))) (mp 2 rfl (pt aa 0) (.inr ⟨a, b⟩) zg (hq := (zA (zC (zA (zA (zC (zA zG))))))) (mt 3 [3, 9, 10, 11, 12, 14, 15] rfl s ⟨a, b⟩ (yQ aa 0 s zk zf (fun w2 h2 => zQ h2.1 rfl)) (hq := (zA (zC (zA (zA (zC (zA zG))))))) (mp 4 rfl u (.inr ⟨a, b⟩) zg (hq := (zA (zC (zA (zA (zC (zA zG))))))) (mp 5 rfl (N6 i) (.inr ⟨a, b⟩) zg (hq := (zA (zC (zA (zA (zC (zA zG))))))) ?_)))))
  have hz := yB l i zo; obtain ⟨n, t⟩ := hz
  have hz := (b).at (k := 2) zj t; obtain ⟨g9, y, ax, bh⟩ := hz
  refine mp 6 rfl (pt g9 (y + i * 2)) (.inr ⟨a, b⟩) (yJ (k := .i64) u i _ g9 y xV ax zo zk zk) (hq := (zA (zC (zA (zA (zC (zA zG))))))) (mp 7 rfl (pt g9 (y + i * 2)) (.inr ⟨a, b⟩) zg (hq := (zA (zC (zA (zA (zC (zA zG))))))) (mt 8 [8, 9, 10, 11, 12, 14, 15] rfl (I3 n.1) ⟨a, b⟩ (yQ g9 (y + i * 2) (I3 n.1) zk zf (fun w2 h2 => Rd.later (k := 2) h2.2 zj ax t 0 _ rfl)) (hq := (zA (zC (zA (zA (zC (zA zG))))))) ?_))
  refine wG 9 13 zk ?_ ?_
  ·skip
   refine yR 9 rfl ?_ rfl
   have e := h.below c
   refine zc (wB s ws n.1 _ e zo) ?_
   rintro _ bs ⟨rfl, au⟩
   refine zS ?_
   have c := c.tr au
   have a := zB a au
   have b := d.below c
   refine ⟨rfl, .inr ⟨a, b⟩, mp 10 rfl (.tuple #[(Value.agg #[(I3 ((lookB (kv ws) n.1).1)), (I3 ((lookB (kv ws) n.1).2.1)), (U8 ((lookB (kv ws) n.1).2.2))]), (.bool ((gget (kv ws) n.1).isSome))]) (.inr ⟨a, b⟩) zg (hq := (zA (zC (zA (zA (zC (zA zG))))))) (mp 11 rfl (Value.agg #[(I3 ((lookB (kv ws) n.1).1)), (I3 ((lookB (kv ws) n.1).2.1)), (U8 ((lookB (kv ws) n.1).2.2))]) (.inr ⟨a, b⟩) zg (hq := (zA (zC (zA (zA (zC (zA zG))))))) (wG 12 13 zk ?_ ?_))⟩
   ·skip
    refine yR 12 rfl ?_ rfl
    refine zr (.bool ((gget (kv ws) n.1).isSome)) (yN ((gget (kv ws) n.1).isSome) ?_ ?_)
    ·intro ce
     refine zS ?_
     refine ⟨rfl, .inr ⟨a, b⟩, yH 13 zk (yR 13 rfl ?_ rfl)⟩
     refine zN [(I3 0), (I3 0), (U8 0)] 26 ?_
     intro b6 b7 al
     have p := al.ge c.size
     have g := al.here
     refine zS ?_
     have c := c.tr al.below
     have a := zB a al.below
     have b := d.below c
     refine ⟨rfl, .inr ⟨a, b⟩, yH 14 zk (yR 14 rfl ?_ rfl)⟩
     refine wE [(I3 ((lookB (kv ws) n.1).1)), (I3 ((lookB (kv ws) n.1).2.1)), (U8 ((lookB (kv ws) n.1).2.2))] g ?_
     intro bt az
     have a := zH a az (zP a g zi)
     refine zS ?_
     refine ⟨rfl, .inl zk, mp 15 rfl (.bool true) (.inl zk) zg (hq := (zA (zC (zA (zA (zC (zA zG))))))) (yT zk (zD (wR (zJ (zJ (zw (zJ (zw (zJ (zw ?_))))))))))⟩
     have c := c.trans (az.below p)
     have b := d.below c
     have hz := (b).at (k := 2) zj t
     obtain ⟨a3, af, be, a9⟩ := hz
     refine xO (k := .i64) u i _ a3 af xV be zo zk zk (zw (zr (pt a3 (af + i * 2)) (zw (wT a3 (af + i * 2) (I3 n.1) zk zk (a9 0 _ rfl) (zw (zJ (zw (qM .i32 n.1 r ?_ ?_))))))))
     ·intro b2
      exact xS (nQ (zT (wR (zJ (zJ (zE b xV i t 1 rfl fun _ _ => (zK (nQ (yA (zR (zI (zI (zR (zI (yK [(I3 n.2)] (hd := q) ⟨e3 (by exact (tw_hit i2 za za za).symm), c⟩)))))))))))))))
     intro ch
     refine xS (nQ (zF (zW (zL (zD (zY (zJ (xR i 1 (zK (zS ?_))))))))))
     have e := h.below c
     have j := o.below c
     exact zD ⟨_, zo, (i + 1), rfl, q, zk, b, e, j, a, c, zo, tf_on2 i2 za za⟩
    intro cc
    refine zS ?_
    refine ⟨rfl, .inr ⟨a, b⟩, yH 13 zk (yR 13 rfl ?_ rfl)⟩
    refine zN [(I3 0), (I3 0), (U8 0)] 26 ?_
    intro bv bu aj
    have p := aj.ge c.size
    have g := aj.here
    refine zS ?_
    have c := c.tr aj.below
    have a := zB a aj.below
    have b := d.below c
    refine ⟨rfl, .inr ⟨a, b⟩, yH 14 zk (yR 14 rfl ?_ rfl)⟩
    refine wE [(I3 ((lookB (kv ws) n.1).1)), (I3 ((lookB (kv ws) n.1).2.1)), (U8 ((lookB (kv ws) n.1).2.2))] g ?_
    intro cg av
    have a := zH a av (zP a g zi)
    refine zS ?_
    refine ⟨rfl, .inl zk, mp 15 rfl (.bool false) (.inl zk) zg (hq := (zA (zC (zA (zA (zC (zA zG))))))) (yT zk (zD (wR (zJ (zJ (zs (zs (zs (zs (zs (zs (zs (xY (nQ (zF (zW (zL (zD (zY (zJ (xR i 1 (zK (zS ?_)))))))))))))))))))))))⟩
    have c := c.trans (av.below p)
    have b := d.below c
    have e := h.below c
    have j := o.below c
    exact zD ⟨_, zo, (i + 1), rfl, q, zk, b, e, j, a, c, zo, tf_on1 i2 za za⟩
   skip
   refine yR 13 rfl ?_ rfl
   refine zN [(I3 0), (I3 0), (U8 0)] 26 ?_
   intro b4 cd am
   have p := am.ge c.size
   have g := am.here
   refine zS ?_
   have c := c.tr am.below
   have a := zB a am.below
   have b := d.below c
   refine ⟨rfl, .inr ⟨a, b⟩, wG 12 14 zk ?_ ?_⟩
   ·skip
    refine yR 12 rfl ?_ rfl
    refine zr (.bool ((gget (kv ws) n.1).isSome)) (yN ((gget (kv ws) n.1).isSome) ?_ ?_)
    ·intro bw
     refine zS ?_
     refine ⟨rfl, .inr ⟨a, b⟩, yH 14 zk (yR 14 rfl ?_ rfl)⟩
     refine wE [(I3 ((lookB (kv ws) n.1).1)), (I3 ((lookB (kv ws) n.1).2.1)), (U8 ((lookB (kv ws) n.1).2.2))] g ?_
     intro b0 aw
     have a := zH a aw (zP a g zi)
     refine zS ?_
     refine ⟨rfl, .inl zk, mp 15 rfl (.bool true) (.inl zk) zg (hq := (zA (zC (zA (zA (zC (zA zG))))))) (yT zk (zD (wR (zJ (zJ (zw (zJ (zw (zJ (zw ?_))))))))))⟩
     have c := c.trans (aw.below p)
     have b := d.below c
     have hz := (b).at (k := 2) zj t
     obtain ⟨a4, ah, bb, ba⟩ := hz
     refine xO (k := .i64) u i _ a4 ah xV bb zo zk zk (zw (zr (pt a4 (ah + i * 2)) (zw (wT a4 (ah + i * 2) (I3 n.1) zk zk (ba 0 _ rfl) (zw (zJ (zw (qM .i32 n.1 r ?_ ?_))))))))
     ·intro b3
      exact xS (nQ (zT (wR (zJ (zJ (zE b xV i t 1 rfl fun _ _ => (zK (nQ (yA (zR (zI (zI (zR (zI (yK [(I3 n.2)] (hd := q) ⟨e3 (by exact (tw_hit i2 za za za).symm), c⟩)))))))))))))))
     intro b8
     refine xS (nQ (zF (zW (zL (zD (zY (zJ (xR i 1 (zK (zS ?_))))))))))
     have e := h.below c
     have j := o.below c
     exact zD ⟨_, zo, (i + 1), rfl, q, zk, b, e, j, a, c, zo, tf_on2 i2 za za⟩
    intro cl
    refine zS ?_
    refine ⟨rfl, .inr ⟨a, b⟩, yH 14 zk (yR 14 rfl ?_ rfl)⟩
    refine wE [(I3 ((lookB (kv ws) n.1).1)), (I3 ((lookB (kv ws) n.1).2.1)), (U8 ((lookB (kv ws) n.1).2.2))] g ?_
    intro b5 ar
    have a := zH a ar (zP a g zi)
    refine zS ?_
    refine ⟨rfl, .inl zk, mp 15 rfl (.bool false) (.inl zk) zg (hq := (zA (zC (zA (zA (zC (zA zG))))))) (yT zk (zD (wR (zJ (zJ (zs (zs (zs (zs (zs (zs (zs (xY (nQ (zF (zW (zL (zD (zY (zJ (xR i 1 (zK (zS ?_)))))))))))))))))))))))⟩
    have c := c.trans (ar.below p)
    have b := d.below c
    have e := h.below c
    have j := o.below c
    exact zD ⟨_, zo, (i + 1), rfl, q, zk, b, e, j, a, c, zo, tf_on1 i2 za za⟩
   skip
   refine yR 14 rfl ?_ rfl
   refine wE [(I3 ((lookB (kv ws) n.1).1)), (I3 ((lookB (kv ws) n.1).2.1)), (U8 ((lookB (kv ws) n.1).2.2))] g ?_
   intro bx aq
   have a := zH a aq (zP a g zi)
   refine zS ?_
   refine ⟨rfl, .inl zk, yH 12 zk (yR 12 rfl ?_ rfl)⟩
   refine zr (.bool ((gget (kv ws) n.1).isSome)) (yN ((gget (kv ws) n.1).isSome) ?_ ?_)
   ·intro b9
    refine zS ?_
    refine ⟨rfl, .inl zk, mp 15 rfl (.bool true) (.inl zk) zg (hq := (zA (zC (zA (zA (zC (zA zG))))))) (yT zk (zD (wR (zJ (zJ (zw (zJ (zw (zJ (zw ?_))))))))))⟩
    have c := c.trans (aq.below p)
    have b := d.below c
    have hz := (b).at (k := 2) zj t
    obtain ⟨a1, ag, bc, bd⟩ := hz
    refine xO (k := .i64) u i _ a1 ag xV bc zo zk zk (zw (zr (pt a1 (ag + i * 2)) (zw (wT a1 (ag + i * 2) (I3 n.1) zk zk (bd 0 _ rfl) (zw (zJ (zw (qM .i32 n.1 r ?_ ?_))))))))
    ·intro br
     exact xS (nQ (zT (wR (zJ (zJ (zE b xV i t 1 rfl fun _ _ => (zK (nQ (yA (zR (zI (zI (zR (zI (yK [(I3 n.2)] (hd := q) ⟨e3 (by exact (tw_hit i2 za za za).symm), c⟩)))))))))))))))
    intro ca
    refine xS (nQ (zF (zW (zL (zD (zY (zJ (xR i 1 (zK (zS ?_))))))))))
    have e := h.below c
    have j := o.below c
    exact zD ⟨_, zo, (i + 1), rfl, q, zk, b, e, j, a, c, zo, tf_on2 i2 za za⟩
   intro cf
   refine zS ?_
   refine ⟨rfl, .inl zk, mp 15 rfl (.bool false) (.inl zk) zg (hq := (zA (zC (zA (zA (zC (zA zG))))))) (yT zk (zD (wR (zJ (zJ (zs (zs (zs (zs (zs (zs (zs (xY (nQ (zF (zW (zL (zD (zY (zJ (xR i 1 (zK (zS ?_)))))))))))))))))))))))⟩
   have c := c.trans (aq.below p)
   have b := d.below c
   have e := h.below c
   have j := o.below c
   exact zD ⟨_, zo, (i + 1), rfl, q, zk, b, e, j, a, c, zo, tf_on1 i2 za za⟩
  skip
  refine yR 13 rfl ?_ rfl
  refine zN [(I3 0), (I3 0), (U8 0)] 26 ?_
  intro ci ck ak
  have p := ak.ge c.size
  have g := ak.here
  refine zS ?_
  have c := c.tr ak.below
  have a := zB a ak.below
  have b := d.below c
  refine ⟨rfl, .inr ⟨a, b⟩, yH 9 zk (yR 9 rfl ?_ rfl)⟩
  have e := h.below c
  refine zc (wB s ws n.1 _ e zo) ?_
  rintro _ b1 ⟨rfl, ab⟩
  refine zS ?_
  have c := c.tr ab
  have a := zB a ab
  have b := d.below c
  refine ⟨rfl, .inr ⟨a, b⟩, mp 10 rfl (.tuple #[(Value.agg #[(I3 ((lookB (kv ws) n.1).1)), (I3 ((lookB (kv ws) n.1).2.1)), (U8 ((lookB (kv ws) n.1).2.2))]), (.bool ((gget (kv ws) n.1).isSome))]) (.inr ⟨a, b⟩) zg (hq := (zA (zC (zA (zA (zC (zA zG))))))) (mp 11 rfl (Value.agg #[(I3 ((lookB (kv ws) n.1).1)), (I3 ((lookB (kv ws) n.1).2.1)), (U8 ((lookB (kv ws) n.1).2.2))]) (.inr ⟨a, b⟩) zg (hq := (zA (zC (zA (zA (zC (zA zG))))))) (wG 12 14 zk ?_ ?_))⟩
  ·skip
   refine yR 12 rfl ?_ rfl
   refine zr (.bool ((gget (kv ws) n.1).isSome)) (yN ((gget (kv ws) n.1).isSome) ?_ ?_)
   ·intro cj
    refine zS ?_
    refine ⟨rfl, .inr ⟨a, b⟩, yH 14 zk (yR 14 rfl ?_ rfl)⟩
    have g := zB g ab
    refine wE [(I3 ((lookB (kv ws) n.1).1)), (I3 ((lookB (kv ws) n.1).2.1)), (U8 ((lookB (kv ws) n.1).2.2))] g ?_
    intro bz ay
    have a := zH a ay (zP a g zi)
    refine zS ?_
    refine ⟨rfl, .inl zk, mp 15 rfl (.bool true) (.inl zk) zg (hq := (zA (zC (zA (zA (zC (zA zG))))))) (yT zk (zD (wR (zJ (zJ (zw (zJ (zw (zJ (zw ?_))))))))))⟩
    have c := c.trans (ay.below p)
    have b := d.below c
    have hz := (b).at (k := 2) zj t
    obtain ⟨a0, ai, a7, a6⟩ := hz
    refine xO (k := .i64) u i _ a0 ai xV a7 zo zk zk (zw (zr (pt a0 (ai + i * 2)) (zw (wT a0 (ai + i * 2) (I3 n.1) zk zk (a6 0 _ rfl) (zw (zJ (zw (qM .i32 n.1 r ?_ ?_))))))))
    ·intro cb
     exact xS (nQ (zT (wR (zJ (zJ (zE b xV i t 1 rfl fun _ _ => (zK (nQ (yA (zR (zI (zI (zR (zI (yK [(I3 n.2)] (hd := q) ⟨e3 (by exact (tw_hit i2 za za za).symm), c⟩)))))))))))))))
    intro bj
    refine xS (nQ (zF (zW (zL (zD (zY (zJ (xR i 1 (zK (zS ?_))))))))))
    have e := h.below c
    have j := o.below c
    exact zD ⟨_, zo, (i + 1), rfl, q, zk, b, e, j, a, c, zo, tf_on2 i2 za za⟩
   intro bo
   refine zS ?_
   refine ⟨rfl, .inr ⟨a, b⟩, yH 14 zk (yR 14 rfl ?_ rfl)⟩
   have g := zB g ab
   refine wE [(I3 ((lookB (kv ws) n.1).1)), (I3 ((lookB (kv ws) n.1).2.1)), (U8 ((lookB (kv ws) n.1).2.2))] g ?_
   intro bp ap
   have a := zH a ap (zP a g zi)
   refine zS ?_
   refine ⟨rfl, .inl zk, mp 15 rfl (.bool false) (.inl zk) zg (hq := (zA (zC (zA (zA (zC (zA zG))))))) (yT zk (zD (wR (zJ (zJ (zs (zs (zs (zs (zs (zs (zs (xY (nQ (zF (zW (zL (zD (zY (zJ (xR i 1 (zK (zS ?_)))))))))))))))))))))))⟩
   have c := c.trans (ap.below p)
   have b := d.below c
   have e := h.below c
   have j := o.below c
   exact zD ⟨_, zo, (i + 1), rfl, q, zk, b, e, j, a, c, zo, tf_on1 i2 za za⟩
  skip
  refine yR 14 rfl ?_ rfl
  have g := zB g ab
  refine wE [(I3 ((lookB (kv ws) n.1).1)), (I3 ((lookB (kv ws) n.1).2.1)), (U8 ((lookB (kv ws) n.1).2.2))] g ?_
  intro bq ae
  have a := zH a ae (zP a g zi)
  refine zS ?_
  refine ⟨rfl, .inl zk, yH 12 zk (yR 12 rfl ?_ rfl)⟩
  refine zr (.bool ((gget (kv ws) n.1).isSome)) (yN ((gget (kv ws) n.1).isSome) ?_ ?_)
  ·intro bl
   refine zS ?_
   refine ⟨rfl, .inl zk, mp 15 rfl (.bool true) (.inl zk) zg (hq := (zA (zC (zA (zA (zC (zA zG))))))) (yT zk (zD (wR (zJ (zJ (zw (zJ (zw (zJ (zw ?_))))))))))⟩
   have c := c.trans (ae.below p)
   have b := d.below c
   have hz := (b).at (k := 2) zj t
   obtain ⟨ao, z, a2, a5⟩ := hz
   refine xO (k := .i64) u i _ ao z xV a2 zo zk zk (zw (zr (pt ao (z + i * 2)) (zw (wT ao (z + i * 2) (I3 n.1) zk zk (a5 0 _ rfl) (zw (zJ (zw (qM .i32 n.1 r ?_ ?_))))))))
   ·intro bn
    exact xS (nQ (zT (wR (zJ (zJ (zE b xV i t 1 rfl fun _ _ => (zK (nQ (yA (zR (zI (zI (zR (zI (yK [(I3 n.2)] (hd := q) ⟨e3 (by exact (tw_hit i2 za za za).symm), c⟩)))))))))))))))
   intro bi
   refine xS (nQ (zF (zW (zL (zD (zY (zJ (xR i 1 (zK (zS ?_))))))))))
   have e := h.below c
   have j := o.below c
   exact zD ⟨_, zo, (i + 1), rfl, q, zk, b, e, j, a, c, zo, tf_on2 i2 za za⟩
  intro bm
  refine zS ?_
  refine ⟨rfl, .inl zk, mp 15 rfl (.bool false) (.inl zk) zg (hq := (zA (zC (zA (zA (zC (zA zG))))))) (yT zk (zD (wR (zJ (zJ (zs (zs (zs (zs (zs (zs (zs (xY (nQ (zF (zW (zL (zD (zY (zJ (xR i 1 (zK (zS ?_)))))))))))))))))))))))⟩
  have c := c.trans (ae.below p)
  have b := d.below c
  have e := h.below c
  have j := o.below c
  exact zD ⟨_, zo, (i + 1), rfl, q, zk, b, e, j, a, c, zo, tf_on1 i2 za za⟩
 intro bk
 exact nQ (zF (yU (zV (zV (yI (zD (wR (zJ (zK (nQ (yA (yK [(I3 r)] (hd := q) ⟨e3 (by exact (tw_end i2 zo).symm), c⟩))))))))))))
theorem c_told8 (y : Nat) (s : Value) (ws : List (Int × Int × Int)) (z : Value) (wt : List (Int × Int)) (t : Value) (l : List (Int × Int)) (r : Int) (w : World) (a : w.heap[y]? = some (.cells [s, z].toArray 78 (0, 0))) (e : Rd w encBrk s ws) (j : Rd w encTw z wt) (b : Rd w encTw t l) (hw : ws.length ≤ 4194304) (hl : l.length ≤ 9223372036854775807) :
  Calls Tryz.prog 55 #[(pt y 0), t, (I3 r)] w (Ret fun v w' => v = (.bool (tldF ws l r)) ∧ Below w.heap.size w w') := by
 refine wO 39 func55 rfl ?_
 have c := Below.refl w.heap.size w
 have d := b
 have h := e
 have n := j
 refine wR (zK (nW (wR (zK (nQ (yF (xG (fun m s0 w0 => ∃ (i : Nat), (m = l.length - i) ∧ (s0.ds = []) ∧ ([0, 1, 2, 7].map s0.f = [(pt y 0), t, (I3 r), (N6 i)]) ∧ (Rd w0 encTw t l) ∧ (Rd w0 encBrk s ws) ∧ (Rd w0 encTw z wt) ∧ (w0.heap[y]? = some (.cells [s, z].toArray 78 (0, 0))) ∧ (Below w.heap.size w w0) ∧ (i ≤ l.length) ∧ ((l.take i).find? (pT (kv ws) r) = none)) _ ⟨0, rfl, zk, zk, b, e, j, a, c, (Nat.zero_le _), rfl⟩ ?_)))))))
 rintro m1 s2 w3 ⟨i, hm, q, bg, b, e, j, a, c, i1, i2⟩
 refine yZ bg (yC (wR (zJ (zJ (zln underlying50 (b).len (nLt i ((l).length) ?_ ?_))))))
 ·intro h4
  refine nQ (zT (zW (zD (yC (yF (yC (xD 14 16 zk zk zk ?_)))))))
  intro w5 a6
  refine ⟨fun w => (w.heap[y]? = some (.cells [s, z].toArray 78 (0, 0))) ∧ (Rd w encTw t l), ?_⟩
  have c := c.tr a6
  have a := zB a a6
  have b := d.below c
  refine mp 0 rfl (pt y 0) (.inr ⟨a, b⟩) zg (hq := (zA (zC (zA (zA (zC (zA zG))))))) (mp 1 rfl (pt y 0) (.inr ⟨a, b⟩) zg (hq := (zA (zC (zA (zA (zC (zA zG))))))) (mp 2 rfl (pt y 0) (.inr ⟨a, b⟩) zg (hq := (zA (zC (zA (zA (zC (zA zG))))))) (mt 3 [3, 9, 10, 11, 12, 14, 15] rfl s ⟨a, b⟩ (yQ y 0 s zk zf (fun w2 h2 => zQ h2.1 rfl)) (hq := (zA (zC (zA (zA (zC (zA zG))))))) (mp 4 rfl t (.inr ⟨a, b⟩) zg (hq := (zA (zC (zA (zA (zC (zA zG))))))) (mp 5 rfl (N6 i) (.inr ⟨a, b⟩) zg (hq := (zA (zC (zA (zA (zC (zA zG))))))) ?_)))))
  have hz := yB l i zo; obtain ⟨o, ae⟩ := hz
  have hz := (b).at (k := 2) zj ae; obtain ⟨g9, u, aw, bh⟩ := hz
  refine mp 6 rfl (pt g9 (u + i * 2)) (.inr ⟨a, b⟩) (yJ (k := .i64) t i _ g9 u xV aw zo zk zk) (hq := (zA (zC (zA (zA (zC (zA zG))))))) (mp 7 rfl (pt g9 (u + i * 2)) (.inr ⟨a, b⟩) zg (hq := (zA (zC (zA (zA (zC (zA zG))))))) (mt 8 [8, 9, 10, 11, 12, 14, 15] rfl (I3 o.1) ⟨a, b⟩ (yQ g9 (u + i * 2) (I3 o.1) zk zf (fun w2 h2 => Rd.later (k := 2) h2.2 zj aw ae 0 _ rfl)) (hq := (zA (zC (zA (zA (zC (zA zG))))))) ?_))
  refine wG 9 13 zk ?_ ?_
  ·skip
   refine yR 9 rfl ?_ rfl
   have e := h.below c
   refine zc (wB s ws o.1 _ e zo) ?_
   rintro _ bi ⟨rfl, ap⟩
   refine zS ?_
   have c := c.tr ap
   have a := zB a ap
   have b := d.below c
   refine ⟨rfl, .inr ⟨a, b⟩, mp 10 rfl (.tuple #[(Value.agg #[(I3 ((lookB (kv ws) o.1).1)), (I3 ((lookB (kv ws) o.1).2.1)), (U8 ((lookB (kv ws) o.1).2.2))]), (.bool ((gget (kv ws) o.1).isSome))]) (.inr ⟨a, b⟩) zg (hq := (zA (zC (zA (zA (zC (zA zG))))))) (mp 11 rfl (Value.agg #[(I3 ((lookB (kv ws) o.1).1)), (I3 ((lookB (kv ws) o.1).2.1)), (U8 ((lookB (kv ws) o.1).2.2))]) (.inr ⟨a, b⟩) zg (hq := (zA (zC (zA (zA (zC (zA zG))))))) (wG 12 13 zk ?_ ?_))⟩
   ·skip
    refine yR 12 rfl ?_ rfl
    refine zr (.bool ((gget (kv ws) o.1).isSome)) (yN ((gget (kv ws) o.1).isSome) ?_ ?_)
    ·intro b7
     refine zS ?_
     refine ⟨rfl, .inr ⟨a, b⟩, yH 13 zk (yR 13 rfl ?_ rfl)⟩
     refine zN [(I3 0), (I3 0), (U8 0)] 26 ?_
     intro b0 b2 ak
     have p := ak.ge c.size
     have g := ak.here
     refine zS ?_
     have c := c.tr ak.below
     have a := zB a ak.below
     have b := d.below c
     refine ⟨rfl, .inr ⟨a, b⟩, yH 14 zk (yR 14 rfl ?_ rfl)⟩
     refine wE [(I3 ((lookB (kv ws) o.1).1)), (I3 ((lookB (kv ws) o.1).2.1)), (U8 ((lookB (kv ws) o.1).2.2))] g ?_
     intro bk ay
     have a := zH a ay (zP a g zi)
     refine zS ?_
     refine ⟨rfl, .inl zk, mp 15 rfl (.bool true) (.inl zk) zg (hq := (zA (zC (zA (zA (zC (zA zG))))))) (yT zk (zD (wR (zJ (zJ (zw (zJ (zw (zJ (zw ?_))))))))))⟩
     have c := c.trans (ay.below p)
     have b := d.below c
     have hz := (b).at (k := 2) zj ae
     obtain ⟨a0, ac, bd, a8⟩ := hz
     refine xO (k := .i64) t i _ a0 ac xV bd zo zk zk (zw (zr (pt a0 (ac + i * 2)) (zw (wT a0 (ac + i * 2) (I3 o.1) zk zk (a8 0 _ rfl) (zw (zJ (zw (qM .i32 o.1 r ?_ ?_))))))))
     ·intro bu
      exact xS (nQ (zT (wR (zK (nQ (yA (zR (zI (zI (zR (zI (yK [(.bool true)] (hd := q) ⟨eb (by exact (tl_hit i2 za za za).symm), c⟩))))))))))))
     intro b6
     refine xS (nQ (zF (zW (zL (zD (zY (zJ (xR i 1 (zK (zS ?_))))))))))
     have e := h.below c
     have j := n.below c
     exact zD ⟨_, zo, (i + 1), rfl, q, zk, b, e, j, a, c, zo, tf_on2 i2 za za⟩
    intro bq
    refine zS ?_
    refine ⟨rfl, .inr ⟨a, b⟩, yH 13 zk (yR 13 rfl ?_ rfl)⟩
    refine zN [(I3 0), (I3 0), (U8 0)] 26 ?_
    intro cj b4 ai
    have p := ai.ge c.size
    have g := ai.here
    refine zS ?_
    have c := c.tr ai.below
    have a := zB a ai.below
    have b := d.below c
    refine ⟨rfl, .inr ⟨a, b⟩, yH 14 zk (yR 14 rfl ?_ rfl)⟩
    refine wE [(I3 ((lookB (kv ws) o.1).1)), (I3 ((lookB (kv ws) o.1).2.1)), (U8 ((lookB (kv ws) o.1).2.2))] g ?_
    intro bp au
    have a := zH a au (zP a g zi)
    refine zS ?_
    refine ⟨rfl, .inl zk, mp 15 rfl (.bool false) (.inl zk) zg (hq := (zA (zC (zA (zA (zC (zA zG))))))) (yT zk (zD (wR (zJ (zJ (zs (zs (zs (zs (zs (zs (zs (xY (nQ (zF (zW (zL (zD (zY (zJ (xR i 1 (zK (zS ?_)))))))))))))))))))))))⟩
    have c := c.trans (au.below p)
    have b := d.below c
    have e := h.below c
    have j := n.below c
    exact zD ⟨_, zo, (i + 1), rfl, q, zk, b, e, j, a, c, zo, tf_on1 i2 za za⟩
   skip
   refine yR 13 rfl ?_ rfl
   refine zN [(I3 0), (I3 0), (U8 0)] 26 ?_
   intro cf bw aj
   have p := aj.ge c.size
   have g := aj.here
   refine zS ?_
   have c := c.tr aj.below
   have a := zB a aj.below
   have b := d.below c
   refine ⟨rfl, .inr ⟨a, b⟩, wG 12 14 zk ?_ ?_⟩
   ·skip
    refine yR 12 rfl ?_ rfl
    refine zr (.bool ((gget (kv ws) o.1).isSome)) (yN ((gget (kv ws) o.1).isSome) ?_ ?_)
    ·intro bm
     refine zS ?_
     refine ⟨rfl, .inr ⟨a, b⟩, yH 14 zk (yR 14 rfl ?_ rfl)⟩
     refine wE [(I3 ((lookB (kv ws) o.1).1)), (I3 ((lookB (kv ws) o.1).2.1)), (U8 ((lookB (kv ws) o.1).2.2))] g ?_
     intro ca av
     have a := zH a av (zP a g zi)
     refine zS ?_
     refine ⟨rfl, .inl zk, mp 15 rfl (.bool true) (.inl zk) zg (hq := (zA (zC (zA (zA (zC (zA zG))))))) (yT zk (zD (wR (zJ (zJ (zw (zJ (zw (zJ (zw ?_))))))))))⟩
     have c := c.trans (av.below p)
     have b := d.below c
     have hz := (b).at (k := 2) zj ae
     obtain ⟨a2, ag, be, bb⟩ := hz
     refine xO (k := .i64) t i _ a2 ag xV be zo zk zk (zw (zr (pt a2 (ag + i * 2)) (zw (wT a2 (ag + i * 2) (I3 o.1) zk zk (bb 0 _ rfl) (zw (zJ (zw (qM .i32 o.1 r ?_ ?_))))))))
     ·intro cb
      exact xS (nQ (zT (wR (zK (nQ (yA (zR (zI (zI (zR (zI (yK [(.bool true)] (hd := q) ⟨eb (by exact (tl_hit i2 za za za).symm), c⟩))))))))))))
     intro b8
     refine xS (nQ (zF (zW (zL (zD (zY (zJ (xR i 1 (zK (zS ?_))))))))))
     have e := h.below c
     have j := n.below c
     exact zD ⟨_, zo, (i + 1), rfl, q, zk, b, e, j, a, c, zo, tf_on2 i2 za za⟩
    intro bz
    refine zS ?_
    refine ⟨rfl, .inr ⟨a, b⟩, yH 14 zk (yR 14 rfl ?_ rfl)⟩
    refine wE [(I3 ((lookB (kv ws) o.1).1)), (I3 ((lookB (kv ws) o.1).2.1)), (U8 ((lookB (kv ws) o.1).2.2))] g ?_
    intro ce ar
    have a := zH a ar (zP a g zi)
    refine zS ?_
    refine ⟨rfl, .inl zk, mp 15 rfl (.bool false) (.inl zk) zg (hq := (zA (zC (zA (zA (zC (zA zG))))))) (yT zk (zD (wR (zJ (zJ (zs (zs (zs (zs (zs (zs (zs (xY (nQ (zF (zW (zL (zD (zY (zJ (xR i 1 (zK (zS ?_)))))))))))))))))))))))⟩
    have c := c.trans (ar.below p)
    have b := d.below c
    have e := h.below c
    have j := n.below c
    exact zD ⟨_, zo, (i + 1), rfl, q, zk, b, e, j, a, c, zo, tf_on1 i2 za za⟩
   skip
   refine yR 14 rfl ?_ rfl
   refine wE [(I3 ((lookB (kv ws) o.1).1)), (I3 ((lookB (kv ws) o.1).2.1)), (U8 ((lookB (kv ws) o.1).2.2))] g ?_
   intro bj ao
   have a := zH a ao (zP a g zi)
   refine zS ?_
   refine ⟨rfl, .inl zk, yH 12 zk (yR 12 rfl ?_ rfl)⟩
   refine zr (.bool ((gget (kv ws) o.1).isSome)) (yN ((gget (kv ws) o.1).isSome) ?_ ?_)
   ·intro bs
    refine zS ?_
    refine ⟨rfl, .inl zk, mp 15 rfl (.bool true) (.inl zk) zg (hq := (zA (zC (zA (zA (zC (zA zG))))))) (yT zk (zD (wR (zJ (zJ (zw (zJ (zw (zJ (zw ?_))))))))))⟩
    have c := c.trans (ao.below p)
    have b := d.below c
    have hz := (b).at (k := 2) zj ae
    obtain ⟨a1, ah, ba, a7⟩ := hz
    refine xO (k := .i64) t i _ a1 ah xV ba zo zk zk (zw (zr (pt a1 (ah + i * 2)) (zw (wT a1 (ah + i * 2) (I3 o.1) zk zk (a7 0 _ rfl) (zw (zJ (zw (qM .i32 o.1 r ?_ ?_))))))))
    ·intro cl
     exact xS (nQ (zT (wR (zK (nQ (yA (zR (zI (zI (zR (zI (yK [(.bool true)] (hd := q) ⟨eb (by exact (tl_hit i2 za za za).symm), c⟩))))))))))))
    intro bv
    refine xS (nQ (zF (zW (zL (zD (zY (zJ (xR i 1 (zK (zS ?_))))))))))
    have e := h.below c
    have j := n.below c
    exact zD ⟨_, zo, (i + 1), rfl, q, zk, b, e, j, a, c, zo, tf_on2 i2 za za⟩
   intro cd
   refine zS ?_
   refine ⟨rfl, .inl zk, mp 15 rfl (.bool false) (.inl zk) zg (hq := (zA (zC (zA (zA (zC (zA zG))))))) (yT zk (zD (wR (zJ (zJ (zs (zs (zs (zs (zs (zs (zs (xY (nQ (zF (zW (zL (zD (zY (zJ (xR i 1 (zK (zS ?_)))))))))))))))))))))))⟩
   have c := c.trans (ao.below p)
   have b := d.below c
   have e := h.below c
   have j := n.below c
   exact zD ⟨_, zo, (i + 1), rfl, q, zk, b, e, j, a, c, zo, tf_on1 i2 za za⟩
  skip
  refine yR 13 rfl ?_ rfl
  refine zN [(I3 0), (I3 0), (U8 0)] 26 ?_
  intro b5 ci al
  have p := al.ge c.size
  have g := al.here
  refine zS ?_
  have c := c.tr al.below
  have a := zB a al.below
  have b := d.below c
  refine ⟨rfl, .inr ⟨a, b⟩, yH 9 zk (yR 9 rfl ?_ rfl)⟩
  have e := h.below c
  refine zc (wB s ws o.1 _ e zo) ?_
  rintro _ bx ⟨rfl, aa⟩
  refine zS ?_
  have c := c.tr aa
  have a := zB a aa
  have b := d.below c
  refine ⟨rfl, .inr ⟨a, b⟩, mp 10 rfl (.tuple #[(Value.agg #[(I3 ((lookB (kv ws) o.1).1)), (I3 ((lookB (kv ws) o.1).2.1)), (U8 ((lookB (kv ws) o.1).2.2))]), (.bool ((gget (kv ws) o.1).isSome))]) (.inr ⟨a, b⟩) zg (hq := (zA (zC (zA (zA (zC (zA zG))))))) (mp 11 rfl (Value.agg #[(I3 ((lookB (kv ws) o.1).1)), (I3 ((lookB (kv ws) o.1).2.1)), (U8 ((lookB (kv ws) o.1).2.2))]) (.inr ⟨a, b⟩) zg (hq := (zA (zC (zA (zA (zC (zA zG))))))) (wG 12 14 zk ?_ ?_))⟩
  ·skip
   refine yR 12 rfl ?_ rfl
   refine zr (.bool ((gget (kv ws) o.1).isSome)) (yN ((gget (kv ws) o.1).isSome) ?_ ?_)
   ·intro bn
    refine zS ?_
    refine ⟨rfl, .inr ⟨a, b⟩, yH 14 zk (yR 14 rfl ?_ rfl)⟩
    have g := zB g aa
    refine wE [(I3 ((lookB (kv ws) o.1).1)), (I3 ((lookB (kv ws) o.1).2.1)), (U8 ((lookB (kv ws) o.1).2.2))] g ?_
    intro cg ax
    have a := zH a ax (zP a g zi)
    refine zS ?_
    refine ⟨rfl, .inl zk, mp 15 rfl (.bool true) (.inl zk) zg (hq := (zA (zC (zA (zA (zC (zA zG))))))) (yT zk (zD (wR (zJ (zJ (zw (zJ (zw (zJ (zw ?_))))))))))⟩
    have c := c.trans (ax.below p)
    have b := d.below c
    have hz := (b).at (k := 2) zj ae
    obtain ⟨a3, af, a4, a5⟩ := hz
    refine xO (k := .i64) t i _ a3 af xV a4 zo zk zk (zw (zr (pt a3 (af + i * 2)) (zw (wT a3 (af + i * 2) (I3 o.1) zk zk (a5 0 _ rfl) (zw (zJ (zw (qM .i32 o.1 r ?_ ?_))))))))
    ·intro ch
     exact xS (nQ (zT (wR (zK (nQ (yA (zR (zI (zI (zR (zI (yK [(.bool true)] (hd := q) ⟨eb (by exact (tl_hit i2 za za za).symm), c⟩))))))))))))
    intro b3
    refine xS (nQ (zF (zW (zL (zD (zY (zJ (xR i 1 (zK (zS ?_))))))))))
    have e := h.below c
    have j := n.below c
    exact zD ⟨_, zo, (i + 1), rfl, q, zk, b, e, j, a, c, zo, tf_on2 i2 za za⟩
   intro b9
   refine zS ?_
   refine ⟨rfl, .inr ⟨a, b⟩, yH 14 zk (yR 14 rfl ?_ rfl)⟩
   have g := zB g aa
   refine wE [(I3 ((lookB (kv ws) o.1).1)), (I3 ((lookB (kv ws) o.1).2.1)), (U8 ((lookB (kv ws) o.1).2.2))] g ?_
   intro bl aq
   have a := zH a aq (zP a g zi)
   refine zS ?_
   refine ⟨rfl, .inl zk, mp 15 rfl (.bool false) (.inl zk) zg (hq := (zA (zC (zA (zA (zC (zA zG))))))) (yT zk (zD (wR (zJ (zJ (zs (zs (zs (zs (zs (zs (zs (xY (nQ (zF (zW (zL (zD (zY (zJ (xR i 1 (zK (zS ?_)))))))))))))))))))))))⟩
   have c := c.trans (aq.below p)
   have b := d.below c
   have e := h.below c
   have j := n.below c
   exact zD ⟨_, zo, (i + 1), rfl, q, zk, b, e, j, a, c, zo, tf_on1 i2 za za⟩
  skip
  refine yR 14 rfl ?_ rfl
  have g := zB g aa
  refine wE [(I3 ((lookB (kv ws) o.1).1)), (I3 ((lookB (kv ws) o.1).2.1)), (U8 ((lookB (kv ws) o.1).2.2))] g ?_
  intro cc an
  have a := zH a an (zP a g zi)
  refine zS ?_
  refine ⟨rfl, .inl zk, yH 12 zk (yR 12 rfl ?_ rfl)⟩
  refine zr (.bool ((gget (kv ws) o.1).isSome)) (yN ((gget (kv ws) o.1).isSome) ?_ ?_)
  ·intro bt
   refine zS ?_
   refine ⟨rfl, .inl zk, mp 15 rfl (.bool true) (.inl zk) zg (hq := (zA (zC (zA (zA (zC (zA zG))))))) (yT zk (zD (wR (zJ (zJ (zw (zJ (zw (zJ (zw ?_))))))))))⟩
   have c := c.trans (an.below p)
   have b := d.below c
   have hz := (b).at (k := 2) zj ae
   obtain ⟨az, ad, a9, bc⟩ := hz
   refine xO (k := .i64) t i _ az ad xV a9 zo zk zk (zw (zr (pt az (ad + i * 2)) (zw (wT az (ad + i * 2) (I3 o.1) zk zk (bc 0 _ rfl) (zw (zJ (zw (qM .i32 o.1 r ?_ ?_))))))))
   ·intro br
    exact xS (nQ (zT (wR (zK (nQ (yA (zR (zI (zI (zR (zI (yK [(.bool true)] (hd := q) ⟨eb (by exact (tl_hit i2 za za za).symm), c⟩))))))))))))
   intro b1
   refine xS (nQ (zF (zW (zL (zD (zY (zJ (xR i 1 (zK (zS ?_))))))))))
   have e := h.below c
   have j := n.below c
   exact zD ⟨_, zo, (i + 1), rfl, q, zk, b, e, j, a, c, zo, tf_on2 i2 za za⟩
  intro bo
  refine zS ?_
  refine ⟨rfl, .inl zk, mp 15 rfl (.bool false) (.inl zk) zg (hq := (zA (zC (zA (zA (zC (zA zG))))))) (yT zk (zD (wR (zJ (zJ (zs (zs (zs (zs (zs (zs (zs (xY (nQ (zF (zW (zL (zD (zY (zJ (xR i 1 (zK (zS ?_)))))))))))))))))))))))⟩
  have c := c.trans (an.below p)
  have b := d.below c
  have e := h.below c
  have j := n.below c
  exact zD ⟨_, zo, (i + 1), rfl, q, zk, b, e, j, a, c, zo, tf_on1 i2 za za⟩
 intro ck
 exact nQ (zF (yU (zV (zV (yI (zD (wR (zK (nQ (yA (yK [(.bool false)] (hd := q) ⟨eb (by exact (tl_end i2 zo).symm), c⟩)))))))))))
theorem c_rBracket (j : Nat) (d : Value) (ws : List (Int × Int × Int)) (m : Value) (wt : List (Int × Int)) (r : Int) (w : World) (a : w.heap[j]? = some (.cells [d, m].toArray 78 (0, 0))) (c : Rd w encBrk d ws) (ae : Rd w encTw m wt) (hw : ws.length ≤ 4194304) :
  Calls Tryz.prog 33 #[(pt j 0), (I3 r)] w (Ret fun v w' => v = (.tuple #[(I3 ((brkF (kv ws) r).1)), (U8 ((brkF (kv ws) r).2))]) ∧ Below w.heap.size w w') := by
 refine wO 24 func33 rfl ?_
 have e := Below.refl w.heap.size w
 refine wR (zK (zK (nW (wR (zJ (zr (.bool false) (nQ (zF (zW (zD (yC (xD 11 13 zk zk zk ?_))))))))))))
 intro w1 i
 refine ⟨fun w => (w.heap[j]? = some (.cells [d, m].toArray 78 (0, 0))), ?_⟩
 have a := zB a i
 refine mp 0 rfl (pt j 0) (.inr a) zg (hq := (zA zG)) (mp 1 rfl (pt j 0) (.inr a) zg (hq := (zA zG)) (mp 2 rfl (pt j 0) (.inr a) zg (hq := (zA zG)) (mt 3 [3, 6, 7, 8, 9, 11, 12] rfl d a (yQ j 0 d zk zf (fun w2 h2 => zQ h2 rfl)) (hq := (zA zG)) (mp 4 rfl (I3 r) (.inr a) zg (hq := (zA zG)) ?_))))
 refine wG 5 10 zk ?_ ?_
 ·skip
  refine yR 5 rfl ?_ rfl
  refine zc (c_plain8 r _ ) ?_
  rintro _ w3 ⟨rfl, p⟩
  refine zS ?_
  have a := zB a p
  refine ⟨rfl, .inr a, wG 6 10 zk ?_ ?_⟩
  ·skip
   refine yR 6 rfl ?_ rfl
   have c := (c.below i).below p
   refine zc (wB d ws (askB r) _ c zo) ?_
   rintro _ w6 ⟨rfl, ab⟩
   refine zS ?_
   have a := zB a ab
   refine ⟨rfl, .inr a, mp 7 rfl (.tuple #[(Value.agg #[(I3 ((lookB (kv ws) (askB r)).1)), (I3 ((lookB (kv ws) (askB r)).2.1)), (U8 ((lookB (kv ws) (askB r)).2.2))]), (.bool ((gget (kv ws) (askB r)).isSome))]) (.inr a) zg (hq := (zA zG)) (mp 8 rfl (Value.agg #[(I3 ((lookB (kv ws) (askB r)).1)), (I3 ((lookB (kv ws) (askB r)).2.1)), (U8 ((lookB (kv ws) (askB r)).2.2))]) (.inr a) zg (hq := (zA zG)) (mp 9 rfl (.bool ((gget (kv ws) (askB r)).isSome)) (.inr a) zg (hq := (zA zG)) (yH 10 zk (yR 10 rfl ?_ rfl))))⟩
   refine zN [(I3 0), (I3 0), (U8 0)] 26 ?_
   intro b9 ap l
   have e := ((e.tr i).tr p).tr ab
   have f := l.ge e.size
   have b := l.here
   refine zS ?_
   have a := zB a l.below
   refine ⟨rfl, .inr a, yH 11 zk (yR 11 rfl ?_ rfl)⟩
   refine wE [(I3 ((lookB (kv ws) (askB r)).1)), (I3 ((lookB (kv ws) (askB r)).2.1)), (U8 ((lookB (kv ws) (askB r)).2.2))] b ?_
   intro aj y
   have b := y.here
   refine zS ?_
   refine ⟨rfl, .inl zk, mp 12 rfl (.bool ((gget (kv ws) (askB r)).isSome)) (.inl zk) zg (hq := (zA zG)) (yT zk (zD (yC (yP zk zk (yD (pt b9 1) zf (zX b9 1 (I3 ((lookB (kv ws) (askB r)).2.1)) zk zf (zQ b rfl) (yD (pt b9 2) zf (zX b9 2 (U8 ((lookB (kv ws) (askB r)).2.2)) zk zf (zQ b rfl) (xH (xH (yG ?_)))))))))))⟩
   intro an aa
   have e := ((e.tr l.below).trans (y.below f)).tr aa
   exact zD (yA (yK [(I3 ((lookB (kv ws) (askB r)).2.1)), (U8 ((lookB (kv ws) (askB r)).2.2))] ⟨xQ (e3 (by first | (rw [brk_look]; done))) (eu (by first | (rw [brk_look]; done))), e⟩))
  skip
  refine yR 10 rfl ?_ rfl
  refine zN [(I3 0), (I3 0), (U8 0)] 26 ?_
  intro q ai h
  have e := (e.tr i).tr p
  have f := h.ge e.size
  have b := h.here
  refine zS ?_
  have a := zB a h.below
  refine ⟨rfl, .inr a, yH 6 zk (yR 6 rfl ?_ rfl)⟩
  have c := ((c.below i).below p).below h.below
  refine zc (wB d ws (askB r) _ c zo) ?_
  rintro _ ao ⟨rfl, n⟩
  refine zS ?_
  have a := zB a n
  refine ⟨rfl, .inr a, mp 7 rfl (.tuple #[(Value.agg #[(I3 ((lookB (kv ws) (askB r)).1)), (I3 ((lookB (kv ws) (askB r)).2.1)), (U8 ((lookB (kv ws) (askB r)).2.2))]), (.bool ((gget (kv ws) (askB r)).isSome))]) (.inr a) zg (hq := (zA zG)) (mp 8 rfl (Value.agg #[(I3 ((lookB (kv ws) (askB r)).1)), (I3 ((lookB (kv ws) (askB r)).2.1)), (U8 ((lookB (kv ws) (askB r)).2.2))]) (.inr a) zg (hq := (zA zG)) (mp 9 rfl (.bool ((gget (kv ws) (askB r)).isSome)) (.inr a) zg (hq := (zA zG)) (yH 11 zk (yR 11 rfl ?_ rfl))))⟩
  have b := zB b n
  refine wE [(I3 ((lookB (kv ws) (askB r)).1)), (I3 ((lookB (kv ws) (askB r)).2.1)), (U8 ((lookB (kv ws) (askB r)).2.2))] b ?_
  intro al u
  have b := u.here
  refine zS ?_
  refine ⟨rfl, .inl zk, mp 12 rfl (.bool ((gget (kv ws) (askB r)).isSome)) (.inl zk) zg (hq := (zA zG)) (yT zk (zD (yC (yP zk zk (yD (pt q 1) zf (zX q 1 (I3 ((lookB (kv ws) (askB r)).2.1)) zk zf (zQ b rfl) (yD (pt q 2) zf (zX q 2 (U8 ((lookB (kv ws) (askB r)).2.2)) zk zf (zQ b rfl) (xH (xH (yG ?_)))))))))))⟩
  intro aq z
  have e := (((e.tr h.below).tr n).trans (u.below f)).tr z
  exact zD (yA (yK [(I3 ((lookB (kv ws) (askB r)).2.1)), (U8 ((lookB (kv ws) (askB r)).2.2))] ⟨xQ (e3 (by first | (rw [brk_look]; done))) (eu (by first | (rw [brk_look]; done))), e⟩))
 skip
 refine yR 10 rfl ?_ rfl
 refine zN [(I3 0), (I3 0), (U8 0)] 26 ?_
 intro s ah g
 have e := e.tr i
 have f := g.ge e.size
 have b := g.here
 refine zS ?_
 have a := zB a g.below
 refine ⟨rfl, .inr a, yH 5 zk (yR 5 rfl ?_ rfl)⟩
 refine zc (c_plain8 r _ ) ?_
 rintro _ ak ⟨rfl, k⟩
 refine zS ?_
 have a := zB a k
 refine ⟨rfl, .inr a, yH 6 zk (yR 6 rfl ?_ rfl)⟩
 have c := ((c.below i).below g.below).below k
 refine zc (wB d ws (askB r) _ c zo) ?_
 rintro _ ag ⟨rfl, o⟩
 refine zS ?_
 have a := zB a o
 refine ⟨rfl, .inr a, mp 7 rfl (.tuple #[(Value.agg #[(I3 ((lookB (kv ws) (askB r)).1)), (I3 ((lookB (kv ws) (askB r)).2.1)), (U8 ((lookB (kv ws) (askB r)).2.2))]), (.bool ((gget (kv ws) (askB r)).isSome))]) (.inr a) zg (hq := (zA zG)) (mp 8 rfl (Value.agg #[(I3 ((lookB (kv ws) (askB r)).1)), (I3 ((lookB (kv ws) (askB r)).2.1)), (U8 ((lookB (kv ws) (askB r)).2.2))]) (.inr a) zg (hq := (zA zG)) (mp 9 rfl (.bool ((gget (kv ws) (askB r)).isSome)) (.inr a) zg (hq := (zA zG)) (yH 11 zk (yR 11 rfl ?_ rfl))))⟩
 have b := zB (zB b k) o
 refine wE [(I3 ((lookB (kv ws) (askB r)).1)), (I3 ((lookB (kv ws) (askB r)).2.1)), (U8 ((lookB (kv ws) (askB r)).2.2))] b ?_
 intro af t
 have b := t.here
 refine zS ?_
 refine ⟨rfl, .inl zk, mp 12 rfl (.bool ((gget (kv ws) (askB r)).isSome)) (.inl zk) zg (hq := (zA zG)) (yT zk (zD (yC (yP zk zk (yD (pt s 1) zf (zX s 1 (I3 ((lookB (kv ws) (askB r)).2.1)) zk zf (zQ b rfl) (yD (pt s 2) zf (zX s 2 (U8 ((lookB (kv ws) (askB r)).2.2)) zk zf (zQ b rfl) (xH (xH (yG ?_)))))))))))⟩
 intro am ac
 have e := ((((e.tr g.below).tr k).tr o).trans (t.below f)).tr ac
 exact zD (yA (yK [(I3 ((lookB (kv ws) (askB r)).2.1)), (U8 ((lookB (kv ws) (askB r)).2.2))] ⟨xQ (e3 (by first | (rw [brk_look]; done))) (eu (by first | (rw [brk_look]; done))), e⟩))
theorem c_rTwin (b : Nat) (c : Value) (ws : List (Int × Int × Int)) (a : Value) (wt : List (Int × Int)) (r : Int) (w : World) (e : w.heap[b]? = some (.cells [c, a].toArray 78 (0, 0))) (f : Rd w encBrk c ws) (d : Rd w encTw a wt) (hw : ws.length ≤ 4194304) (ht : wt.length ≤ 9223372036854775807) :
  Calls Tryz.prog 34 #[(pt b 0), (I3 r)] w (Ret fun v w' => v = (I3 (twF ws wt (askB r))) ∧ Below w.heap.size w w') := by
 refine wO 16 func34 rfl ?_
 have h := Below.refl w.heap.size w
 refine wR (zK (nW (wR (zJ (zr (.bool false) (nQ (zF (zW (zD (yC (yP zk zk (zU (zU (yD (pt b 0) zf (yD (pt b 1) zf (zX b 1 a zk zf (zQ e rfl) (zU (xE 63 [(I3 r)] (I3 (askB r)) zg (fun wq hbq => c_plain8 r wq ) (xE 56 [(pt b 0), a, (I3 (askB r))] (I3 (twF ws wt (askB r))) zg (fun wq hbq => c_twin8 b c ws a wt a wt (askB r) wq (zB e hbq) (f.below hbq) (d.below hbq) (d.below hbq) zo zo) (xH (yG ?_)))))))))))))))))))))
 intro i g
 have h := h.tr g
 exact zD (yA (yK [(I3 (twF ws wt (askB r)))] ⟨rfl, h⟩))
theorem c_rMatches (j : Nat) (f : Value) (ws : List (Int × Int × Int)) (e : Value) (wt : List (Int × Int)) (o : Int) (c : Int) (w : World) (d : w.heap[j]? = some (.cells [f, e].toArray 78 (0, 0))) (b : Rd w encBrk f ws) (a : Rd w encTw e wt) (hw : ws.length ≤ 4194304) (ht : wt.length ≤ 9223372036854775807) :
  Calls Tryz.prog 35 #[(pt j 0), (I3 o), (I3 c)] w (Ret fun v w' => v = (.bool (mtcW ws wt o c)) ∧ Below w.heap.size w w') := by
 refine wO 38 func35 rfl ?_
 have k := Below.refl w.heap.size w
 refine wR (zK (nR (zJ (zJ (zc (c_rBracket j f ws e wt o _ d b a zo) ?_)))))
 rintro _ u ⟨rfl, h⟩
 have d := zB d h
 have b := b.below h
 have a := a.below h
 refine zJ (zr (I3 ((brkF (kv ws) o).1)) (zr (U8 ((brkF (kv ws) o).2)) (zK (zK (nR (zJ (zJ (zc (c_rBracket j f ws e wt c _ d b a zo) ?_))))))))
 rintro _ t ⟨rfl, i⟩
 refine zJ (zr (I3 ((brkF (kv ws) c).1)) (zr (U8 ((brkF (kv ws) c).2)) (zK (zK (nR (zJ (qM .u8 ((brkF (kv ws) o).2) 1 ?_ ?_)))))))
 ·intro s
  refine zJ (zw (zJ (zw (qM .u8 ((brkF (kv ws) c).2) 2 ?_ ?_))))
  ·intro y
   have d := zB d i
   have b := b.below i
   have a := a.below i
   refine xS (zJ (zw (zJ (zw (zJ (zw (zc (c_rTwin j f ws e wt ((brkF (kv ws) o).1) _ d b a zo zo) ?_)))))))
   rintro _ z ⟨rfl, g⟩
   have d := zB d g
   have b := b.below g
   have a := a.below g
   refine zw (zJ (zw (zJ (zw (zc (c_rTwin j f ws e wt c _ d b a zo zo) ?_)))))
   rintro _ r ⟨rfl, l⟩
   refine zw (qM .i32 (twF ws wt (askB ((brkF (kv ws) o).1))) (twF ws wt (askB c)) ?_ ?_)
   ·intro p
    have k := (((k.tr h).tr i).tr g).tr l
    exact xS (zK (nQ (yA (yK [(.bool true)] ⟨eb (by (rw [mtw_3 za za]; first | exact (decide_eq_true za).symm | exact (decide_eq_false za).symm | rfl)), k⟩))))
   intro q
   have k := (((k.tr h).tr i).tr g).tr l
   exact xS (zK (nQ (yA (yK [(.bool false)] ⟨eb (by (rw [mtw_3 za za]; first | exact (decide_eq_true za).symm | exact (decide_eq_false za).symm | rfl)), k⟩))))
  intro m
  have k := (k.tr h).tr i
  exact xS (zJ (zs (zs (zs (zs (zs (zs (zs (xY (zK (nQ (yA (yK [(.bool false)] ⟨eb (by exact (mtw_2 za).symm), k⟩)))))))))))))
 intro n
 have k := (k.tr h).tr i
 exact zJ (zs (zs (xY (zJ (zs (zs (zs (zs (zs (zs (zs (xY (zK (nQ (yA (yK [(.bool false)] ⟨eb (by exact (mtw_1 za).symm), k⟩))))))))))))))))
end Go.Proofs.YtddnhlobnembaaaGreatDoor
end

/- === Wrb3 === -/
section
/- Walks, written by my program walk.py out of the specification rb3.py: each theorem says what one function returns and that it leaves memory as it was. -/
namespace Go.Proofs.YtddnhlobnembaaaGreatDoor
open Go Go.RowKit Go.FK _root_.Go.Proofs.Tryz
set_option maxHeartbeats 4000000
set_option maxRecDepth 100000
theorem c_rShow (r : Int) (w : World) :
  Calls Tryz.prog 64 #[(I3 r)] w (Ret fun v w' => v = (.tuple #[(S ((showF r).1)), (I6 ((showF r).2))]) ∧ Below w.heap.size w w') := by
 refine wO 31 func64 rfl ?_
 have c := Below.refl w.heap.size w
 refine wR (zK (zK (nW (wR (zJ (zLt .i32 r 0 ?_ ?_))))))
 ·intro h1
  exact zJ (zs (zs (xS (nQ (zT (wR (zK (zK (nQ (yA (zI (yK [(S []), (I6 40)] ⟨xQ (congrArg S (by (rw [vO zo]; done))) (e6 (by (rw [vO zo]; done))), c⟩))))))))))))
 intro h2
 refine zJ (zw (zJ (zw (zGt .i32 r 1114111 ?_ ?_))))
 ·intro h3
  exact xY (nQ (zT (wR (zK (zK (nQ (yA (zI (yK [(S []), (I6 40)] ⟨xQ (congrArg S (by (rw [vO zo]; done))) (e6 (by (rw [vO zo]; done))), c⟩)))))))))
 intro h4
 refine xY (nQ (zF (zW (zD (wR (zK (nR (zJ (L_conv (k := .i32) r r zk underlying3 zk (xM _ zo zo) (zK (nW (yF (xG (fun m s0 w0 => ∃ (a : List UInt8) (z : Int), (m = 10 - a.length) ∧ (s0.ds = []) ∧ ([2, 3, 4, 5].map s0.f = [(S []), (I6 0), (S a), (I6 z)]) ∧ (Below w.heap.size w w0) ∧ (a.length ≤ cntD r.toNat) ∧ (z = ((r.toNat / 16 ^ a.length : Nat) : Int)) ∧ (a = digsD r.toNat a.length)) _ ⟨([] : List UInt8), r, rfl, zk, zk, c, Nat.zero_le _, by simp; omega, rfl⟩ ?_)))))))))))))
 rintro m5 s6 w7 ⟨a, z, hm, j, ac, c, i1, e, h⟩
 refine yZ ac ?_
 have af := cntD_le r.toNat
 have aj := show_facts i1 e zo
 refine yC (wR (zJ (zGt .i64 z 0 ?_ ?_)))
 ·intro h8
  refine zJ (zs (zs (zs (xS (nQ (zT (zW (zD (yF (wR (zJ (L_rem (k := .i64) z 16 zo zo zk zk ?_))))))))))))
  have hz := yB ([48, 49, 50, 51, 52, 53, 54, 55, 56, 57, 65, 66, 67, 68, 69, 70] : List UInt8) ((z % 16).toNat) (by (rw [show (([48, 49, 50, 51, 52, 53, 54, 55, 56, 57, 65, 66, 67, 68, 69, 70] : List UInt8)).length = 16 from rfl]; omega)); obtain ⟨i, u⟩ := hz
  have := i.toNat_lt
  refine L_sindexZ (k := .i64) ([48, 49, 50, 51, 52, 53, 54, 55, 56, 57, 65, 66, 67, 68, 69, 70] : List UInt8) (z % 16) ((z % 16).toNat) i zo underlying9 u zk zk (zM 1 [(U8 ((i.toNat : Nat) : Int))] 5 ?_)
  intro t ae g
  have p := g.ge c.size
  have n : Row ae w.heap.size 5 1 encU8 (.slice (some ⟨t, 0, none⟩) 1 1) ([((i.toNat : Nat) : Int)] : List (Int)) := Row.made ([((i.toNat : Nat) : Int)] : List (Int)) g p rfl rfl (by first | decide | (simp; done))
  refine L_bytesStr (.slice (some ⟨t, 0, none⟩) 1 1) ([((i.toNat : Nat) : Int)] : List (Int)) underlying97 underlying5 underlying9 zk n.rd (zJ (wX (bytesI ([((i.toNat : Nat) : Int)] : List (Int))) a (by (simp only [bytesI, List.length_map, List.length_append, List.length_cons, List.length_nil]; omega)) zk zk (zK (nQ (zY (zJ (L_quo (k := .i64) z 16 (z / 16) zo zo zk zk (xM _ zo zo) (zK (zS (zL ?_))))))))))
  have c := c.tr g.below
  refine zD ⟨_, ?_, ((bytesI ([((i.toNat : Nat) : Int)] : List (Int))) ++ a), (z / 16), rfl, j, zk, c, ?_, ?_, ?_⟩
  ·have l := vJ e h za; omega
  ·have l := vJ e h za; omega
  ·exact (vJ e h za).2.1
  exact (vJ e h za).2.2
 intro ai
 refine zJ (zw (zJ (zw (zsl 9 a (zw (nLt ((a).length) 4 ?_ ?_))))))
 ·intro ag
  refine xY (nQ (zT (zW (zD (yF (wR (zJ (L_rem (k := .i64) z 16 zo zo zk zk ?_))))))))
  have hz := yB ([48, 49, 50, 51, 52, 53, 54, 55, 56, 57, 65, 66, 67, 68, 69, 70] : List UInt8) ((z % 16).toNat) (by (rw [show (([48, 49, 50, 51, 52, 53, 54, 55, 56, 57, 65, 66, 67, 68, 69, 70] : List UInt8)).length = 16 from rfl]; omega)); obtain ⟨b, s⟩ := hz
  have := b.toNat_lt
  refine L_sindexZ (k := .i64) ([48, 49, 50, 51, 52, 53, 54, 55, 56, 57, 65, 66, 67, 68, 69, 70] : List UInt8) (z % 16) ((z % 16).toNat) b zo underlying9 s zk zk (zM 1 [(U8 ((b.toNat : Nat) : Int))] 5 ?_)
  intro y ad d
  have q := d.ge c.size
  have o : Row ad w.heap.size 5 1 encU8 (.slice (some ⟨y, 0, none⟩) 1 1) ([((b.toNat : Nat) : Int)] : List (Int)) := Row.made ([((b.toNat : Nat) : Int)] : List (Int)) d q rfl rfl (by first | decide | (simp; done))
  refine L_bytesStr (.slice (some ⟨y, 0, none⟩) 1 1) ([((b.toNat : Nat) : Int)] : List (Int)) underlying97 underlying5 underlying9 zk o.rd (zJ (wX (bytesI ([((b.toNat : Nat) : Int)] : List (Int))) a (by (simp only [bytesI, List.length_map, List.length_append, List.length_cons, List.length_nil]; omega)) zk zk (zK (nQ (zY (zJ (L_quo (k := .i64) z 16 (z / 16) zo zo zk zk (xM _ zo zo) (zK (zS (zL ?_))))))))))
  have c := c.tr d.below
  refine zD ⟨_, ?_, ((bytesI ([((b.toNat : Nat) : Int)] : List (Int))) ++ a), (z / 16), rfl, j, zk, c, ?_, ?_, ?_⟩
  ·have l := vJ e h za; omega
  ·have l := vJ e h za; omega
  ·exact (vJ e h za).2.1
  exact (vJ e h za).2.2
 intro ah
 exact xY (nQ (zF (yU (zV (zV (yI (zD (wR (zJ (zK (zK (nQ (yA (yK [(S a), (I6 0)] (hd := j) ⟨xQ (congrArg S (by (rw [showF_ok zo zo]; first | done | exact show_end i1 e h zo zo))) (e6 (by (rw [showF_ok zo zo]; first | done | exact show_end i1 e h zo zo))), c⟩))))))))))))))
theorem c_rLetter (s : Int) (w : World) (hs_ : 0 ≤ s) (hs2 : s ≤ 255) :
  Calls Tryz.prog 65 #[(U8 s)] w (Ret fun v w' => v = (.tuple #[(S (letterS s)), (I6 (letterE s))]) ∧ Below w.heap.size w w') := by
 refine wO 11 func65 rfl ?_
 have e := Below.refl w.heap.size w
 refine wR (zK (zK (nW (wR (zJ (zGt .u8 s 2 ?_ ?_))))))
 ·intro l
  exact nQ (zT (wR (zK (zK (nQ (yA (zI (yK [(S []), (I6 2)] ⟨xQ (congrArg S (by (rw [letterS_none zo]; done))) (e6 (by unfold letterE; split <;> omega)), e⟩))))))))
 intro j
 refine nQ (zF (zW (zD (wR (zJ (L_conv (k := .u8) s s zk underlying3 zk (xM _ zo zo) ?_))))))
 have h := yB ([110, 111, 99] : List UInt8) s.toNat (by first | omega | (simp; omega)); obtain ⟨b, f⟩ := h
 have := b.toNat_lt
 refine L_sindexZ (k := .i64) ([110, 111, 99] : List UInt8) s s.toNat b zo underlying9 f zk zk (zM 1 [(U8 ((b.toNat : Nat) : Int))] 5 ?_)
 intro g i a
 have c := a.ge e.size
 have d : Row i w.heap.size 5 1 encU8 (.slice (some ⟨g, 0, none⟩) 1 1) ([((b.toNat : Nat) : Int)] : List (Int)) := Row.made ([((b.toNat : Nat) : Int)] : List (Int)) a c rfl rfl (by first | decide | (simp; done))
 have e := e.tr a.below
 exact L_bytesStr (.slice (some ⟨g, 0, none⟩) 1 1) ([((b.toNat : Nat) : Int)] : List (Int)) underlying97 underlying5 underlying9 zk d.rd (zK (zK (nQ (yA (yK [(S (bytesI ([((b.toNat : Nat) : Int)] : List (Int)))), (I6 0)] ⟨xQ (congrArg S (by exact letterS_tab zo zo za)) (e6 (by unfold letterE; split <;> omega)), e⟩)))))
theorem c_rWrite (e : Nat) (l : Value) (ws : List (Int × Int × Int)) (j : Value) (wt : List (Int × Int)) (w : World) (b : w.heap[e]? = some (.cells [l, j].toArray 78 (0, 0))) (a : Rd w encBrk l ws) (g : Rd w encTw j wt) (hw : ws.length ≤ 1114112) (hv : ∀ x ∈ ws, 0 ≤ x.2.2 ∧ x.2.2 ≤ 255) :
  Calls Tryz.prog 36 #[(pt e 0)] w (Ret fun v w' => v = (S (ws.flatMap lineB)) ∧ Below w.heap.size w w') := by
 refine wO 67 func36 rfl ?_
 have p := Below.refl w.heap.size w
 refine wR (zK (nR (zK (nW (wR (zK (nQ (yF (xG (fun m s0 w0 => ∃ (i : Nat) (d : List UInt8), (m = ws.length - i) ∧ (s0.ds = []) ∧ ([0, 2, 3, 4].map s0.f = [(pt e 0), (S []), (S d), (N6 i)]) ∧ (Rd w0 encBrk l ws) ∧ (Rd w0 encTw j wt) ∧ (w0.heap[e]? = some (.cells [l, j].toArray 78 (0, 0))) ∧ (Below w.heap.size w w0) ∧ (i ≤ ws.length) ∧ (d = (ws.take i).flatMap lineB)) _ ⟨0, ([] : List UInt8), rfl, zk, zk, a, g, b, p, (Nat.zero_le _), rfl⟩ ?_)))))))))
 rintro m1 s2 w3 ⟨i, d, hm, q, t, a, g, b, p, z, s⟩
 refine yZ t ?_
 have ac := wrr_len s z
 refine yC (wR (zJ (zJ (zr (pt e 0) (zFO 0 b rfl (zln underlying22 (a).len (nLt i ((ws).length) ?_ ?_)))))))
 ·intro h4
  refine nQ (zT (zW (zD (yC (yF (wR (zJ (zr (pt e 0) (zFO 0 b rfl (zJ ?_))))))))))
  have u := yB ws i zo; obtain ⟨c, o⟩ := u
  have r := hv _ (List.mem_of_getElem? o)
  refine zE a wM i o 0 rfl fun _ _ => (zc (c_rShow c.1 _ ) ?_)
  rintro _ ab ⟨rfl, n⟩
  have := showF_len c.1
  have b := zB b n
  refine zJ (zr (S ((showF c.1).1)) (zr (I6 ((showF c.1).2)) (zK (zK (nR (zJ (zr (pt e 0) (zFO 0 b rfl (zJ ?_)))))))))
  have a := a.below n
  refine zE a wM i o 1 rfl fun _ _ => (zc (c_rShow c.2.1 _ ) ?_)
  rintro _ y ⟨rfl, k⟩
  have := showF_len c.2.1
  have b := zB b k
  refine zJ (zr (S ((showF c.2.1).1)) (zr (I6 ((showF c.2.1).2)) (zK (zK (nR (zJ (zr (pt e 0) (zFO 0 b rfl (zJ ?_)))))))))
  have a := a.below k
  refine zE a wM i o 2 rfl fun _ _ => (zc (c_rLetter c.2.2 _ zo zo) ?_)
  rintro _ aa ⟨rfl, h⟩
  have := letterS_len c.2.2
  refine zJ (zr (S (letterS c.2.2)) (zr (I6 (letterE c.2.2)) (zK (zK (nQ (zY (zJ (zJ (wX d ((showF c.1).1) zo zk zk (wX (d ++ (showF c.1).1) ([59, 32] : List UInt8) (by (simp only [List.length_append, List.length_cons, List.length_nil]; omega)) zk zk (zJ (wX ((d ++ (showF c.1).1) ++ ([59, 32] : List UInt8)) ((showF c.2.1).1) (by (simp only [List.length_append, List.length_cons, List.length_nil]; omega)) zk zk (wX (((d ++ (showF c.1).1) ++ ([59, 32] : List UInt8)) ++ (showF c.2.1).1) ([59, 32] : List UInt8) (by (simp only [List.length_append, List.length_cons, List.length_nil]; omega)) zk zk (zJ (wX ((((d ++ (showF c.1).1) ++ ([59, 32] : List UInt8)) ++ (showF c.2.1).1) ++ ([59, 32] : List UInt8)) (letterS c.2.2) (by (simp only [List.length_append, List.length_cons, List.length_nil]; omega)) zk zk (wX (((((d ++ (showF c.1).1) ++ ([59, 32] : List UInt8)) ++ (showF c.2.1).1) ++ ([59, 32] : List UInt8)) ++ letterS c.2.2) ([10] : List UInt8) (by (simp only [List.length_append, List.length_cons, List.length_nil]; omega)) zk zk (zK (zS (zL (zD (zY (zJ (xR i 1 (zK (zS ?_)))))))))))))))))))))))))
  have p := ((p.tr n).tr k).tr h
  have b := zB b h
  have a := a.below h
  have g := ((g.below n).below k).below h
  exact zD ⟨_, zo, (i + 1), ((((((d ++ (showF c.1).1) ++ ([59, 32] : List UInt8)) ++ (showF c.2.1).1) ++ ([59, 32] : List UInt8)) ++ letterS c.2.2) ++ ([10] : List UInt8)), rfl, q, zk, a, g, b, p, zo, wrr_step s za⟩
 intro ad
 exact nQ (zF (yU (zV (zV (yI (zD (wR (zJ (zK (nQ (yA (yK [(S d)] (hd := q) ⟨congrArg S (by first | (rw [s, List.take_of_length_le zo]; done)), p⟩))))))))))))
end Go.Proofs.YtddnhlobnembaaaGreatDoor
end

/- === Wrb4 === -/
section
/- Walks, written by my program walk.py out of the specification rb4.py: each theorem says what one function returns and that it leaves memory as it was. -/
namespace Go.Proofs.YtddnhlobnembaaaGreatDoor
open Go Go.RowKit Go.FK _root_.Go.Proofs.Tryz
set_option maxHeartbeats 4000000
set_option maxRecDepth 100000
theorem eqagg26 (a0 : Int) (a1 : Int) (a2 : Int) (c0 : Int) (c1 : Int) (c2 : Int) (w : World) : (Op.equalIn 10000 26 (.agg #[.int .i32 a0, .int .i32 a1, .int .u8 a2]) (.agg #[.int .i32 c0, .int .i32 c1, .int .u8 c2])).run Tryz.prog w = .ok (a0 == c0 && a1 == c1 && a2 == c2) w := by
 have k : Tryz.prog.underlying 26 = some (.struct (Tryz.prog.fieldsOf 26)) := by kernel_rfl
 have g : Tryz.prog.stoodInHeld 26 = false := by kernel_rfl
 rw [show (10000 : Nat) = 9999 + 1 from rfl, run_equalIn_agg w 9999 26 _ _ k g]
 simp only [Program.fieldsOf, Tryz.underlying26]
 have e := Tryz.isAgg21
 have d := Tryz.sizeOf21
 have a := Tryz.underlying21
 have f := Tryz.isAgg24
 have c := Tryz.sizeOf24
 have b := Tryz.underlying24
 try simp only [S]
 go_simp
 by_cases j : a0 = c0 <;> by_cases i : a1 = c1 <;> by_cases h : a2 = c2 <;> simp [j, i, h]
theorem c_whole8 (ak : Nat) (m_rs : Nat) (rs : List (Int × (Int × Int × Int))) (ar : Value) (ts : List (Int × Int)) (m : Nat) (z : Value) (ws : List (Int × Int × Int)) (ay : Value) (wt : List (Int × Int)) (w : World) (j : w.heap[ak]? = some (.cells [(.map (some m_rs)), ar].toArray 69 (0, 0))) (i : w.heap[m_rs]? = some (gmObj .i32 vBrk rs)) (cb : GmAt .i32 vI32 w ar ts) (g : w.heap[m]? = some (.cells [z, ay].toArray 78 (0, 0))) (af : Rd w encBrk z ws) (ca : Rd w encTw ay wt) (hrel : RelB rs ts ws wt) (hm : rs.length ≤ 1114112) :
  Calls Tryz.prog 13 #[(pt ak 0), (pt m 0)] w (Ret fun v w' => v = (.bool true) ∧ Below w.heap.size w w') := by
 refine enterM (args := [(pt ak 0), (pt m 0)]) func13 rfl (zk : _ = 37) zk ?_
 have o := Below.refl w.heap.size w
 have ad := af
 have co := hrel.len
 refine wR (zN [(pt m 0)] 31 ?_)
 intro b1 w2 a0
 have b9 := a0.ge o.size
 have b := a0.here
 refine zN [(.bool false)] 4 ?_
 intro b4 w5 aw
 have o := o.tr a0.below
 have br := aw.ge o.size
 have f := aw.here
 refine nR (zN [(I6 0)] 3 ?_)
 intro b7 w8 am
 have i := zB (zB i a0.below) aw.below
 have ae := yS (yE i) am
 have o := o.tr aw.below
 have be := am.ge o.size
 have a := am.here
 refine z1 0 (I6 0) [(I6 0)] a ?_
 intro cq ai
 have j := zB (zB (zB j a0.below) aw.below) am.below
 have j := zH j ai (zP j a zi)
 have g := zB (zB (zB g a0.below) aw.below) am.below
 have g := zH g ai (zP g a zi)
 have b := zB (zB b aw.below) am.below
 have b := zH b ai (zP b a zi)
 have f := zB f am.below
 have f := zH f ai (zP f a zi)
 have a := ai.here
 have i := zH (zB i am.below) ai ae
 refine nW (wR (zJ (zc (c_Rows ak m_rs rs ar _ j i) ?_)))
 rintro _ p ⟨an, rfl, d, ax, ag⟩
 have o := (o.tr am.below).trans (ai.below be)
 replace ax := Nat.le_trans o.size ax
 refine nQ (yF ?_)
 have j := zB j ag
 have al : ak < p.heap.size := yE j
 have i := zB i ag
 have ab : m_rs < p.heap.size := yE i
 have g := zB g ag
 have az : m < p.heap.size := yE g
 have b := zB b ag
 have av : b1 < p.heap.size := yE b
 have f := zB f ag
 have aq : b4 < p.heap.size := yE f
 have a := zB a ag
 have ao : b7 < p.heap.size := yE a
 have ac : an < p.heap.size := yE d
 have o := o.tr ag
 have ba := o.size
 have b8 := o
 refine W_range 58 [(pt an 0)] (rowsB rs) zk (fun _ _ => rfl) (it_Rows12 an ak m_rs rs ar (by first | omega | assumption)) ⟨d, j, i⟩ ((fun D A B h hc hd => ⟨zZ h.1 hc (fun h => Nat.not_lt.2 (hd _ h) ac), zZ h.2.1 hc (fun h => Nat.not_lt.2 (hd _ h) al), zZ h.2.2 hc (fun h => Nat.not_lt.2 (hd _ h) ab)⟩)) (by intro x; rfl) (fun K bb A => ∃ (k : Nat), (A.heap[ak]? = some (.cells [(.map (some m_rs)), ar].toArray 69 (0, 0))) ∧ (A.heap[m_rs]? = some (gmObj .i32 vBrk rs)) ∧ (A.heap[m]? = some (.cells [z, ay].toArray 78 (0, 0))) ∧ (A.heap[b1]? = some (.cells [(pt m 0)].toArray 31 (0, 0))) ∧ (A.heap[b4]? = some (.cells [(.bool false)].toArray 4 (0, 0))) ∧ (A.heap[b7]? = some (.cells [(N6 k)].toArray 3 (0, 0))) ∧ (A.heap[an]? = some (.cells [(pt ak 0)].toArray 27 (0, 0))) ∧ (Below w.heap.size w A) ∧ (k = bb.length)) (fun K c bb A => False) ?_ ?_ ?_ ?_ ?_ ?_
 ·intro A hA
  exact ⟨0, zB j hA, zB i hA, zB g hA, zB b hA, zB f hA, zB a hA, zB d hA, o.trans (hA.mono o.size), by rfl⟩
 ·rintro K bb A B ⟨k, j, i, g, b, f, a, d, o, p1⟩ hc
  exact ⟨k, zZ j hc (fun h => Nat.not_lt.2 h.1 al), zZ i hc (fun h => Nat.not_lt.2 h.1 ab), zZ g hc (fun h => Nat.not_lt.2 h.1 az), zZ b hc (fun h => Nat.not_lt.2 h.1 av), zZ f hc (fun h => Nat.not_lt.2 h.1 aq), zZ a hc (fun h => Nat.not_lt.2 h.1 ao), zZ d hc (fun h => Nat.not_lt.2 h.1 ac), hc.below o o.size (fun k h => Nat.le_trans ba h.1), p1⟩
 ·intro K c _ A B h hc; exact h.elim
 ·intro l K bb x A hi hN cn hK a5
  obtain ⟨k, j, i, g, b, f, a, d, o, p1⟩ := hi
  have hk := Kp.refl (p.heap.size) K A
  have bq : ¬ Iv (p.heap.size) K ak := fun h => Nat.not_lt.2 h.1 al
  have a3 : ¬ Iv (p.heap.size) K m_rs := fun h => Nat.not_lt.2 h.1 ab
  have bo : ¬ Iv (p.heap.size) K m := fun h => Nat.not_lt.2 h.1 az
  have bh : ¬ Iv (p.heap.size) K b1 := fun h => Nat.not_lt.2 h.1 av
  have bf : ¬ Iv (p.heap.size) K b4 := fun h => Nat.not_lt.2 h.1 aq
  have a6 : ¬ Iv (p.heap.size) K b7 := fun h => Nat.not_lt.2 h.1 ao
  have a7 : ¬ Iv (p.heap.size) K an := fun h => Nat.not_lt.2 h.1 ac
  have af := ad.below o
  have d := hN.1
  have j := hN.2.1
  have i := hN.2.2
  have ce := hrel.lt a5
  refine zY (zN [(I3 0), (I3 0), (U8 0)] 26 ?_)
  intro bn cg n
  have ap := yS (yE i) n
  have bv := n.ge o.size
  have a9 : ¬ Iv p.heap.size K bn := fun h => by have := h.2; have := n.num; omega
  replace hk := hk.ch (Ch.of_below n.below) hK (fun _ h => h.elim)
  replace hK := Nat.le_trans hK (n.below.size)
  have r := n.here
  refine wE [(I3 x.1), (I3 x.2.1), (U8 x.2.2)] r ?_
  intro ci q
  replace hk := hk.ch (Ch.of_wrote q) hK (fun k e h => a9 (e ▸ h))
  replace hK := Nat.le_trans hK (Nat.le_of_eq q.size.symm)
  have j := zB j n.below
  have j := zH j q (zP j r zi)
  have g := zB g n.below
  have g := zH g q (zP g r zi)
  have b := zB b n.below
  have b := zH b q (zP b r zi)
  have f := zB f n.below
  have f := zH f q (zP f r zi)
  have a := zB a n.below
  have a := zH a q (zP a r zi)
  have d := zB d n.below
  have d := zH d q (zP d r zi)
  have r := q.here
  refine zS (zD ⟨hk, ?_⟩)
  intro b5 y
  have o := (o.tr n.below).trans (q.below bv)
  have o := y.below o o.size (fun k h => Nat.le_trans ba h.1)
  replace hK := Nat.le_trans hK y.size
  replace hk := Kp.refl (p.heap.size) K b5
  refine yF (yC (yC (W_draws 18 zk zk zk ?_)))
  intro cp s
  replace hk := hk.ch (Ch.of_below s) hK (fun _ h => h.elim)
  replace hK := Nat.le_trans hK (s.size)
  have o := o.tr s
  have g := zB (zZ g y bo) s
  have b := zB (zZ b y bh) s
  have a := zB (zZ a y a6) s
  have af := ad.below o
  refine I_quiet 0 zk zk zk zk (zX b7 0 (N6 k) zk zf (zQ a rfl) (zX b1 0 (pt m 0) zk zf (zQ b rfl) (yD (pt m 0) zf (yD (pt m 0) zf (zX m 0 z zk zf (zQ g rfl) (Lq_len 22 26 (ws).length z rfl underlying22 (af).len zk (xB .i64 ((k : Nat) : Int) (((ws).length : Nat) : Int) ((ws).length ≤ k) rfl (cmpN_ge k ((ws).length)) zk zk ?_ ?_)))))))
  ·intro b0
   replace b0 : (ws).length ≤ k := by omega
   exfalso; omega
  intro bx
  replace bx : k < (ws).length := by omega
  have r := zB (zZ r y a9) s
  refine zU (qw (xZ bn 0 [(I3 x.1), (I3 x.2.1), (U8 x.2.2)] zk zf zf (vT r 0 zk) (qw (zX b1 0 (pt m 0) zk zf (zQ b rfl) (qw (yD (pt m 0) zf (qw (yD (pt m 0) zf (qw (zX m 0 z zk zf (zQ g rfl) (qw (zX b7 0 (N6 k) zk zf (zQ a rfl) (qw ?_)))))))))))))
  have hz := yB ws k (by first | omega | assumption); obtain ⟨aa, bt⟩ := hz
  have hz := (af).at (k := 3) zj bt
  obtain ⟨bk, a4, bl, bm⟩ := hz
  refine yM (k := .i64) z k _ bk a4 wM bl (by first | omega | assumption) zk zk (qw (xZ bk (a4 + k * 3) [(I3 aa.1), (I3 aa.2.1), (U8 aa.2.2)] zk zf zf bm (qw (vD [(I3 x.1), (I3 x.2.1), (U8 x.2.2)] [(I3 aa.1), (I3 aa.2.1), (U8 aa.2.2)] (x.1 == aa.1 && x.2.1 == aa.2.1 && x.2.2 == aa.2.2) zk zk zk (eqagg26 x.1 x.2.1 x.2.2 aa.1 aa.2.1 aa.2.2) ?_ ?_))))
  ·intro bp
   exfalso; first | exact brk_ne bp (hrel.at a5 p1 za) | exact brk_nb bp (hrel.at a5 p1 za)
  intro bs
  replace bs : x.1 = aa.1 ∧ x.2.1 = aa.2.1 ∧ x.2.2 = aa.2.2 := by simpa [and_assoc] using bs
  refine qF (yG ?_)
  intro cm u
  replace hk := hk.ch (Ch.of_below u) hK (fun _ h => h.elim)
  replace hK := Nat.le_trans hK (u.size)
  have a := zB a u
  refine zD (zF (zW (zD (zY (zO 0 a rfl (xR k 1 (z1 0 (N6 (k + 1)) [(N6 (k + 1))] a ?_)))))))
  intro ck t
  replace hk := hk.ch (Ch.of_wrote t) hK (fun k e h => a6 (e ▸ h))
  replace hK := Nat.le_trans hK (Nat.le_of_eq t.size.symm)
  have j := zB (zB (zZ j y bq) s) u
  have j := zH j t (zP j a zi)
  have g := zB g u
  have g := zH g t (zP g a zi)
  have b := zB b u
  have b := zH b t (zP b a zi)
  have f := zB (zB (zZ f y bf) s) u
  have f := zH f t (zP f a zi)
  have d := zB (zB (zZ d y a7) s) u
  have d := zH d t (zP d a zi)
  have a := t.here
  refine zS (zL ?_)
  have o := (o.tr u).trans (t.below be)
  have i := zH (zB (zB (zZ (zH (zB i n.below) q ap) y a3) s) u) t ae
  refine wI hk ⟨d, j, i⟩ ⟨(k + 1), j, i, g, b, f, a, d, o, ?_⟩
  (rw [List.length_append, List.length_singleton]; omega)
 ·intro K A hi cf ah
  obtain ⟨k, j, i, g, b, f, a, d, o, p1⟩ := hi
  have af := ad.below o
  refine zL (zD (yC (xD 7 8 zk zk zk ?_)))
  intro cj aj
  refine ⟨fun w => (w.heap[b7]? = some (.cells [(N6 k)].toArray 3 (0, 0))) ∧ (w.heap[b1]? = some (.cells [(pt m 0)].toArray 31 (0, 0))) ∧ (w.heap[m]? = some (.cells [z, ay].toArray 78 (0, 0))), ?_⟩
  have g := zB g aj
  have b := zB b aj
  have a := zB a aj
  refine mt 0 [0, 6, 7] rfl (N6 k) ⟨a, b, g⟩ (yQ b7 0 (N6 k) zk zf (fun w2 h2 => zQ h2.1 rfl)) (hq := (zA yY)) (mt 1 [1, 2, 3, 4, 5, 6, 7] rfl (pt m 0) ⟨a, b, g⟩ (yQ b1 0 (pt m 0) zk zf (fun w2 h2 => zQ h2.2.1 rfl)) (hq := (zA yY)) (mp 2 rfl (pt m 0) (.inr ⟨a, b, g⟩) zg (hq := (zA yY)) (mp 3 rfl (pt m 0) (.inr ⟨a, b, g⟩) zg (hq := (zA yY)) (mt 4 [4, 5, 6, 7] rfl z ⟨a, b, g⟩ (yQ m 0 z zk zf (fun w2 h2 => zQ h2.2.2 rfl)) (hq := (zA yY)) (yH 5 zk ?_)))))
  refine yR 5 rfl ?_ rfl
  have o := o.tr aj
  have af := ad.below o
  refine zln underlying22 (af).len (zS ?_)
  refine ⟨rfl, .inr ⟨a, b, g⟩, yH 6 zk (yR 6 rfl ?_ rfl)⟩
  refine nEq k ((ws).length) ?_ ?_
  ·intro cc
   refine zS ?_
   refine ⟨rfl, .inr ⟨a, b, g⟩, yH 7 zk (yR 7 rfl ?_ rfl)⟩
   have f := zB f aj
   refine z1 0 (.bool true) [(.bool true)] f ?_
   intro cd a8
   have ah := zB ah aj
   have ah := zH ah a8 (zP ah f zi)
   have f := a8.here
   refine zS ?_
   refine ⟨rfl, .inl zk, yT zk (zD (yA (wN (ds := [⟨.collected p.heap.size, #[]⟩]) zk (wH ah ?_))))⟩
   intro cl bc
   have f := zH f bc (zP f ah zi)
   refine vI [.cell 4 4] [(.bool true)] rfl ⟨⟨⟨b4, 0, none⟩, zk, wJ zk (zQ f rfl)⟩, trivial⟩ ?_
   have o := (o.trans (a8.below br)).trans (bc.below ba)
   exact ⟨rfl, o⟩
  intro bu
  exfalso; (rw [p1, hrel.rows] at bu; exact bu rfl)
 intro K c _ x A _ h; exact h.elim
theorem c_told_nil (a : Value) (asked : List (Int)) (w : World) (h : Rd w encI32 a asked) :
  Calls Tryz.prog 12 #[(.pointer none), (.pointer none), a] w (Ret fun v w' => v = (.bool true) ∧ Below w.heap.size w w') := by
 refine enterM (args := [(.pointer none), (.pointer none), a]) func12 rfl (zk : _ = 167) zk ?_
 have e := Below.refl w.heap.size w
 refine wR (zN [(.pointer none)] 31 ?_)
 intro n o f
 have j := f.ge e.size
 have c := f.here
 refine zN [(.bool false)] 4 ?_
 intro k l d
 have e := e.tr f.below
 have g := d.ge e.size
 have b := d.here
 have c := zB c d.below
 refine nW (wR (zJ (zr (.bool true) (zJ (zs (zs (xS (nQ (zT (wR (zJ (zr (.bool true) (zJ (zw (zO 0 c rfl (zw (zr (.bool true) (xS (z1 0 (.bool true) [(.bool true)] b ?_)))))))))))))))))))
 intro m i
 have b := i.here
 refine nQ (yA (zI (wN (ds := []) zk (vI [.cell 6 4] [(.bool true)] rfl ⟨⟨⟨k, 0, none⟩, zk, wJ zk (zQ b rfl)⟩, trivial⟩ ?_))))
 have e := (e.tr d.below).trans (i.below g)
 exact ⟨rfl, e⟩
theorem c_told8w (am : Nat) (m_rs : Nat) (rs : List (Int × (Int × Int × Int))) (ax : Value) (ts : List (Int × Int)) (u : Nat) (ae : Value) (ws : List (Int × Int × Int)) (az : Value) (wt : List (Int × Int)) (ar : Value) (asked : List (Int)) (w : World) (r : w.heap[am]? = some (.cells [(.map (some m_rs)), ax].toArray 69 (0, 0))) (p : w.heap[m_rs]? = some (gmObj .i32 vBrk rs)) (aw : GmAt .i32 vI32 w ax ts) (q : w.heap[u]? = some (.cells [ae, az].toArray 78 (0, 0))) (ab : Rd w encBrk ae ws) (aj : Rd w encTw az wt) (z : Rd w encI32 ar asked) (hrel : RelB rs ts ws wt) (hm : rs.length ≤ 1114112) (ht : wt.length ≤ 9223372036854775807) (hv : ∀ x ∈ ws, 0 ≤ x.2.2 ∧ x.2.2 ≤ 255) (ha : asked.length ≤ 9223372036854775807) :
  Calls Tryz.prog 12 #[(pt am 0), (pt u 0), ar] w (Ret fun v w' => v = (.bool true) ∧ Below w.heap.size w w') := by
 refine enterM (args := [(pt am 0), (pt u 0), ar]) func12 rfl (zk : _ = 167) zk ?_
 have t := Below.refl w.heap.size w
 have al := z
 have a1 := aw
 have ac := ab
 have ap := aj
 have qo := hrel.len
 refine wR (zN [(pt u 0)] 31 ?_)
 intro b1 w2 h5
 have o7 := h5.ge t.size
 have g := h5.here
 refine zN [(.bool false)] 4 ?_
 intro b4 w5 hj
 replace t := t.tr h5.below
 have fq := hj.ge t.size
 have n := hj.here
 replace g := zB g hj.below
 refine nW (wR (zJ (zr (.bool false) (zJ (zw (zO 0 g rfl (zw (zr (.bool false) (xY (nQ (zF (zW (zD (W_cut (fun s0 w0 => (s0.ds = []) ∧ ([0, 4, 6].map s0.f = [(pt am 0), (pt b1 0), (pt b4 0)]) ∧ (Rd w0 encI32 ar asked) ∧ (GmAt .i32 vI32 w0 ax ts) ∧ (Rd w0 encBrk ae ws) ∧ (Rd w0 encTw az wt) ∧ (w0.heap[am]? = some (.cells [(.map (some m_rs)), ax].toArray 69 (0, 0))) ∧ (w0.heap[m_rs]? = some (gmObj .i32 vBrk rs)) ∧ (w0.heap[u]? = some (.cells [ae, az].toArray 78 (0, 0))) ∧ (w0.heap[b1]? = some (.cells [(pt u 0)].toArray 31 (0, 0))) ∧ (w0.heap[b4]? = some (.cells [(.bool false)].toArray 4 (0, 0))) ∧ (Below w.heap.size w w0)) ?_ ?_))))))))))))))
 ·refine wR (zK (nQ (yF ?_)))
  replace t := t.tr hj.below
  replace r := zB (zB r h5.below) hj.below
  replace q := zB (zB q h5.below) hj.below
  replace z := al.below t
  replace p := zB (zB p h5.below) hj.below
  replace aw := a1.below t
  replace ab := ac.below t
  replace aj := ap.below t
  refine xG (fun m s0 w0 => ∃ (i : Nat), (m = asked.length - i) ∧ (s0.ds = []) ∧ ([0, 2, 4, 6, 7].map s0.f = [(pt am 0), ar, (pt b1 0), (pt b4 0), (N6 i)]) ∧ (Rd w0 encI32 ar asked) ∧ (GmAt .i32 vI32 w0 ax ts) ∧ (Rd w0 encBrk ae ws) ∧ (Rd w0 encTw az wt) ∧ (w0.heap[am]? = some (.cells [(.map (some m_rs)), ax].toArray 69 (0, 0))) ∧ (w0.heap[m_rs]? = some (gmObj .i32 vBrk rs)) ∧ (w0.heap[u]? = some (.cells [ae, az].toArray 78 (0, 0))) ∧ (w0.heap[b1]? = some (.cells [(pt u 0)].toArray 31 (0, 0))) ∧ (w0.heap[b4]? = some (.cells [(.bool false)].toArray 4 (0, 0))) ∧ (Below w.heap.size w w0) ∧ (i ≤ asked.length)) _ ⟨0, rfl, zk, zk, z, aw, ab, aj, r, p, q, g, n, t, (Nat.zero_le _)⟩ ?_
  rintro m7 s8 w9 ⟨i, hm, cd, ef, z, aw, ab, aj, r, p, q, g, n, t, i1⟩
  refine yZ ef (yC (wR (zJ (zJ (zln underlying23 (z).len (nLt i ((asked).length) ?_ ?_))))))
  ·intro qn
   refine zJ (zw (zJ (zw (nLt i 60 ?_ ?_))))
   ·intro q2
    refine xS (nQ (zT (zW (zD (yC (yF (wR (zJ (zJ (zJ ?_))))))))))
    have hz := yB asked i (by first | omega | assumption); obtain ⟨a2, hw⟩ := hz
    refine zE1 z xC i hw rfl fun _ => (zc (c_Bracket am m_rs rs ax ts a2 _ r (GmAt.of p) aw) ?_)
    rintro _ qt ⟨rfl, gh⟩
    replace g := zB g gh
    refine zJ (zr (I3 ((brkF rs a2).1)) (zr (U8 ((brkF rs a2).2)) (zK (zK (nW (yP zk zk (zX b1 0 (pt u 0) zk zf (zQ g rfl) (zU (zU ?_)))))))))
    replace t := t.tr gh
    replace z := al.below t
    have hz := (z).at (k := 1) zj hw
    obtain ⟨l6, id, k8, l8⟩ := hz
    replace q := zB q gh
    replace ab := ac.below t
    replace aj := ap.below t
    refine yM (k := .i64) ar i _ l6 id xC k8 (by first | omega | assumption) zk zk (zX l6 (id + i * 1) (I3 a2) zk zf (l8 0 _ rfl) (xE 33 [(pt u 0), (I3 a2)] (.tuple #[(I3 ((brkF (kv ws) a2).1)), (U8 ((brkF (kv ws) a2).2))]) zg (fun wq hbq => c_rBracket u ae ws az wt a2 wq (zB q hbq) (ab.below hbq) (aj.below hbq) (by first | omega | assumption)) (zU (yD (I3 ((brkF (kv ws) a2).1)) zf (yD (U8 ((brkF (kv ws) a2).2)) zf (xH (xH (yG ?_))))))))
    intro qz gj
    refine zD (yC (yC (yP zk zk (zU (zU (xB .i32 ((brkF rs a2).1) ((brkF (kv ws) a2).1) ((brkF rs a2).1 ≠ (brkF (kv ws) a2).1) rfl (xN ((brkF rs a2).1) ((brkF (kv ws) a2).1)) zk zk ?_ ?_))))))
    ·intro kh
     replace kh : (brkF rs a2).1 ≠ (brkF (kv ws) a2).1 := by omega
     exfalso; exact kh (congrArg Prod.fst (hrel.brk _))
    intro ma
    replace ma : (brkF rs a2).1 = (brkF (kv ws) a2).1 := by omega
    refine zU (qw (zU (qw (zU (qw (xB .u8 ((brkF rs a2).2) ((brkF (kv ws) a2).2) ((brkF rs a2).2 ≠ (brkF (kv ws) a2).2) rfl (xN ((brkF rs a2).2) ((brkF (kv ws) a2).2)) zk zk ?_ ?_))))))
    ·intro kc
     replace kc : (brkF rs a2).2 ≠ (brkF (kv ws) a2).2 := by omega
     exfalso; exact kc (congrArg Prod.snd (hrel.brk _))
    intro mc
    replace mc : (brkF rs a2).2 = (brkF (kv ws) a2).2 := by omega
    refine qF (zU (qw (zU (qw (zU (qw (zU (qw ?_))))))))
    replace t := t.tr gj
    replace z := al.below t
    have hz := (z).at (k := 1) zj hw
    obtain ⟨kf, ix, k1, k6⟩ := hz
    replace r := zB (zB r gh) gj
    replace g := zB g gj
    replace p := zB (zB p gh) gj
    replace aw := a1.below t
    refine yM (k := .i64) ar i _ kf ix xC k1 (by first | omega | assumption) zk zk (qw (zX kf (ix + i * 1) (I3 a2) zk zf (k6 0 _ rfl) (qw (xE 25 [(pt am 0), (I3 a2)] (I3 (twnF ts a2)) zg (fun wq hbq => c_Twin am m_rs rs ax ts a2 wq (zB r hbq) (GmAt.of (zB p hbq)) (aw.below hbq)) (qw (zX b1 0 (pt u 0) zk zf (zQ g rfl) (qw (zU (qw (zU (qw ?_)))))))))))
    have hz := (z).at (k := 1) zj hw
    obtain ⟨lf, ik, lz, kn⟩ := hz
    replace q := zB q gj
    replace ab := ac.below t
    replace aj := ap.below t
    refine yM (k := .i64) ar i _ lf ik xC lz (by first | omega | assumption) zk zk (qw (zX lf (ik + i * 1) (I3 a2) zk zf (kn 0 _ rfl) (qw (xE 34 [(pt u 0), (I3 a2)] (I3 (twF ws wt (askB a2))) zg (fun wq hbq => c_rTwin u ae ws az wt a2 wq (zB q hbq) (ab.below hbq) (aj.below hbq) (by first | omega | assumption) (by first | omega | assumption)) (qw (xB .i32 (twnF ts a2) (twF ws wt (askB a2)) ((twnF ts a2) ≠ (twF ws wt (askB a2))) rfl (xN (twnF ts a2) (twF ws wt (askB a2))) zk zk ?_ ?_))))))
    ·intro li
     replace li : (twnF ts a2) ≠ (twF ws wt (askB a2)) := by omega
     exfalso; exact li (hrel.twn _)
    intro mb
    replace mb : (twnF ts a2) = (twF ws wt (askB a2)) := by omega
    refine qF (yG ?_)
    intro q3 gl
    refine zD (zF (zW (zD (wR (zK (nQ (yF ?_)))))))
    replace t := t.tr gl
    replace r := zB r gl
    replace q := zB q gl
    replace g := zB g gl
    replace n := zB (zB (zB n gh) gj) gl
    replace z := al.below t
    replace p := zB p gl
    replace aw := a1.below t
    replace ab := ac.below t
    replace aj := ap.below t
    refine xG (fun m s0 w0 => ∃ (j : Nat), (m = asked.length - j) ∧ (s0.ds = []) ∧ ([0, 2, 4, 6, 7, 12].map s0.f = [(pt am 0), ar, (pt b1 0), (pt b4 0), (N6 i), (N6 j)]) ∧ (Rd w0 encI32 ar asked) ∧ (GmAt .i32 vI32 w0 ax ts) ∧ (Rd w0 encBrk ae ws) ∧ (Rd w0 encTw az wt) ∧ (w0.heap[am]? = some (.cells [(.map (some m_rs)), ax].toArray 69 (0, 0))) ∧ (w0.heap[m_rs]? = some (gmObj .i32 vBrk rs)) ∧ (w0.heap[u]? = some (.cells [ae, az].toArray 78 (0, 0))) ∧ (w0.heap[b1]? = some (.cells [(pt u 0)].toArray 31 (0, 0))) ∧ (w0.heap[b4]? = some (.cells [(.bool false)].toArray 4 (0, 0))) ∧ (Below w.heap.size w w0) ∧ (j ≤ asked.length)) _ ⟨0, rfl, cd, zk, z, aw, ab, aj, r, p, q, g, n, t, (Nat.zero_le _)⟩ ?_
    rintro qx qm q6 ⟨j, hm, cd, ef, z, aw, ab, aj, r, p, q, g, n, t, i2⟩
    refine yZ ef (yC (wR (zJ (zJ (zln underlying23 (z).len (nLt j ((asked).length) ?_ ?_))))))
    ·intro qr
     refine zJ (zw (zJ (zw (nLt j 60 ?_ ?_))))
     ·intro qu
      refine xS (nQ (zT (zW (zD (yC (yF (yC (yP zk zk (zU (zU (zU ?_)))))))))))
      have hz := yB asked i (by first | omega | assumption); obtain ⟨eg, ib⟩ := hz
      have hz := (z).at (k := 1) zj ib
      obtain ⟨kp, h9, kz, lk⟩ := hz
      refine yM (k := .i64) ar i _ kp h9 xC kz (by first | omega | assumption) zk zk (zX kp (h9 + i * 1) (I3 eg) zk zf (lk 0 _ rfl) (zU (zU ?_)))
      have hz := yB asked j (by first | omega | assumption); obtain ⟨el, ii⟩ := hz
      have hz := (z).at (k := 1) zj ii
      obtain ⟨km, il, lh, k5⟩ := hz
      refine yM (k := .i64) ar j _ km il xC lh (by first | omega | assumption) zk zk (zX km (il + j * 1) (I3 el) zk zf (k5 0 _ rfl) (xE 26 [(pt am 0), (I3 eg), (I3 el)] (.bool (mtcF rs ts eg el)) zg (fun wq hbq => c_Matches am m_rs rs ax ts eg el wq (zB r hbq) (GmAt.of (zB p hbq)) (aw.below hbq)) (yL (mtcF rs ts eg el) ?_ ?_)))
      ·intro qp
       refine zX b1 0 (pt u 0) zk zf (zQ g rfl) (zU (zU ?_))
       have hz := (z).at (k := 1) zj ib
       obtain ⟨ke, iw, j8, kw⟩ := hz
       refine yM (k := .i64) ar i _ ke iw xC j8 (by first | omega | assumption) zk zk (zX ke (iw + i * 1) (I3 eg) zk zf (kw 0 _ rfl) (zU (zU ?_)))
       have hz := (z).at (k := 1) zj ii
       obtain ⟨kk, iq, l0, kr⟩ := hz
       refine yM (k := .i64) ar j _ kk iq xC l0 (by first | omega | assumption) zk zk (zX kk (iq + j * 1) (I3 el) zk zf (kr 0 _ rfl) (xE 35 [(pt u 0), (I3 eg), (I3 el)] (.bool (mtcW ws wt eg el)) zg (fun wq hbq => c_rMatches u ae ws az wt eg el wq (zB q hbq) (ab.below hbq) (aj.below hbq) (by first | omega | assumption) (by first | omega | assumption)) (yL (mtcW ws wt eg el) ?_ ?_)))
       ·intro qv
        refine yD (.bool false) zf (yG ?_)
        intro qy gp
        refine zD (zF (zW (zL (zD (zY (zJ (xR j 1 (zK (zS ?_)))))))))
        replace t := t.tr gp
        replace r := zB r gp
        replace q := zB q gp
        replace g := zB g gp
        replace n := zB n gp
        replace z := al.below t
        replace p := zB p gp
        replace aw := a1.below t
        replace ab := ac.below t
        replace aj := ap.below t
        exact zD ⟨_, zo, (j + 1), rfl, cd, zk, z, aw, ab, aj, r, p, q, g, n, t, zo⟩
       intro q4
       refine yD (.bool true) zf (yG ?_)
       intro qq jm
       replace n := zB n jm
       refine zD (zT (wR (z1 0 (.bool false) [(.bool false)] n ?_)))
       intro q5 jf
       replace n := jf.here
       refine nQ (yA (zR (zI (zI (zR (zR (zI (zI (zR (zI (wN (ds := []) cd (vI [.cell 6 4] [(.bool false)] rfl ⟨⟨⟨b4, 0, none⟩, zk, wJ zk (zQ n rfl)⟩, trivial⟩ ?_))))))))))))
       replace t := (t.tr jm).trans (jf.below fq)
       exact ⟨eb (by (exfalso; simp_all [hrel.mtc]; done)), t⟩
      intro q0
      refine zX b1 0 (pt u 0) zk zf (zQ g rfl) (zU (zU ?_))
      have hz := (z).at (k := 1) zj ib
      obtain ⟨ku, ig, ky, ki⟩ := hz
      refine yM (k := .i64) ar i _ ku ig xC ky (by first | omega | assumption) zk zk (zX ku (ig + i * 1) (I3 eg) zk zf (ki 0 _ rfl) (zU (zU ?_)))
      have hz := (z).at (k := 1) zj ii
      obtain ⟨ln, iv, ka, ks⟩ := hz
      refine yM (k := .i64) ar j _ ln iv xC ka (by first | omega | assumption) zk zk (zX ln (iv + j * 1) (I3 el) zk zf (ks 0 _ rfl) (xE 35 [(pt u 0), (I3 eg), (I3 el)] (.bool (mtcW ws wt eg el)) zg (fun wq hbq => c_rMatches u ae ws az wt eg el wq (zB q hbq) (ab.below hbq) (aj.below hbq) (by first | omega | assumption) (by first | omega | assumption)) (yL (mtcW ws wt eg el) ?_ ?_)))
      ·intro p7
       refine yD (.bool true) zf (yG ?_)
       intro pm ih
       replace n := zB n ih
       refine zD (zT (wR (z1 0 (.bool false) [(.bool false)] n ?_)))
       intro mz ie
       replace n := ie.here
       refine nQ (yA (zR (zI (zI (zR (zR (zI (zI (zR (zI (wN (ds := []) cd (vI [.cell 6 4] [(.bool false)] rfl ⟨⟨⟨b4, 0, none⟩, zk, wJ zk (zQ n rfl)⟩, trivial⟩ ?_))))))))))))
       replace t := (t.tr ih).trans (ie.below fq)
       exact ⟨eb (by (exfalso; simp_all [hrel.mtc]; done)), t⟩
      intro qc
      refine yD (.bool false) zf (yG ?_)
      intro n9 e7
      refine zD (zF (zW (zL (zD (zY (zJ (xR j 1 (zK (zS ?_)))))))))
      replace t := t.tr e7
      replace r := zB r e7
      replace q := zB q e7
      replace g := zB g e7
      replace n := zB n e7
      replace z := al.below t
      replace p := zB p e7
      replace aw := a1.below t
      replace ab := ac.below t
      replace aj := ap.below t
      exact zD ⟨_, zo, (j + 1), rfl, cd, zk, z, aw, ab, aj, r, p, q, g, n, t, zo⟩
     intro pv
     exact xS (nQ (zF (yU (zV (zV (yI (zL (zD (zY (zJ (xR i 1 (zK (zS (zD ⟨_, zo, (i + 1), rfl, cd, zk, z, aw, ab, aj, r, p, q, g, n, t, zo⟩))))))))))))))
    intro n7
    exact zJ (zs (zs (xY (nQ (zF (yU (zV (zV (yI (zL (zD (zY (zJ (xR i 1 (zK (zS (zD ⟨_, zo, (i + 1), rfl, cd, zk, z, aw, ab, aj, r, p, q, g, n, t, zo⟩)))))))))))))))))
   intro pe
   refine xS (nQ (zF (yU (zV (zV (yI (zD ⟨cd, zk, z, aw, ab, aj, r, p, q, g, n, t⟩)))))))
  intro ny
  refine zJ (zs (zs (xY (nQ (zF (yU (zV (zV (yI (zD ⟨cd, zk, z, aw, ab, aj, r, p, q, g, n, t⟩))))))))))
 rintro ow p0 ⟨cd, ef, z, aw, ab, aj, r, p, q, g, n, t⟩
 refine yZ ef (wR (zJ (zc (c_Rows am m_rs rs ax _ r p) ?_)))
 rintro _ pp ⟨ag, rfl, a, g5, fm⟩
 replace g5 := Nat.le_trans t.size g5
 refine zK (nW (wR (zN [(I6 0)] 3 ?_)))
 intro f9 om c2
 replace p := zB p fm
 have ad := yS (yE p) c2
 replace t := t.tr fm
 have cl := c2.ge t.size
 have d := c2.here
 refine z1 0 (I6 0) [(I6 0)] d ?_
 intro nu dz
 replace r := zB (zB r fm) c2.below
 replace r := zH r dz (zP r d zi)
 replace q := zB (zB q fm) c2.below
 replace q := zH q dz (zP q d zi)
 replace g := zB (zB g fm) c2.below
 replace g := zH g dz (zP g d zi)
 replace n := zB (zB n fm) c2.below
 replace n := zH n dz (zP n d zi)
 replace a := zB a c2.below
 replace a := zH a dz (zP a d zi)
 replace d := dz.here
 replace t := (t.tr c2.below).trans (dz.below cl)
 replace ab := ac.below t
 refine nQ (yF (W_unroll 5 (yC (yC (yP zk zk (zX f9 0 (I6 0) zk zf (zQ d rfl) (zX b1 0 (pt u 0) zk zf (zQ g rfl) (yD (pt u 0) zf (yD (pt u 0) zf (zX u 0 ae zk zf (zQ q rfl) (Lq_len 22 26 (ws).length ae rfl underlying22 (ab).len zk (xB .i64 ((0 : Nat) : Int) (((ws).length : Nat) : Int) (0 ≤ (ws).length) rfl (qV 0 ((ws).length)) zk zk ?_ ?_))))))))))))
 ·intro ll
  replace ll : 0 ≤ (ws).length := by omega
  refine yG ?_
  intro pb d5
  refine zD (zT (zW (zD (yC (yF (wR (zN [(I6 0)] 3 ?_)))))))
  intro ew ng ct
  replace p := zB (zH (zB p c2.below) dz ad) d5
  have ah := yS (yE p) ct
  replace d := zB d d5
  have af := yS (yE d) ct
  have an := NE.symm af
  replace t := t.tr d5
  have a9 := ct.ge t.size
  have b := ct.here
  refine z1 0 (I6 0) [(I6 0)] b ?_
  intro ak dv
  replace r := zB (zB r d5) ct.below
  replace r := zH r dv (zP r b zi)
  replace q := zB (zB q d5) ct.below
  replace q := zH q dv (zP q b zi)
  replace g := zB (zB g d5) ct.below
  replace g := zH g dv (zP g b zi)
  replace n := zB (zB n d5) ct.below
  replace n := zH n dv (zP n b zi)
  replace a := zB (zB a d5) ct.below
  replace a := zH a dv (zP a b zi)
  replace b := dv.here
  refine nW (wR (zJ (nQ (yF ?_))))
  have gv : am < ak.heap.size := yE r
  replace p := zH (zB p ct.below) dv ah
  have ej : m_rs < ak.heap.size := yE p
  have hu : u < ak.heap.size := yE q
  have g7 : b1 < ak.heap.size := yE g
  have g6 : b4 < ak.heap.size := yE n
  have d7 : ag < ak.heap.size := yE a
  replace d := zH (zB d ct.below) dv af
  have gm : f9 < ak.heap.size := yE d
  have go : ew < ak.heap.size := yE b
  replace t := (t.tr ct.below).trans (dv.below a9)
  have f2 := t.size
  have pz := t
  refine W_range 58 [(pt ag 0)] (rowsB rs) zk (fun _ _ => rfl) (it_Rows12 ag am m_rs rs ax (by first | omega | assumption)) ⟨a, r, p⟩ ((fun D A B h hc hd => ⟨zZ h.1 hc (fun h => Nat.not_lt.2 (hd _ h) d7), zZ h.2.1 hc (fun h => Nat.not_lt.2 (hd _ h) gv), zZ h.2.2 hc (fun h => Nat.not_lt.2 (hd _ h) ej)⟩)) (by intro x; rfl) (fun K a7 A => ∃ (k : Nat), (A.heap[am]? = some (.cells [(.map (some m_rs)), ax].toArray 69 (0, 0))) ∧ (A.heap[m_rs]? = some (gmObj .i32 vBrk rs)) ∧ (A.heap[u]? = some (.cells [ae, az].toArray 78 (0, 0))) ∧ (A.heap[b1]? = some (.cells [(pt u 0)].toArray 31 (0, 0))) ∧ (A.heap[b4]? = some (.cells [(.bool false)].toArray 4 (0, 0))) ∧ (A.heap[ag]? = some (.cells [(pt am 0)].toArray 27 (0, 0))) ∧ (A.heap[f9]? = some (.cells [(I6 0)].toArray 3 (0, 0))) ∧ (A.heap[ew]? = some (.cells [(N6 k)].toArray 3 (0, 0))) ∧ (Below w.heap.size w A) ∧ (k = a7.length)) (fun K c a7 A => False) ?_ ?_ ?_ ?_ ?_ ?_
  ·intro A hA
   exact ⟨0, zB r hA, zB p hA, zB q hA, zB g hA, zB n hA, zB a hA, zB d hA, zB b hA, t.trans (hA.mono t.size), by rfl⟩
  ·rintro K a7 A B ⟨k, r, p, q, g, n, a, d, b, t, p1⟩ hc
   exact ⟨k, zZ r hc (fun h => Nat.not_lt.2 h.1 gv), zZ p hc (fun h => Nat.not_lt.2 h.1 ej), zZ q hc (fun h => Nat.not_lt.2 h.1 hu), zZ g hc (fun h => Nat.not_lt.2 h.1 g7), zZ n hc (fun h => Nat.not_lt.2 h.1 g6), zZ a hc (fun h => Nat.not_lt.2 h.1 d7), zZ d hc (fun h => Nat.not_lt.2 h.1 gm), zZ b hc (fun h => Nat.not_lt.2 h.1 go), hc.below t t.size (fun k h => Nat.le_trans f2 h.1), p1⟩
  ·intro K c _ A B h hc; exact h.elim
  ·intro l K a7 x A hi hN iz hK a5
   obtain ⟨k, r, p, q, g, n, a, d, b, t, p1⟩ := hi
   have hk := Kp.refl (ak.heap.size) K A
   have et : ¬ Iv (ak.heap.size) K am := fun h => Nat.not_lt.2 h.1 gv
   have a6 : ¬ Iv (ak.heap.size) K m_rs := fun h => Nat.not_lt.2 h.1 ej
   have e1 : ¬ Iv (ak.heap.size) K u := fun h => Nat.not_lt.2 h.1 hu
   have d0 : ¬ Iv (ak.heap.size) K b1 := fun h => Nat.not_lt.2 h.1 g7
   have d2 : ¬ Iv (ak.heap.size) K b4 := fun h => Nat.not_lt.2 h.1 g6
   have bj : ¬ Iv (ak.heap.size) K ag := fun h => Nat.not_lt.2 h.1 d7
   have cx : ¬ Iv (ak.heap.size) K f9 := fun h => Nat.not_lt.2 h.1 gm
   have bc : ¬ Iv (ak.heap.size) K ew := fun h => Nat.not_lt.2 h.1 go
   have ab := ac.below t
   replace a := hN.1
   replace r := hN.2.1
   replace p := hN.2.2
   have iy := hrel.lt a5
   refine zY (zN [(I3 0), (I3 0), (U8 0)] 26 ?_)
   intro jk p3 bx
   have aq := yS (yE p) bx
   have dx := bx.ge t.size
   have bb : ¬ Iv ak.heap.size K jk := fun h => by have := h.2; have := bx.num; omega
   replace hk := hk.ch (Ch.of_below bx.below) hK (fun _ h => h.elim)
   replace hK := Nat.le_trans hK (bx.below.size)
   have aa := bx.here
   refine wE [(I3 x.1), (I3 x.2.1), (U8 x.2.2)] aa ?_
   intro nh cp
   replace hk := hk.ch (Ch.of_wrote cp) hK (fun k e h => bb (e ▸ h))
   replace hK := Nat.le_trans hK (Nat.le_of_eq cp.size.symm)
   replace r := zB r bx.below
   replace r := zH r cp (zP r aa zi)
   replace q := zB q bx.below
   replace q := zH q cp (zP q aa zi)
   replace g := zB g bx.below
   replace g := zH g cp (zP g aa zi)
   replace n := zB n bx.below
   replace n := zH n cp (zP n aa zi)
   replace a := zB a bx.below
   replace a := zH a cp (zP a aa zi)
   replace d := zB d bx.below
   replace d := zH d cp (zP d aa zi)
   replace b := zB b bx.below
   replace b := zH b cp (zP b aa zi)
   replace aa := cp.here
   refine zS (zD ⟨hk, ?_⟩)
   intro l5 db
   replace t := (t.tr bx.below).trans (cp.below dx)
   replace t := db.below t t.size (fun k h => Nat.le_trans f2 h.1)
   replace hK := Nat.le_trans hK db.size
   replace hk := Kp.refl (ak.heap.size) K l5
   refine yF (yC (yC (W_draws 18 zk zk zk ?_)))
   intro md co
   replace hk := hk.ch (Ch.of_below co) hK (fun _ h => h.elim)
   replace hK := Nat.le_trans hK (co.size)
   replace t := t.tr co
   replace q := zB (zZ q db e1) co
   replace b := zB (zZ b db bc) co
   replace g := zB (zZ g db d0) co
   replace ab := ac.below t
   refine I_quiet 0 zk zk zk zk (zX ew 0 (N6 k) zk zf (zQ b rfl) (zX b1 0 (pt u 0) zk zf (zQ g rfl) (yD (pt u 0) zf (yD (pt u 0) zf (zX u 0 ae zk zf (zQ q rfl) (Lq_len 22 26 (ws).length ae rfl underlying22 (ab).len zk (xB .i64 ((k : Nat) : Int) (((ws).length : Nat) : Int) ((ws).length ≤ k) rfl (cmpN_ge k ((ws).length)) zk zk ?_ ?_)))))))
   ·intro lv
    replace lv : (ws).length ≤ k := by omega
    exfalso; omega
   intro lc
   replace lc : k < (ws).length := by omega
   replace aa := zB (zZ aa db bb) co
   refine zU (qw (xZ jk 0 [(I3 x.1), (I3 x.2.1), (U8 x.2.2)] zk zf zf (vT aa 0 zk) (qw (zX b1 0 (pt u 0) zk zf (zQ g rfl) (qw (yD (pt u 0) zf (qw (yD (pt u 0) zf (qw (zX u 0 ae zk zf (zQ q rfl) (qw (zX ew 0 (N6 k) zk zf (zQ b rfl) (qw ?_)))))))))))))
   have hz := yB ws k (by first | omega | assumption); obtain ⟨c6, jv⟩ := hz
   have hz := (ab).at (k := 3) zj jv
   obtain ⟨jj, h0, j4, jt⟩ := hz
   refine yM (k := .i64) ae k _ jj h0 wM j4 (by first | omega | assumption) zk zk (qw (xZ jj (h0 + k * 3) [(I3 c6.1), (I3 c6.2.1), (U8 c6.2.2)] zk zf zf jt (qw (vD [(I3 x.1), (I3 x.2.1), (U8 x.2.2)] [(I3 c6.1), (I3 c6.2.1), (U8 c6.2.2)] (x.1 == c6.1 && x.2.1 == c6.2.1 && x.2.2 == c6.2.2) zk zk zk (eqagg26 x.1 x.2.1 x.2.2 c6.1 c6.2.1 c6.2.2) ?_ ?_))))
   ·intro i0
    exfalso; first | exact brk_ne i0 (hrel.at a5 p1 za) | exact brk_nb i0 (hrel.at a5 p1 za)
   intro i8
   replace i8 : x.1 = c6.1 ∧ x.2.1 = c6.2.1 ∧ x.2.2 = c6.2.2 := by simpa [and_assoc] using i8
   refine qF (yG ?_)
   intro oz c4
   replace hk := hk.ch (Ch.of_below c4) hK (fun _ h => h.elim)
   replace hK := Nat.le_trans hK (c4.size)
   replace b := zB b c4
   refine zD (zF (zW (zD (wR (zO 0 b rfl (xR k 1 (z1 0 (N6 (k + 1)) [(N6 (k + 1))] b ?_)))))))
   intro nn dc
   replace hk := hk.ch (Ch.of_wrote dc) hK (fun k e h => bc (e ▸ h))
   replace hK := Nat.le_trans hK (Nat.le_of_eq dc.size.symm)
   replace r := zB (zB (zZ r db et) co) c4
   replace r := zH r dc (zP r b zi)
   replace q := zB q c4
   replace q := zH q dc (zP q b zi)
   replace g := zB g c4
   replace g := zH g dc (zP g b zi)
   replace n := zB (zB (zZ n db d2) co) c4
   replace n := zH n dc (zP n b zi)
   replace a := zB (zB (zZ a db bj) co) c4
   replace a := zH a dc (zP a b zi)
   replace b := dc.here
   replace d := zH (zB (zB (zZ d db cx) co) c4) dc af
   refine nR (zO 0 b rfl (zO 0 d rfl (nEq (k + 1) 0 ?_ ?_)))
   ·intro nv
    exfalso; omega
   intro nw
   refine nQ (zF (zW (zL ?_)))
   replace t := (t.tr c4).trans (dc.below a9)
   replace p := zH (zB (zB (zZ (zH (zB p bx.below) cp aq) db a6) co) c4) dc ah
   refine wI hk ⟨a, r, p⟩ ⟨(k + 1), r, p, q, g, n, a, d, b, t, ?_⟩
   (rw [List.length_append, List.length_singleton]; omega)
  ·intro K A hi g4 o
   obtain ⟨k, r, p, q, g, n, a, d, b, t, p1⟩ := hi
   have z := al.below t
   have aw := a1.below t
   have ab := ac.below t
   have aj := ap.below t
   refine zL (zD (W_cut (fun s0 w0 => (s0.ds = [⟨.collected ak.heap.size, #[]⟩]) ∧ ([0, 4, 6, 13, 14, 15, 111, 112, 113, 114, 115, 116, 117, 118, 119, 122].map s0.f = [(pt am 0), (pt b1 0), (pt b4 0), (.func (.func 58) #[] #[(pt ag 0)]), (pt f9 0), (pt ew 0), (pt am 0), (.func (.func 58) #[] #[(pt ag 0)]), (I6 0), (pt u 0), (pt u 0), (pt u 0), ae, (N6 ((ws).length)), (.bool true), (.func (.func 58) #[] #[(pt ag 0)])]) ∧ (Rd w0 encI32 ar asked) ∧ (GmAt .i32 vI32 w0 ax ts) ∧ (Rd w0 encBrk ae ws) ∧ (Rd w0 encTw az wt) ∧ (w0.heap[am]? = some (.cells [(.map (some m_rs)), ax].toArray 69 (0, 0))) ∧ (w0.heap[m_rs]? = some (gmObj .i32 vBrk rs)) ∧ (w0.heap[u]? = some (.cells [ae, az].toArray 78 (0, 0))) ∧ (w0.heap[b1]? = some (.cells [(pt u 0)].toArray 31 (0, 0))) ∧ (w0.heap[b4]? = some (.cells [(.bool false)].toArray 4 (0, 0))) ∧ (w0.heap[ag]? = some (.cells [(pt am 0)].toArray 27 (0, 0))) ∧ (w0.heap[f9]? = some (.cells [(I6 0)].toArray 3 (0, 0))) ∧ (w0.heap[ew]? = some (.cells [(N6 k)].toArray 3 (0, 0))) ∧ (w0.heap[ak.heap.size]? = some (.deferred (some []))) ∧ (Below w.heap.size w w0)) ?_ ?_))
   ·refine yC (yP zk zk (zX ew 0 (N6 k) zk zf (zQ b rfl) (zX f9 0 (I6 0) zk zf (zQ d rfl) (xB .i64 ((k : Nat) : Int) ((0 : Nat) : Int) (k ≠ 0) rfl (cmpN_ne k 0) zk zk ?_ ?_))))
    ·intro l1
     replace l1 : k ≠ 0 := by omega
     refine zU (qw (zX ew 0 (N6 k) zk zf (zQ b rfl) (qw (zX b1 0 (pt u 0) zk zf (zQ g rfl) (qw (yD (pt u 0) zf (qw (yD (pt u 0) zf (qw (zX u 0 ae zk zf (zQ q rfl) (qw (Lq_len 22 26 (ws).length ae rfl underlying22 (ab).len zk (qw (xB .i64 ((k : Nat) : Int) (((ws).length : Nat) : Int) (k ≠ (ws).length) rfl (cmpN_ne k ((ws).length)) zk zk ?_ ?_))))))))))))))
     ·intro kj
      replace kj : k ≠ (ws).length := by omega
      exfalso; first | omega | (rw [hrel.rows] at p1; omega)
     intro lo
     replace lo : k = (ws).length := by omega
     refine qT (yG ?_)
     intro ml dq
     refine zD (zF (zW ?_))
     replace t := t.tr dq
     replace o := zB o dq
     replace r := zB r dq
     replace a := zB a dq
     replace q := zB q dq
     replace d := zB d dq
     replace b := zB b dq
     replace g := zB g dq
     replace n := zB n dq
     replace z := al.below t
     replace p := zB p dq
     replace aw := a1.below t
     replace ab := ac.below t
     replace aj := ap.below t
     refine zD ⟨(congrArg (List.cons _) cd), zk, z, aw, ab, aj, r, p, q, g, n, a, d, b, o, t⟩
    intro lx
    replace lx : k = 0 := by omega
    refine zU (qs (qs (qs (qs (qs (qs (qs (qF (yG ?_)))))))))
    intro mf dm
    refine zD (zF (zW ?_))
    replace t := t.tr dm
    replace o := zB o dm
    replace r := zB r dm
    replace a := zB a dm
    replace q := zB q dm
    replace d := zB d dm
    replace b := zB b dm
    replace g := zB g dm
    replace n := zB n dm
    replace z := al.below t
    replace p := zB p dm
    replace aw := a1.below t
    replace ab := ac.below t
    replace aj := ap.below t
    refine zD ⟨(congrArg (List.cons _) cd), zk, z, aw, ab, aj, r, p, q, g, n, a, d, b, o, t⟩
   rintro nr pi ⟨cd, ef, z, aw, ab, aj, r, p, q, g, n, a, d, b, o, t⟩
   refine yZ ef (wR (zO 0 d rfl (zr (.bool false) (nQ (zF (zW (zL (zD (yC (wR (zO 0 d rfl (nQ (zY (zN [(I6 0)] 3 ?_))))))))))))))
   intro fr ni cc
   have ad := yS (yE p) cc
   have an := yS (yE b) cc
   have af := NE.symm an
   have cl := cc.ge t.size
   have d := cc.here
   refine z1 0 (I6 0) [(I6 0)] d ?_
   intro m2 cz
   replace r := zB r cc.below
   replace r := zH r cz (zP r d zi)
   replace q := zB q cc.below
   replace q := zH q cz (zP q d zi)
   replace g := zB g cc.below
   replace g := zH g cz (zP g d zi)
   replace n := zB n cc.below
   replace n := zH n cz (zP n d zi)
   replace a := zB a cc.below
   replace a := zH a cz (zP a d zi)
   replace o := zB o cc.below
   replace o := zH o cz (zP o d zi)
   replace d := cz.here
   refine nQ (zY (zO 0 d rfl (xR 0 1 (z1 0 (I6 1) [(I6 1)] d ?_))))
   intro ot cy
   replace r := zH r cy (zP r d zi)
   replace q := zH q cy (zP q d zi)
   replace g := zH g cy (zP g d zi)
   replace n := zH n cy (zP n d zi)
   replace a := zH a cy (zP a d zi)
   replace o := zH o cy (zP o d zi)
   replace d := cy.here
   replace t := ((t.tr cc.below).trans (cz.below cl)).trans (cy.below cl)
   replace ab := ac.below t
   refine zS (thenQ_round (yC (yC (yP zk zk (zX fr 0 (I6 1) zk zf (zQ d rfl) (zX b1 0 (pt u 0) zk zf (zQ g rfl) (yD (pt u 0) zf (yD (pt u 0) zf (zX u 0 ae zk zf (zQ q rfl) (Lq_len 22 26 (ws).length ae rfl underlying22 (ab).len zk (xB .i64 ((1 : Nat) : Int) (((ws).length : Nat) : Int) (1 ≤ (ws).length) rfl (qV 1 ((ws).length)) zk zk ?_ ?_)))))))))))
   ·intro lm
    replace lm : 1 ≤ (ws).length := by omega
    refine yG ?_
    intro mj dl
    refine zD (zT (zW (zD (yC (yF (wR (zN [(I6 0)] 3 ?_)))))))
    intro e0 o4 cj
    replace p := zB (zH (zH (zB p cc.below) cz ad) cy ad) dl
    have ah := yS (yE p) cj
    replace d := zB d dl
    have af := yS (yE d) cj
    replace b := zB (zH (zH (zB b cc.below) cz an) cy an) dl
    have an := NE.symm af
    replace t := t.tr dl
    have a9 := cj.ge t.size
    have b := cj.here
    refine z1 0 (I6 0) [(I6 0)] b ?_
    intro ao dn
    replace r := zB (zB r dl) cj.below
    replace r := zH r dn (zP r b zi)
    replace q := zB (zB q dl) cj.below
    replace q := zH q dn (zP q b zi)
    replace g := zB (zB g dl) cj.below
    replace g := zH g dn (zP g b zi)
    replace n := zB (zB n dl) cj.below
    replace n := zH n dn (zP n b zi)
    replace a := zB (zB a dl) cj.below
    replace a := zH a dn (zP a b zi)
    replace o := zB (zB o dl) cj.below
    replace o := zH o dn (zP o b zi)
    replace b := dn.here
    refine nW (wR (zJ (nQ (yF ?_))))
    have fv : am < ao.heap.size := yE r
    replace p := zH (zB p cj.below) dn ah
    have dw : m_rs < ao.heap.size := yE p
    have gr : u < ao.heap.size := yE q
    have fy : b1 < ao.heap.size := yE g
    have f8 : b4 < ao.heap.size := yE n
    have dh : ag < ao.heap.size := yE a
    have e3 : ak.heap.size < ao.heap.size := yE o
    replace d := zH (zB d cj.below) dn af
    have fj : fr < ao.heap.size := yE d
    have ff : e0 < ao.heap.size := yE b
    replace t := (t.tr cj.below).trans (dn.below a9)
    have fx := t.size
    have px := t
    refine W_range 58 [(pt ag 0)] (rowsB rs) zk (fun _ _ => rfl) (it_Rows12 ag am m_rs rs ax (by first | omega | assumption)) ⟨a, r, p⟩ ((fun D A B h hc hd => ⟨zZ h.1 hc (fun h => Nat.not_lt.2 (hd _ h) dh), zZ h.2.1 hc (fun h => Nat.not_lt.2 (hd _ h) fv), zZ h.2.2 hc (fun h => Nat.not_lt.2 (hd _ h) dw)⟩)) (by intro x; rfl) (fun K a7 A => ∃ (k : Nat), (A.heap[am]? = some (.cells [(.map (some m_rs)), ax].toArray 69 (0, 0))) ∧ (A.heap[m_rs]? = some (gmObj .i32 vBrk rs)) ∧ (A.heap[u]? = some (.cells [ae, az].toArray 78 (0, 0))) ∧ (A.heap[b1]? = some (.cells [(pt u 0)].toArray 31 (0, 0))) ∧ (A.heap[b4]? = some (.cells [(.bool false)].toArray 4 (0, 0))) ∧ (A.heap[ag]? = some (.cells [(pt am 0)].toArray 27 (0, 0))) ∧ (A.heap[ak.heap.size]? = some (.deferred (some []))) ∧ (A.heap[fr]? = some (.cells [(I6 1)].toArray 3 (0, 0))) ∧ (A.heap[e0]? = some (.cells [(N6 k)].toArray 3 (0, 0))) ∧ (Below w.heap.size w A) ∧ (k = a7.length) ∧ (k < 1)) (fun K c a7 A => (∃ (k : Nat), (c = .exit 6) ∧ (A.heap[am]? = some (.cells [(.map (some m_rs)), ax].toArray 69 (0, 0))) ∧ (A.heap[m_rs]? = some (gmObj .i32 vBrk rs)) ∧ (A.heap[u]? = some (.cells [ae, az].toArray 78 (0, 0))) ∧ (A.heap[b1]? = some (.cells [(pt u 0)].toArray 31 (0, 0))) ∧ (A.heap[b4]? = some (.cells [(.bool false)].toArray 4 (0, 0))) ∧ (A.heap[ag]? = some (.cells [(pt am 0)].toArray 27 (0, 0))) ∧ (A.heap[ak.heap.size]? = some (.deferred (some []))) ∧ (A.heap[fr]? = some (.cells [(I6 1)].toArray 3 (0, 0))) ∧ (A.heap[e0]? = some (.cells [(N6 k)].toArray 3 (0, 0))) ∧ (Below w.heap.size w A) ∧ (k = 1))) ?_ ?_ ?_ ?_ ?_ ?_
    ·intro A hA
     exact ⟨0, zB r hA, zB p hA, zB q hA, zB g hA, zB n hA, zB a hA, zB o hA, zB d hA, zB b hA, t.trans (hA.mono t.size), by rfl, by decide⟩
    ·rintro K a7 A B ⟨k, r, p, q, g, n, a, o, d, b, t, p1, p2⟩ hc
     exact ⟨k, zZ r hc (fun h => Nat.not_lt.2 h.1 fv), zZ p hc (fun h => Nat.not_lt.2 h.1 dw), zZ q hc (fun h => Nat.not_lt.2 h.1 gr), zZ g hc (fun h => Nat.not_lt.2 h.1 fy), zZ n hc (fun h => Nat.not_lt.2 h.1 f8), zZ a hc (fun h => Nat.not_lt.2 h.1 dh), zZ o hc (fun h => Nat.not_lt.2 h.1 e3), zZ d hc (fun h => Nat.not_lt.2 h.1 fj), zZ b hc (fun h => Nat.not_lt.2 h.1 ff), hc.below t t.size (fun k h => Nat.le_trans fx h.1), p1, p2⟩
    ·rintro K c a7 A B (⟨k, he, r, p, q, g, n, a, o, d, b, t, q1⟩) hc
     exact ⟨k, he, zZ r hc (fun h => Nat.not_lt.2 h.1 fv), zZ p hc (fun h => Nat.not_lt.2 h.1 dw), zZ q hc (fun h => Nat.not_lt.2 h.1 gr), zZ g hc (fun h => Nat.not_lt.2 h.1 fy), zZ n hc (fun h => Nat.not_lt.2 h.1 f8), zZ a hc (fun h => Nat.not_lt.2 h.1 dh), zZ o hc (fun h => Nat.not_lt.2 h.1 e3), zZ d hc (fun h => Nat.not_lt.2 h.1 fj), zZ b hc (fun h => Nat.not_lt.2 h.1 ff), hc.below t t.size (fun k h => Nat.le_trans fx h.1), q1⟩
    ·intro l K a7 x A hi hN iz hK a5
     obtain ⟨k, r, p, q, g, n, a, o, d, b, t, p1, p2⟩ := hi
     have hk := Kp.refl (ao.heap.size) K A
     have et : ¬ Iv (ao.heap.size) K am := fun h => Nat.not_lt.2 h.1 fv
     have a6 : ¬ Iv (ao.heap.size) K m_rs := fun h => Nat.not_lt.2 h.1 dw
     have e1 : ¬ Iv (ao.heap.size) K u := fun h => Nat.not_lt.2 h.1 gr
     have d0 : ¬ Iv (ao.heap.size) K b1 := fun h => Nat.not_lt.2 h.1 fy
     have d2 : ¬ Iv (ao.heap.size) K b4 := fun h => Nat.not_lt.2 h.1 f8
     have bj : ¬ Iv (ao.heap.size) K ag := fun h => Nat.not_lt.2 h.1 dh
     have ee : ¬ Iv (ao.heap.size) K ak.heap.size := fun h => Nat.not_lt.2 h.1 e3
     have cx : ¬ Iv (ao.heap.size) K fr := fun h => Nat.not_lt.2 h.1 fj
     have bc : ¬ Iv (ao.heap.size) K e0 := fun h => Nat.not_lt.2 h.1 ff
     have ab := ac.below t
     replace a := hN.1
     replace r := hN.2.1
     replace p := hN.2.2
     have iy := hrel.lt a5
     refine zY (zN [(I3 0), (I3 0), (U8 0)] 26 ?_)
     intro je pk be
     have aq := yS (yE p) be
     have dx := be.ge t.size
     have bb : ¬ Iv ao.heap.size K je := fun h => by have := h.2; have := be.num; omega
     replace hk := hk.ch (Ch.of_below be.below) hK (fun _ h => h.elim)
     replace hK := Nat.le_trans hK (be.below.size)
     have aa := be.here
     refine wE [(I3 x.1), (I3 x.2.1), (U8 x.2.2)] aa ?_
     intro pj b5
     replace hk := hk.ch (Ch.of_wrote b5) hK (fun k e h => bb (e ▸ h))
     replace hK := Nat.le_trans hK (Nat.le_of_eq b5.size.symm)
     replace r := zB r be.below
     replace r := zH r b5 (zP r aa zi)
     replace q := zB q be.below
     replace q := zH q b5 (zP q aa zi)
     replace g := zB g be.below
     replace g := zH g b5 (zP g aa zi)
     replace n := zB n be.below
     replace n := zH n b5 (zP n aa zi)
     replace a := zB a be.below
     replace a := zH a b5 (zP a aa zi)
     replace o := zB o be.below
     replace o := zH o b5 (zP o aa zi)
     replace d := zB d be.below
     replace d := zH d b5 (zP d aa zi)
     replace b := zB b be.below
     replace b := zH b b5 (zP b aa zi)
     replace aa := b5.here
     refine zS (zD ⟨hk, ?_⟩)
     intro lr cg
     replace t := (t.tr be.below).trans (b5.below dx)
     replace t := cg.below t t.size (fun k h => Nat.le_trans fx h.1)
     replace hK := Nat.le_trans hK cg.size
     replace hk := Kp.refl (ao.heap.size) K lr
     refine yF (yC (yC (W_draws 18 zk zk zk ?_)))
     intro ql b7
     replace hk := hk.ch (Ch.of_below b7) hK (fun _ h => h.elim)
     replace hK := Nat.le_trans hK (b7.size)
     replace t := t.tr b7
     replace q := zB (zZ q cg e1) b7
     replace b := zB (zZ b cg bc) b7
     replace g := zB (zZ g cg d0) b7
     replace ab := ac.below t
     refine I_quiet 0 zk zk zk zk (zX e0 0 (N6 k) zk zf (zQ b rfl) (zX b1 0 (pt u 0) zk zf (zQ g rfl) (yD (pt u 0) zf (yD (pt u 0) zf (zX u 0 ae zk zf (zQ q rfl) (Lq_len 22 26 (ws).length ae rfl underlying22 (ab).len zk (xB .i64 ((k : Nat) : Int) (((ws).length : Nat) : Int) ((ws).length ≤ k) rfl (cmpN_ge k ((ws).length)) zk zk ?_ ?_)))))))
     ·intro kl
      replace kl : (ws).length ≤ k := by omega
      exfalso; omega
     intro j6
     replace j6 : k < (ws).length := by omega
     replace aa := zB (zZ aa cg bb) b7
     refine zU (qw (xZ je 0 [(I3 x.1), (I3 x.2.1), (U8 x.2.2)] zk zf zf (vT aa 0 zk) (qw (zX b1 0 (pt u 0) zk zf (zQ g rfl) (qw (yD (pt u 0) zf (qw (yD (pt u 0) zf (qw (zX u 0 ae zk zf (zQ q rfl) (qw (zX e0 0 (N6 k) zk zf (zQ b rfl) (qw ?_)))))))))))))
     have hz := yB ws k (by first | omega | assumption); obtain ⟨c0, jq⟩ := hz
     have hz := (ab).at (k := 3) zj jq
     obtain ⟨ja, h3, ju, jr⟩ := hz
     refine yM (k := .i64) ae k _ ja h3 wM ju (by first | omega | assumption) zk zk (qw (xZ ja (h3 + k * 3) [(I3 c0.1), (I3 c0.2.1), (U8 c0.2.2)] zk zf zf jr (qw (vD [(I3 x.1), (I3 x.2.1), (U8 x.2.2)] [(I3 c0.1), (I3 c0.2.1), (U8 c0.2.2)] (x.1 == c0.1 && x.2.1 == c0.2.1 && x.2.2 == c0.2.2) zk zk zk (eqagg26 x.1 x.2.1 x.2.2 c0.1 c0.2.1 c0.2.2) ?_ ?_))))
     ·intro jl
      exfalso; first | exact brk_ne jl (hrel.at a5 p1 za) | exact brk_nb jl (hrel.at a5 p1 za)
     intro ji
     replace ji : x.1 = c0.1 ∧ x.2.1 = c0.2.1 ∧ x.2.2 = c0.2.2 := by simpa [and_assoc] using ji
     refine qF (yG ?_)
     intro n3 b8
     replace hk := hk.ch (Ch.of_below b8) hK (fun _ h => h.elim)
     replace hK := Nat.le_trans hK (b8.size)
     replace b := zB b b8
     refine zD (zF (zW (zD (wR (zO 0 b rfl (xR k 1 (z1 0 (N6 (k + 1)) [(N6 (k + 1))] b ?_)))))))
     intro qd ca
     replace hk := hk.ch (Ch.of_wrote ca) hK (fun k e h => bc (e ▸ h))
     replace hK := Nat.le_trans hK (Nat.le_of_eq ca.size.symm)
     replace r := zB (zB (zZ r cg et) b7) b8
     replace r := zH r ca (zP r b zi)
     replace q := zB q b8
     replace q := zH q ca (zP q b zi)
     replace g := zB g b8
     replace g := zH g ca (zP g b zi)
     replace n := zB (zB (zZ n cg d2) b7) b8
     replace n := zH n ca (zP n b zi)
     replace a := zB (zB (zZ a cg bj) b7) b8
     replace a := zH a ca (zP a b zi)
     replace o := zB (zB (zZ o cg ee) b7) b8
     replace o := zH o ca (zP o b zi)
     replace b := ca.here
     replace d := zH (zB (zB (zZ d cg cx) b7) b8) ca af
     refine nR (zO 0 b rfl (zO 0 d rfl (nEq (k + 1) 1 ?_ ?_)))
     ·intro qg
      refine nQ (zT (yU (zxo ?_)))
      replace t := (t.tr b8).trans (ca.below a9)
      replace p := zH (zB (zB (zZ (zH (zB p be.below) b5 aq) cg a6) b7) b8) ca ah
      exact round_exit hk (⟨(k + 1), rfl, r, p, q, g, n, a, o, d, b, t, zo⟩)
     intro p9
     refine nQ (zF (zW (zL ?_)))
     replace t := (t.tr b8).trans (ca.below a9)
     replace p := zH (zB (zB (zZ (zH (zB p be.below) b5 aq) cg a6) b7) b8) ca ah
     refine wI hk ⟨a, r, p⟩ ⟨(k + 1), r, p, q, g, n, a, o, d, b, t, ?_, zo⟩
     (rw [List.length_append, List.length_singleton]; omega)
    ·intro K A hi g4 s
     obtain ⟨k, r, p, q, g, n, a, o, d, b, t, p1, p2⟩ := hi
     exfalso; (rw [hrel.rows] at p1; omega)
    intro K c fz x0 A a5 hx g4 s
    obtain ⟨a7, c8⟩ : ∃ a7, a7 = fz ++ [x0] := ⟨_, rfl⟩
    rw [← c8] at a5; try rw [← c8] at hx
    rcases hx with ⟨k, rfl, r, p, q, g, n, a, o, d, b, t, q1⟩
    have z := al.below t
    have aw := a1.below t
    have ab := ac.below t
    have aj := ap.below t
    have ec : NE ak.heap.size (ao.heap.size) := Nat.ne_of_lt e3
    refine yU (yI (zD (W_cut (fun s0 w0 => (s0.ds = [⟨.collected ao.heap.size, #[]⟩, ⟨.collected ak.heap.size, #[]⟩]) ∧ ([0, 4, 6, 13, 14, 15, 111, 112, 113, 114, 115, 116, 117, 118, 119, 120, 121, 122, 159, 160, 161].map s0.f = [(pt am 0), (pt b1 0), (pt b4 0), (.func (.func 58) #[] #[(pt ag 0)]), (pt fr 0), (pt e0 0), (pt am 0), (.func (.func 58) #[] #[(pt ag 0)]), (I6 1), (pt u 0), (pt u 0), (pt u 0), ae, (N6 ((ws).length)), (.bool true), (I6 0), (I6 1), (.func (.func 58) #[] #[(pt ag 0)]), (I6 0), (.bool false), (I6 0)]) ∧ (Rd w0 encI32 ar asked) ∧ (GmAt .i32 vI32 w0 ax ts) ∧ (Rd w0 encBrk ae ws) ∧ (Rd w0 encTw az wt) ∧ (w0.heap[am]? = some (.cells [(.map (some m_rs)), ax].toArray 69 (0, 0))) ∧ (w0.heap[m_rs]? = some (gmObj .i32 vBrk rs)) ∧ (w0.heap[u]? = some (.cells [ae, az].toArray 78 (0, 0))) ∧ (w0.heap[b1]? = some (.cells [(pt u 0)].toArray 31 (0, 0))) ∧ (w0.heap[b4]? = some (.cells [(.bool false)].toArray 4 (0, 0))) ∧ (w0.heap[ag]? = some (.cells [(pt am 0)].toArray 27 (0, 0))) ∧ (w0.heap[ak.heap.size]? = some (.deferred (some []))) ∧ (w0.heap[fr]? = some (.cells [(I6 1)].toArray 3 (0, 0))) ∧ (w0.heap[e0]? = some (.cells [(N6 k)].toArray 3 (0, 0))) ∧ (w0.heap[ao.heap.size]? = some (.deferred (some []))) ∧ (Below w.heap.size w w0)) ?_ ?_)))
    ·refine yC (yP zk zk (zX e0 0 (N6 k) zk zf (zQ b rfl) (zX fr 0 (I6 1) zk zf (zQ d rfl) (xB .i64 ((k : Nat) : Int) ((1 : Nat) : Int) (k ≠ 1) rfl (cmpN_ne k 1) zk zk ?_ ?_))))
     ·intro lu
      replace lu : k ≠ 1 := by omega
      exfalso; omega
     intro lq
     replace lq : k = 1 := by omega
     refine zU (qs (qs (qs (qs (qs (qs (qs (qF (yG ?_)))))))))
     intro mq c5
     refine zD (zF (zW ?_))
     replace t := t.tr c5
     replace o := zB o c5
     replace s := zB s c5
     replace r := zB r c5
     replace a := zB a c5
     replace q := zB q c5
     replace d := zB d c5
     replace b := zB b c5
     replace g := zB g c5
     replace n := zB n c5
     replace z := al.below t
     replace p := zB p c5
     replace aw := a1.below t
     replace ab := ac.below t
     replace aj := ap.below t
     refine zD ⟨(congrArg (List.cons _) cd), zk, z, aw, ab, aj, r, p, q, g, n, a, o, d, b, s, t⟩
    rintro ou nk ⟨cd, ef, z, aw, ab, aj, r, p, q, g, n, a, o, d, b, s, t⟩
    refine yZ ef (wR (zO 0 d rfl (zr (.bool false) (nQ (zF (zW (zL (zD (yC (wR (zO 0 d rfl (nQ (zY (zN [(I6 0)] 3 ?_))))))))))))))
    intro fp mn bv
    have ad := yS (yE p) bv
    have an := yS (yE b) bv
    have af := NE.symm an
    have cl := bv.ge t.size
    have d := bv.here
    refine z1 0 (I6 1) [(I6 1)] d ?_
    intro o2 cs
    replace r := zB r bv.below
    replace r := zH r cs (zP r d zi)
    replace q := zB q bv.below
    replace q := zH q cs (zP q d zi)
    replace g := zB g bv.below
    replace g := zH g cs (zP g d zi)
    replace n := zB n bv.below
    replace n := zH n cs (zP n d zi)
    replace a := zB a bv.below
    replace a := zH a cs (zP a d zi)
    replace o := zB o bv.below
    replace o := zH o cs (zP o d zi)
    replace s := zB s bv.below
    replace s := zH s cs (zP s d zi)
    replace d := cs.here
    refine nQ (zY (zO 0 d rfl (xR 1 1 (z1 0 (I6 2) [(I6 2)] d ?_))))
    intro mx cu
    replace r := zH r cu (zP r d zi)
    replace q := zH q cu (zP q d zi)
    replace g := zH g cu (zP g d zi)
    replace n := zH n cu (zP n d zi)
    replace a := zH a cu (zP a d zi)
    replace o := zH o cu (zP o d zi)
    replace s := zH s cu (zP s d zi)
    replace d := cu.here
    replace t := ((t.tr bv.below).trans (cs.below cl)).trans (cu.below cl)
    replace ab := ac.below t
    refine zS (thenQ_round (yC (yC (yP zk zk (zX fp 0 (I6 2) zk zf (zQ d rfl) (zX b1 0 (pt u 0) zk zf (zQ g rfl) (yD (pt u 0) zf (yD (pt u 0) zf (zX u 0 ae zk zf (zQ q rfl) (Lq_len 22 26 (ws).length ae rfl underlying22 (ab).len zk (xB .i64 ((2 : Nat) : Int) (((ws).length : Nat) : Int) (2 ≤ (ws).length) rfl (qV 2 ((ws).length)) zk zk ?_ ?_)))))))))))
    ·intro kx
     replace kx : 2 ≤ (ws).length := by omega
     refine yG ?_
     intro od da
     refine zD (zT (zW (zD (yC (yF (wR (zN [(I6 0)] 3 ?_)))))))
     intro es m1 b6
     replace p := zB (zH (zH (zB p bv.below) cs ad) cu ad) da
     have ah := yS (yE p) b6
     replace d := zB d da
     have af := yS (yE d) b6
     replace b := zB (zH (zH (zB b bv.below) cs an) cu an) da
     have an := NE.symm af
     replace t := t.tr da
     have a9 := b6.ge t.size
     have b := b6.here
     refine z1 0 (I6 0) [(I6 0)] b ?_
     intro au dd
     replace r := zB (zB r da) b6.below
     replace r := zH r dd (zP r b zi)
     replace q := zB (zB q da) b6.below
     replace q := zH q dd (zP q b zi)
     replace g := zB (zB g da) b6.below
     replace g := zH g dd (zP g b zi)
     replace n := zB (zB n da) b6.below
     replace n := zH n dd (zP n b zi)
     replace a := zB (zB a da) b6.below
     replace a := zH a dd (zP a b zi)
     replace o := zB (zB o da) b6.below
     replace o := zH o dd (zP o b zi)
     replace s := zB (zB s da) b6.below
     replace s := zH s dd (zP s b zi)
     replace b := dd.here
     refine nW (wR (zJ (nQ (yF ?_))))
     have fu : am < au.heap.size := yE r
     replace p := zH (zB p b6.below) dd ah
     have d1 : m_rs < au.heap.size := yE p
     have gw : u < au.heap.size := yE q
     have f6 : b1 < au.heap.size := yE g
     have gf : b4 < au.heap.size := yE n
     have df : ag < au.heap.size := yE a
     have ey : ak.heap.size < au.heap.size := yE o
     have e2 : ao.heap.size < au.heap.size := yE s
     replace d := zH (zB d b6.below) dd af
     have fc : fp < au.heap.size := yE d
     have fd : es < au.heap.size := yE b
     replace t := (t.tr b6.below).trans (dd.below a9)
     have gi := t.size
     have nz := t
     refine W_range 58 [(pt ag 0)] (rowsB rs) zk (fun _ _ => rfl) (it_Rows12 ag am m_rs rs ax (by first | omega | assumption)) ⟨a, r, p⟩ ((fun D A B h hc hd => ⟨zZ h.1 hc (fun h => Nat.not_lt.2 (hd _ h) df), zZ h.2.1 hc (fun h => Nat.not_lt.2 (hd _ h) fu), zZ h.2.2 hc (fun h => Nat.not_lt.2 (hd _ h) d1)⟩)) (by intro x; rfl) (fun K a7 A => ∃ (k : Nat), (A.heap[am]? = some (.cells [(.map (some m_rs)), ax].toArray 69 (0, 0))) ∧ (A.heap[m_rs]? = some (gmObj .i32 vBrk rs)) ∧ (A.heap[u]? = some (.cells [ae, az].toArray 78 (0, 0))) ∧ (A.heap[b1]? = some (.cells [(pt u 0)].toArray 31 (0, 0))) ∧ (A.heap[b4]? = some (.cells [(.bool false)].toArray 4 (0, 0))) ∧ (A.heap[ag]? = some (.cells [(pt am 0)].toArray 27 (0, 0))) ∧ (A.heap[ak.heap.size]? = some (.deferred (some []))) ∧ (A.heap[ao.heap.size]? = some (.deferred (some []))) ∧ (A.heap[fp]? = some (.cells [(I6 2)].toArray 3 (0, 0))) ∧ (A.heap[es]? = some (.cells [(N6 k)].toArray 3 (0, 0))) ∧ (Below w.heap.size w A) ∧ (k = a7.length) ∧ (k < 2)) (fun K c a7 A => (∃ (k : Nat), (c = .exit 6) ∧ (A.heap[am]? = some (.cells [(.map (some m_rs)), ax].toArray 69 (0, 0))) ∧ (A.heap[m_rs]? = some (gmObj .i32 vBrk rs)) ∧ (A.heap[u]? = some (.cells [ae, az].toArray 78 (0, 0))) ∧ (A.heap[b1]? = some (.cells [(pt u 0)].toArray 31 (0, 0))) ∧ (A.heap[b4]? = some (.cells [(.bool false)].toArray 4 (0, 0))) ∧ (A.heap[ag]? = some (.cells [(pt am 0)].toArray 27 (0, 0))) ∧ (A.heap[ak.heap.size]? = some (.deferred (some []))) ∧ (A.heap[ao.heap.size]? = some (.deferred (some []))) ∧ (A.heap[fp]? = some (.cells [(I6 2)].toArray 3 (0, 0))) ∧ (A.heap[es]? = some (.cells [(N6 k)].toArray 3 (0, 0))) ∧ (Below w.heap.size w A) ∧ (k = 2))) ?_ ?_ ?_ ?_ ?_ ?_
     ·intro A hA
      exact ⟨0, zB r hA, zB p hA, zB q hA, zB g hA, zB n hA, zB a hA, zB o hA, zB s hA, zB d hA, zB b hA, t.trans (hA.mono t.size), by rfl, by decide⟩
     ·rintro K a7 A B ⟨k, r, p, q, g, n, a, o, s, d, b, t, p1, p2⟩ hc
      exact ⟨k, zZ r hc (fun h => Nat.not_lt.2 h.1 fu), zZ p hc (fun h => Nat.not_lt.2 h.1 d1), zZ q hc (fun h => Nat.not_lt.2 h.1 gw), zZ g hc (fun h => Nat.not_lt.2 h.1 f6), zZ n hc (fun h => Nat.not_lt.2 h.1 gf), zZ a hc (fun h => Nat.not_lt.2 h.1 df), zZ o hc (fun h => Nat.not_lt.2 h.1 ey), zZ s hc (fun h => Nat.not_lt.2 h.1 e2), zZ d hc (fun h => Nat.not_lt.2 h.1 fc), zZ b hc (fun h => Nat.not_lt.2 h.1 fd), hc.below t t.size (fun k h => Nat.le_trans gi h.1), p1, p2⟩
     ·rintro K c a7 A B (⟨k, he, r, p, q, g, n, a, o, s, d, b, t, q1⟩) hc
      exact ⟨k, he, zZ r hc (fun h => Nat.not_lt.2 h.1 fu), zZ p hc (fun h => Nat.not_lt.2 h.1 d1), zZ q hc (fun h => Nat.not_lt.2 h.1 gw), zZ g hc (fun h => Nat.not_lt.2 h.1 f6), zZ n hc (fun h => Nat.not_lt.2 h.1 gf), zZ a hc (fun h => Nat.not_lt.2 h.1 df), zZ o hc (fun h => Nat.not_lt.2 h.1 ey), zZ s hc (fun h => Nat.not_lt.2 h.1 e2), zZ d hc (fun h => Nat.not_lt.2 h.1 fc), zZ b hc (fun h => Nat.not_lt.2 h.1 fd), hc.below t t.size (fun k h => Nat.le_trans gi h.1), q1⟩
     ·intro l K a7 x A hi hN iz hK a5
      obtain ⟨k, r, p, q, g, n, a, o, s, d, b, t, p1, p2⟩ := hi
      have hk := Kp.refl (au.heap.size) K A
      have et : ¬ Iv (au.heap.size) K am := fun h => Nat.not_lt.2 h.1 fu
      have a6 : ¬ Iv (au.heap.size) K m_rs := fun h => Nat.not_lt.2 h.1 d1
      have e1 : ¬ Iv (au.heap.size) K u := fun h => Nat.not_lt.2 h.1 gw
      have d0 : ¬ Iv (au.heap.size) K b1 := fun h => Nat.not_lt.2 h.1 f6
      have d2 : ¬ Iv (au.heap.size) K b4 := fun h => Nat.not_lt.2 h.1 gf
      have bj : ¬ Iv (au.heap.size) K ag := fun h => Nat.not_lt.2 h.1 df
      have ee : ¬ Iv (au.heap.size) K ak.heap.size := fun h => Nat.not_lt.2 h.1 ey
      have gb : ¬ Iv (au.heap.size) K ao.heap.size := fun h => Nat.not_lt.2 h.1 e2
      have cx : ¬ Iv (au.heap.size) K fp := fun h => Nat.not_lt.2 h.1 fc
      have bc : ¬ Iv (au.heap.size) K es := fun h => Nat.not_lt.2 h.1 fd
      have ab := ac.below t
      replace a := hN.1
      replace r := hN.2.1
      replace p := hN.2.2
      have iy := hrel.lt a5
      refine zY (zN [(I3 0), (I3 0), (U8 0)] 26 ?_)
      intro i6 ox ba
      have aq := yS (yE p) ba
      have dx := ba.ge t.size
      have bb : ¬ Iv au.heap.size K i6 := fun h => by have := h.2; have := ba.num; omega
      replace hk := hk.ch (Ch.of_below ba.below) hK (fun _ h => h.elim)
      replace hK := Nat.le_trans hK (ba.below.size)
      have aa := ba.here
      refine wE [(I3 x.1), (I3 x.2.1), (U8 x.2.2)] aa ?_
      intro p5 bz
      replace hk := hk.ch (Ch.of_wrote bz) hK (fun k e h => bb (e ▸ h))
      replace hK := Nat.le_trans hK (Nat.le_of_eq bz.size.symm)
      replace r := zB r ba.below
      replace r := zH r bz (zP r aa zi)
      replace q := zB q ba.below
      replace q := zH q bz (zP q aa zi)
      replace g := zB g ba.below
      replace g := zH g bz (zP g aa zi)
      replace n := zB n ba.below
      replace n := zH n bz (zP n aa zi)
      replace a := zB a ba.below
      replace a := zH a bz (zP a aa zi)
      replace o := zB o ba.below
      replace o := zH o bz (zP o aa zi)
      replace s := zB s ba.below
      replace s := zH s bz (zP s aa zi)
      replace d := zB d ba.below
      replace d := zH d bz (zP d aa zi)
      replace b := zB b ba.below
      replace b := zH b bz (zP b aa zi)
      replace aa := bz.here
      refine zS (zD ⟨hk, ?_⟩)
      intro lw cb
      replace t := (t.tr ba.below).trans (bz.below dx)
      replace t := cb.below t t.size (fun k h => Nat.le_trans gi h.1)
      replace hK := Nat.le_trans hK cb.size
      replace hk := Kp.refl (au.heap.size) K lw
      refine yF (yC (yC (W_draws 18 zk zk zk ?_)))
      intro py b0
      replace hk := hk.ch (Ch.of_below b0) hK (fun _ h => h.elim)
      replace hK := Nat.le_trans hK (b0.size)
      replace t := t.tr b0
      replace q := zB (zZ q cb e1) b0
      replace b := zB (zZ b cb bc) b0
      replace g := zB (zZ g cb d0) b0
      replace ab := ac.below t
      refine I_quiet 0 zk zk zk zk (zX es 0 (N6 k) zk zf (zQ b rfl) (zX b1 0 (pt u 0) zk zf (zQ g rfl) (yD (pt u 0) zf (yD (pt u 0) zf (zX u 0 ae zk zf (zQ q rfl) (Lq_len 22 26 (ws).length ae rfl underlying22 (ab).len zk (xB .i64 ((k : Nat) : Int) (((ws).length : Nat) : Int) ((ws).length ≤ k) rfl (cmpN_ge k ((ws).length)) zk zk ?_ ?_)))))))
      ·intro ly
       replace ly : (ws).length ≤ k := by omega
       exfalso; omega
      intro ls
      replace ls : k < (ws).length := by omega
      replace aa := zB (zZ aa cb bb) b0
      refine zU (qw (xZ i6 0 [(I3 x.1), (I3 x.2.1), (U8 x.2.2)] zk zf zf (vT aa 0 zk) (qw (zX b1 0 (pt u 0) zk zf (zQ g rfl) (qw (yD (pt u 0) zf (qw (yD (pt u 0) zf (qw (zX u 0 ae zk zf (zQ q rfl) (qw (zX es 0 (N6 k) zk zf (zQ b rfl) (qw ?_)))))))))))))
      have hz := yB ws k (by first | omega | assumption); obtain ⟨c7, j0⟩ := hz
      have hz := (ab).at (k := 3) zj j0
      obtain ⟨i3, hr, jx, jw⟩ := hz
      refine yM (k := .i64) ae k _ i3 hr wM jx (by first | omega | assumption) zk zk (qw (xZ i3 (hr + k * 3) [(I3 c7.1), (I3 c7.2.1), (U8 c7.2.2)] zk zf zf jw (qw (vD [(I3 x.1), (I3 x.2.1), (U8 x.2.2)] [(I3 c7.1), (I3 c7.2.1), (U8 c7.2.2)] (x.1 == c7.1 && x.2.1 == c7.2.1 && x.2.2 == c7.2.2) zk zk zk (eqagg26 x.1 x.2.1 x.2.2 c7.1 c7.2.1 c7.2.2) ?_ ?_))))
      ·intro jc
       exfalso; first | exact brk_ne jc (hrel.at a5 p1 za) | exact brk_nb jc (hrel.at a5 p1 za)
      intro i9
      replace i9 : x.1 = c7.1 ∧ x.2.1 = c7.2.1 ∧ x.2.2 = c7.2.2 := by simpa [and_assoc] using i9
      refine qF (yG ?_)
      intro os bt
      replace hk := hk.ch (Ch.of_below bt) hK (fun _ h => h.elim)
      replace hK := Nat.le_trans hK (bt.size)
      replace b := zB b bt
      refine zD (zF (zW (zD (wR (zO 0 b rfl (xR k 1 (z1 0 (N6 (k + 1)) [(N6 (k + 1))] b ?_)))))))
      intro o9 bw
      replace hk := hk.ch (Ch.of_wrote bw) hK (fun k e h => bc (e ▸ h))
      replace hK := Nat.le_trans hK (Nat.le_of_eq bw.size.symm)
      replace r := zB (zB (zZ r cb et) b0) bt
      replace r := zH r bw (zP r b zi)
      replace q := zB q bt
      replace q := zH q bw (zP q b zi)
      replace g := zB g bt
      replace g := zH g bw (zP g b zi)
      replace n := zB (zB (zZ n cb d2) b0) bt
      replace n := zH n bw (zP n b zi)
      replace a := zB (zB (zZ a cb bj) b0) bt
      replace a := zH a bw (zP a b zi)
      replace o := zB (zB (zZ o cb ee) b0) bt
      replace o := zH o bw (zP o b zi)
      replace s := zB (zB (zZ s cb gb) b0) bt
      replace s := zH s bw (zP s b zi)
      replace b := bw.here
      replace d := zH (zB (zB (zZ d cb cx) b0) bt) bw af
      refine nR (zO 0 b rfl (zO 0 d rfl (nEq (k + 1) 2 ?_ ?_)))
      ·intro m5
       refine nQ (zT (yU (zxo ?_)))
       replace t := (t.tr bt).trans (bw.below a9)
       replace p := zH (zB (zB (zZ (zH (zB p ba.below) bz aq) cb a6) b0) bt) bw ah
       exact round_exit hk (⟨(k + 1), rfl, r, p, q, g, n, a, o, s, d, b, t, zo⟩)
      intro n0
      refine nQ (zF (zW (zL ?_)))
      replace t := (t.tr bt).trans (bw.below a9)
      replace p := zH (zB (zB (zZ (zH (zB p ba.below) bz aq) cb a6) b0) bt) bw ah
      refine wI hk ⟨a, r, p⟩ ⟨(k + 1), r, p, q, g, n, a, o, s, d, b, t, ?_, zo⟩
      (rw [List.length_append, List.length_singleton]; omega)
     ·intro K A hi g4 y
      obtain ⟨k, r, p, q, g, n, a, o, s, d, b, t, p1, p2⟩ := hi
      exfalso; (rw [hrel.rows] at p1; omega)
     intro K c fz x0 A a5 hx g4 y
     obtain ⟨a7, c8⟩ : ∃ a7, a7 = fz ++ [x0] := ⟨_, rfl⟩
     rw [← c8] at a5; try rw [← c8] at hx
     rcases hx with ⟨k, rfl, r, p, q, g, n, a, o, s, d, b, t, q1⟩
     have z := al.below t
     have aw := a1.below t
     have ab := ac.below t
     have aj := ap.below t
     have e6 : NE ak.heap.size (au.heap.size) := Nat.ne_of_lt ey
     have fk : NE ao.heap.size (au.heap.size) := Nat.ne_of_lt e2
     refine yU (yI (zD (W_cut (fun s0 w0 => (s0.ds = [⟨.collected au.heap.size, #[]⟩, ⟨.collected ao.heap.size, #[]⟩, ⟨.collected ak.heap.size, #[]⟩]) ∧ ([0, 4, 6, 13, 14, 15, 111, 112, 113, 114, 115, 116, 117, 118, 119, 120, 121, 122, 159, 160, 161].map s0.f = [(pt am 0), (pt b1 0), (pt b4 0), (.func (.func 58) #[] #[(pt ag 0)]), (pt fp 0), (pt es 0), (pt am 0), (.func (.func 58) #[] #[(pt ag 0)]), (I6 2), (pt u 0), (pt u 0), (pt u 0), ae, (N6 ((ws).length)), (.bool true), (I6 1), (I6 2), (.func (.func 58) #[] #[(pt ag 0)]), (I6 1), (.bool false), (I6 1)]) ∧ (Rd w0 encI32 ar asked) ∧ (GmAt .i32 vI32 w0 ax ts) ∧ (Rd w0 encBrk ae ws) ∧ (Rd w0 encTw az wt) ∧ (w0.heap[am]? = some (.cells [(.map (some m_rs)), ax].toArray 69 (0, 0))) ∧ (w0.heap[m_rs]? = some (gmObj .i32 vBrk rs)) ∧ (w0.heap[u]? = some (.cells [ae, az].toArray 78 (0, 0))) ∧ (w0.heap[b1]? = some (.cells [(pt u 0)].toArray 31 (0, 0))) ∧ (w0.heap[b4]? = some (.cells [(.bool false)].toArray 4 (0, 0))) ∧ (w0.heap[ag]? = some (.cells [(pt am 0)].toArray 27 (0, 0))) ∧ (w0.heap[ak.heap.size]? = some (.deferred (some []))) ∧ (w0.heap[ao.heap.size]? = some (.deferred (some []))) ∧ (w0.heap[fp]? = some (.cells [(I6 2)].toArray 3 (0, 0))) ∧ (w0.heap[es]? = some (.cells [(N6 k)].toArray 3 (0, 0))) ∧ (w0.heap[au.heap.size]? = some (.deferred (some []))) ∧ (Below w.heap.size w w0)) ?_ ?_)))
     ·refine yC (yP zk zk (zX es 0 (N6 k) zk zf (zQ b rfl) (zX fp 0 (I6 2) zk zf (zQ d rfl) (xB .i64 ((k : Nat) : Int) ((2 : Nat) : Int) (k ≠ 2) rfl (cmpN_ne k 2) zk zk ?_ ?_))))
      ·intro l2
       replace l2 : k ≠ 2 := by omega
       exfalso; omega
      intro l9
      replace l9 : k = 2 := by omega
      refine zU (qs (qs (qs (qs (qs (qs (qs (qF (yG ?_)))))))))
      intro oq cq
      refine zD (zF (zW ?_))
      replace t := t.tr cq
      replace o := zB o cq
      replace s := zB s cq
      replace y := zB y cq
      replace r := zB r cq
      replace a := zB a cq
      replace q := zB q cq
      replace d := zB d cq
      replace b := zB b cq
      replace g := zB g cq
      replace n := zB n cq
      replace z := al.below t
      replace p := zB p cq
      replace aw := a1.below t
      replace ab := ac.below t
      replace aj := ap.below t
      refine zD ⟨(congrArg (List.cons _) cd), zk, z, aw, ab, aj, r, p, q, g, n, a, o, s, d, b, y, t⟩
     rintro ol np ⟨cd, ef, z, aw, ab, aj, r, p, q, g, n, a, o, s, d, b, y, t⟩
     refine yZ ef (wR (zO 0 d rfl (zr (.bool false) (nQ (zF (zW (zL (zD (yC (wR (zO 0 d rfl (nQ (zY (zN [(I6 0)] 3 ?_))))))))))))))
     intro fs qe br
     have ad := yS (yE p) br
     have an := yS (yE b) br
     have af := NE.symm an
     have cl := br.ge t.size
     have d := br.here
     refine z1 0 (I6 2) [(I6 2)] d ?_
     intro oa cn
     replace r := zB r br.below
     replace r := zH r cn (zP r d zi)
     replace q := zB q br.below
     replace q := zH q cn (zP q d zi)
     replace g := zB g br.below
     replace g := zH g cn (zP g d zi)
     replace n := zB n br.below
     replace n := zH n cn (zP n d zi)
     replace a := zB a br.below
     replace a := zH a cn (zP a d zi)
     replace o := zB o br.below
     replace o := zH o cn (zP o d zi)
     replace s := zB s br.below
     replace s := zH s cn (zP s d zi)
     replace y := zB y br.below
     replace y := zH y cn (zP y d zi)
     replace d := cn.here
     refine nQ (zY (zO 0 d rfl (xR 2 1 (z1 0 (I6 3) [(I6 3)] d ?_))))
     intro qa ck
     replace r := zH r ck (zP r d zi)
     replace q := zH q ck (zP q d zi)
     replace g := zH g ck (zP g d zi)
     replace n := zH n ck (zP n d zi)
     replace a := zH a ck (zP a d zi)
     replace o := zH o ck (zP o d zi)
     replace s := zH s ck (zP s d zi)
     replace y := zH y ck (zP y d zi)
     replace d := ck.here
     replace t := ((t.tr br.below).trans (cn.below cl)).trans (ck.below cl)
     replace ab := ac.below t
     refine zS (thenQ_round (yC (yC (yP zk zk (zX fs 0 (I6 3) zk zf (zQ d rfl) (zX b1 0 (pt u 0) zk zf (zQ g rfl) (yD (pt u 0) zf (yD (pt u 0) zf (zX u 0 ae zk zf (zQ q rfl) (Lq_len 22 26 (ws).length ae rfl underlying22 (ab).len zk (xB .i64 ((3 : Nat) : Int) (((ws).length : Nat) : Int) (3 ≤ (ws).length) rfl (qV 3 ((ws).length)) zk zk ?_ ?_)))))))))))
     ·intro l4
      replace l4 : 3 ≤ (ws).length := by omega
      refine yG ?_
      intro pn cr
      refine zD (zT (zW (zD (yC (yF (wR (zN [(I6 0)] 3 ?_)))))))
      intro ep my b2
      replace p := zB (zH (zH (zB p br.below) cn ad) ck ad) cr
      have ah := yS (yE p) b2
      replace d := zB d cr
      have af := yS (yE d) b2
      replace b := zB (zH (zH (zB b br.below) cn an) ck an) cr
      have an := NE.symm af
      replace t := t.tr cr
      have a9 := b2.ge t.size
      have b := b2.here
      refine z1 0 (I6 0) [(I6 0)] b ?_
      intro ay cv
      replace r := zB (zB r cr) b2.below
      replace r := zH r cv (zP r b zi)
      replace q := zB (zB q cr) b2.below
      replace q := zH q cv (zP q b zi)
      replace g := zB (zB g cr) b2.below
      replace g := zH g cv (zP g b zi)
      replace n := zB (zB n cr) b2.below
      replace n := zH n cv (zP n b zi)
      replace a := zB (zB a cr) b2.below
      replace a := zH a cv (zP a b zi)
      replace o := zB (zB o cr) b2.below
      replace o := zH o cv (zP o b zi)
      replace s := zB (zB s cr) b2.below
      replace s := zH s cv (zP s b zi)
      replace y := zB (zB y cr) b2.below
      replace y := zH y cv (zP y b zi)
      replace b := cv.here
      refine nW (wR (zJ (nQ (yF ?_))))
      have ft : am < ay.heap.size := yE r
      replace p := zH (zB p b2.below) cv ah
      have du : m_rs < ay.heap.size := yE p
      have gq : u < ay.heap.size := yE q
      have f5 : b1 < ay.heap.size := yE g
      have gc : b4 < ay.heap.size := yE n
      have de : ag < ay.heap.size := yE a
      have e5 : ak.heap.size < ay.heap.size := yE o
      have ex : ao.heap.size < ay.heap.size := yE s
      have ez : au.heap.size < ay.heap.size := yE y
      replace d := zH (zB d b2.below) cv af
      have fn : fs < ay.heap.size := yE d
      have fh : ep < ay.heap.size := yE b
      replace t := (t.tr b2.below).trans (cv.below a9)
      have g8 := t.size
      have ps := t
      refine W_range 58 [(pt ag 0)] (rowsB rs) zk (fun _ _ => rfl) (it_Rows12 ag am m_rs rs ax (by first | omega | assumption)) ⟨a, r, p⟩ ((fun D A B h hc hd => ⟨zZ h.1 hc (fun h => Nat.not_lt.2 (hd _ h) de), zZ h.2.1 hc (fun h => Nat.not_lt.2 (hd _ h) ft), zZ h.2.2 hc (fun h => Nat.not_lt.2 (hd _ h) du)⟩)) (by intro x; rfl) (fun K a7 A => ∃ (k : Nat), (A.heap[am]? = some (.cells [(.map (some m_rs)), ax].toArray 69 (0, 0))) ∧ (A.heap[m_rs]? = some (gmObj .i32 vBrk rs)) ∧ (A.heap[u]? = some (.cells [ae, az].toArray 78 (0, 0))) ∧ (A.heap[b1]? = some (.cells [(pt u 0)].toArray 31 (0, 0))) ∧ (A.heap[b4]? = some (.cells [(.bool false)].toArray 4 (0, 0))) ∧ (A.heap[ag]? = some (.cells [(pt am 0)].toArray 27 (0, 0))) ∧ (A.heap[ak.heap.size]? = some (.deferred (some []))) ∧ (A.heap[ao.heap.size]? = some (.deferred (some []))) ∧ (A.heap[au.heap.size]? = some (.deferred (some []))) ∧ (A.heap[fs]? = some (.cells [(I6 3)].toArray 3 (0, 0))) ∧ (A.heap[ep]? = some (.cells [(N6 k)].toArray 3 (0, 0))) ∧ (Below w.heap.size w A) ∧ (k = a7.length) ∧ (k < 3)) (fun K c a7 A => (∃ (k : Nat), (c = .exit 6) ∧ (A.heap[am]? = some (.cells [(.map (some m_rs)), ax].toArray 69 (0, 0))) ∧ (A.heap[m_rs]? = some (gmObj .i32 vBrk rs)) ∧ (A.heap[u]? = some (.cells [ae, az].toArray 78 (0, 0))) ∧ (A.heap[b1]? = some (.cells [(pt u 0)].toArray 31 (0, 0))) ∧ (A.heap[b4]? = some (.cells [(.bool false)].toArray 4 (0, 0))) ∧ (A.heap[ag]? = some (.cells [(pt am 0)].toArray 27 (0, 0))) ∧ (A.heap[ak.heap.size]? = some (.deferred (some []))) ∧ (A.heap[ao.heap.size]? = some (.deferred (some []))) ∧ (A.heap[au.heap.size]? = some (.deferred (some []))) ∧ (A.heap[fs]? = some (.cells [(I6 3)].toArray 3 (0, 0))) ∧ (A.heap[ep]? = some (.cells [(N6 k)].toArray 3 (0, 0))) ∧ (Below w.heap.size w A) ∧ (k = 3))) ?_ ?_ ?_ ?_ ?_ ?_
      ·intro A hA
       exact ⟨0, zB r hA, zB p hA, zB q hA, zB g hA, zB n hA, zB a hA, zB o hA, zB s hA, zB y hA, zB d hA, zB b hA, t.trans (hA.mono t.size), by rfl, by decide⟩
      ·rintro K a7 A B ⟨k, r, p, q, g, n, a, o, s, y, d, b, t, p1, p2⟩ hc
       exact ⟨k, zZ r hc (fun h => Nat.not_lt.2 h.1 ft), zZ p hc (fun h => Nat.not_lt.2 h.1 du), zZ q hc (fun h => Nat.not_lt.2 h.1 gq), zZ g hc (fun h => Nat.not_lt.2 h.1 f5), zZ n hc (fun h => Nat.not_lt.2 h.1 gc), zZ a hc (fun h => Nat.not_lt.2 h.1 de), zZ o hc (fun h => Nat.not_lt.2 h.1 e5), zZ s hc (fun h => Nat.not_lt.2 h.1 ex), zZ y hc (fun h => Nat.not_lt.2 h.1 ez), zZ d hc (fun h => Nat.not_lt.2 h.1 fn), zZ b hc (fun h => Nat.not_lt.2 h.1 fh), hc.below t t.size (fun k h => Nat.le_trans g8 h.1), p1, p2⟩
      ·rintro K c a7 A B (⟨k, he, r, p, q, g, n, a, o, s, y, d, b, t, q1⟩) hc
       exact ⟨k, he, zZ r hc (fun h => Nat.not_lt.2 h.1 ft), zZ p hc (fun h => Nat.not_lt.2 h.1 du), zZ q hc (fun h => Nat.not_lt.2 h.1 gq), zZ g hc (fun h => Nat.not_lt.2 h.1 f5), zZ n hc (fun h => Nat.not_lt.2 h.1 gc), zZ a hc (fun h => Nat.not_lt.2 h.1 de), zZ o hc (fun h => Nat.not_lt.2 h.1 e5), zZ s hc (fun h => Nat.not_lt.2 h.1 ex), zZ y hc (fun h => Nat.not_lt.2 h.1 ez), zZ d hc (fun h => Nat.not_lt.2 h.1 fn), zZ b hc (fun h => Nat.not_lt.2 h.1 fh), hc.below t t.size (fun k h => Nat.le_trans g8 h.1), q1⟩
      ·intro l K a7 x A hi hN iz hK a5
       obtain ⟨k, r, p, q, g, n, a, o, s, y, d, b, t, p1, p2⟩ := hi
       have hk := Kp.refl (ay.heap.size) K A
       have et : ¬ Iv (ay.heap.size) K am := fun h => Nat.not_lt.2 h.1 ft
       have a6 : ¬ Iv (ay.heap.size) K m_rs := fun h => Nat.not_lt.2 h.1 du
       have e1 : ¬ Iv (ay.heap.size) K u := fun h => Nat.not_lt.2 h.1 gq
       have d0 : ¬ Iv (ay.heap.size) K b1 := fun h => Nat.not_lt.2 h.1 f5
       have d2 : ¬ Iv (ay.heap.size) K b4 := fun h => Nat.not_lt.2 h.1 gc
       have bj : ¬ Iv (ay.heap.size) K ag := fun h => Nat.not_lt.2 h.1 de
       have ee : ¬ Iv (ay.heap.size) K ak.heap.size := fun h => Nat.not_lt.2 h.1 e5
       have gb : ¬ Iv (ay.heap.size) K ao.heap.size := fun h => Nat.not_lt.2 h.1 ex
       have g9 : ¬ Iv (ay.heap.size) K au.heap.size := fun h => Nat.not_lt.2 h.1 ez
       have cx : ¬ Iv (ay.heap.size) K fs := fun h => Nat.not_lt.2 h.1 fn
       have bc : ¬ Iv (ay.heap.size) K ep := fun h => Nat.not_lt.2 h.1 fh
       have ab := ac.below t
       replace a := hN.1
       replace r := hN.2.1
       replace p := hN.2.2
       have iy := hrel.lt a5
       refine zY (zN [(I3 0), (I3 0), (U8 0)] 26 ?_)
       intro jg ok a8
       have aq := yS (yE p) a8
       have dx := a8.ge t.size
       have bb : ¬ Iv ay.heap.size K jg := fun h => by have := h.2; have := a8.num; omega
       replace hk := hk.ch (Ch.of_below a8.below) hK (fun _ h => h.elim)
       replace hK := Nat.le_trans hK (a8.below.size)
       have aa := a8.here
       refine wE [(I3 x.1), (I3 x.2.1), (U8 x.2.2)] aa ?_
       intro o3 bk
       replace hk := hk.ch (Ch.of_wrote bk) hK (fun k e h => bb (e ▸ h))
       replace hK := Nat.le_trans hK (Nat.le_of_eq bk.size.symm)
       replace r := zB r a8.below
       replace r := zH r bk (zP r aa zi)
       replace q := zB q a8.below
       replace q := zH q bk (zP q aa zi)
       replace g := zB g a8.below
       replace g := zH g bk (zP g aa zi)
       replace n := zB n a8.below
       replace n := zH n bk (zP n aa zi)
       replace a := zB a a8.below
       replace a := zH a bk (zP a aa zi)
       replace o := zB o a8.below
       replace o := zH o bk (zP o aa zi)
       replace s := zB s a8.below
       replace s := zH s bk (zP s aa zi)
       replace y := zB y a8.below
       replace y := zH y bk (zP y aa zi)
       replace d := zB d a8.below
       replace d := zH d bk (zP d aa zi)
       replace b := zB b a8.below
       replace b := zH b bk (zP b aa zi)
       replace aa := bk.here
       refine zS (zD ⟨hk, ?_⟩)
       intro k9 bu
       replace t := (t.tr a8.below).trans (bk.below dx)
       replace t := bu.below t t.size (fun k h => Nat.le_trans g8 h.1)
       replace hK := Nat.le_trans hK bu.size
       replace hk := Kp.refl (ay.heap.size) K k9
       refine yF (yC (yC (W_draws 18 zk zk zk ?_)))
       intro on bn
       replace hk := hk.ch (Ch.of_below bn) hK (fun _ h => h.elim)
       replace hK := Nat.le_trans hK (bn.size)
       replace t := t.tr bn
       replace q := zB (zZ q bu e1) bn
       replace b := zB (zZ b bu bc) bn
       replace g := zB (zZ g bu d0) bn
       replace ab := ac.below t
       refine I_quiet 0 zk zk zk zk (zX ep 0 (N6 k) zk zf (zQ b rfl) (zX b1 0 (pt u 0) zk zf (zQ g rfl) (yD (pt u 0) zf (yD (pt u 0) zf (zX u 0 ae zk zf (zQ q rfl) (Lq_len 22 26 (ws).length ae rfl underlying22 (ab).len zk (xB .i64 ((k : Nat) : Int) (((ws).length : Nat) : Int) ((ws).length ≤ k) rfl (cmpN_ge k ((ws).length)) zk zk ?_ ?_)))))))
       ·intro k0
        replace k0 : (ws).length ≤ k := by omega
        exfalso; omega
       intro lb
       replace lb : k < (ws).length := by omega
       replace aa := zB (zZ aa bu bb) bn
       refine zU (qw (xZ jg 0 [(I3 x.1), (I3 x.2.1), (U8 x.2.2)] zk zf zf (vT aa 0 zk) (qw (zX b1 0 (pt u 0) zk zf (zQ g rfl) (qw (yD (pt u 0) zf (qw (yD (pt u 0) zf (qw (zX u 0 ae zk zf (zQ q rfl) (qw (zX ep 0 (N6 k) zk zf (zQ b rfl) (qw ?_)))))))))))))
       have hz := yB ws k (by first | omega | assumption); obtain ⟨c9, js⟩ := hz
       have hz := (ab).at (k := 3) zj js
       obtain ⟨i4, h1, j3, j2⟩ := hz
       refine yM (k := .i64) ae k _ i4 h1 wM j3 (by first | omega | assumption) zk zk (qw (xZ i4 (h1 + k * 3) [(I3 c9.1), (I3 c9.2.1), (U8 c9.2.2)] zk zf zf j2 (qw (vD [(I3 x.1), (I3 x.2.1), (U8 x.2.2)] [(I3 c9.1), (I3 c9.2.1), (U8 c9.2.2)] (x.1 == c9.1 && x.2.1 == c9.2.1 && x.2.2 == c9.2.2) zk zk zk (eqagg26 x.1 x.2.1 x.2.2 c9.1 c9.2.1 c9.2.2) ?_ ?_))))
       ·intro jn
        exfalso; first | exact brk_ne jn (hrel.at a5 p1 za) | exact brk_nb jn (hrel.at a5 p1 za)
       intro jd
       replace jd : x.1 = c9.1 ∧ x.2.1 = c9.2.1 ∧ x.2.2 = c9.2.2 := by simpa [and_assoc] using jd
       refine qF (yG ?_)
       intro mw bm
       replace hk := hk.ch (Ch.of_below bm) hK (fun _ h => h.elim)
       replace hK := Nat.le_trans hK (bm.size)
       replace b := zB b bm
       refine zD (zF (zW (zD (wR (zO 0 b rfl (xR k 1 (z1 0 (N6 (k + 1)) [(N6 (k + 1))] b ?_)))))))
       intro qf bl
       replace hk := hk.ch (Ch.of_wrote bl) hK (fun k e h => bc (e ▸ h))
       replace hK := Nat.le_trans hK (Nat.le_of_eq bl.size.symm)
       replace r := zB (zB (zZ r bu et) bn) bm
       replace r := zH r bl (zP r b zi)
       replace q := zB q bm
       replace q := zH q bl (zP q b zi)
       replace g := zB g bm
       replace g := zH g bl (zP g b zi)
       replace n := zB (zB (zZ n bu d2) bn) bm
       replace n := zH n bl (zP n b zi)
       replace a := zB (zB (zZ a bu bj) bn) bm
       replace a := zH a bl (zP a b zi)
       replace o := zB (zB (zZ o bu ee) bn) bm
       replace o := zH o bl (zP o b zi)
       replace s := zB (zB (zZ s bu gb) bn) bm
       replace s := zH s bl (zP s b zi)
       replace y := zB (zB (zZ y bu g9) bn) bm
       replace y := zH y bl (zP y b zi)
       replace b := bl.here
       replace d := zH (zB (zB (zZ d bu cx) bn) bm) bl af
       refine nR (zO 0 b rfl (zO 0 d rfl (nEq (k + 1) 3 ?_ ?_)))
       ·intro ov
        refine nQ (zT (yU (zxo ?_)))
        replace t := (t.tr bm).trans (bl.below a9)
        replace p := zH (zB (zB (zZ (zH (zB p a8.below) bk aq) bu a6) bn) bm) bl ah
        exact round_exit hk (⟨(k + 1), rfl, r, p, q, g, n, a, o, s, y, d, b, t, zo⟩)
       intro po
       refine nQ (zF (zW (zL ?_)))
       replace t := (t.tr bm).trans (bl.below a9)
       replace p := zH (zB (zB (zZ (zH (zB p a8.below) bk aq) bu a6) bn) bm) bl ah
       refine wI hk ⟨a, r, p⟩ ⟨(k + 1), r, p, q, g, n, a, o, s, y, d, b, t, ?_, zo⟩
       (rw [List.length_append, List.length_singleton]; omega)
      ·intro K A hi g4 ai
       obtain ⟨k, r, p, q, g, n, a, o, s, y, d, b, t, p1, p2⟩ := hi
       exfalso; (rw [hrel.rows] at p1; omega)
      intro K c fz x0 A a5 hx g4 ai
      obtain ⟨a7, c8⟩ : ∃ a7, a7 = fz ++ [x0] := ⟨_, rfl⟩
      rw [← c8] at a5; try rw [← c8] at hx
      rcases hx with ⟨k, rfl, r, p, q, g, n, a, o, s, y, d, b, t, q1⟩
      have z := al.below t
      have aw := a1.below t
      have ab := ac.below t
      have aj := ap.below t
      have gk : NE ak.heap.size (ay.heap.size) := Nat.ne_of_lt e5
      have gg : NE ao.heap.size (ay.heap.size) := Nat.ne_of_lt ex
      have gn : NE au.heap.size (ay.heap.size) := Nat.ne_of_lt ez
      refine yU (yI (zD (W_cut (fun s0 w0 => (s0.ds = [⟨.collected ay.heap.size, #[]⟩, ⟨.collected au.heap.size, #[]⟩, ⟨.collected ao.heap.size, #[]⟩, ⟨.collected ak.heap.size, #[]⟩]) ∧ ([0, 4, 6, 13, 14, 15, 111, 112, 113, 114, 115, 116, 117, 118, 119, 120, 121, 122, 159, 160, 161].map s0.f = [(pt am 0), (pt b1 0), (pt b4 0), (.func (.func 58) #[] #[(pt ag 0)]), (pt fs 0), (pt ep 0), (pt am 0), (.func (.func 58) #[] #[(pt ag 0)]), (I6 3), (pt u 0), (pt u 0), (pt u 0), ae, (N6 ((ws).length)), (.bool true), (I6 2), (I6 3), (.func (.func 58) #[] #[(pt ag 0)]), (I6 2), (.bool false), (I6 2)]) ∧ (Rd w0 encI32 ar asked) ∧ (GmAt .i32 vI32 w0 ax ts) ∧ (Rd w0 encBrk ae ws) ∧ (Rd w0 encTw az wt) ∧ (w0.heap[am]? = some (.cells [(.map (some m_rs)), ax].toArray 69 (0, 0))) ∧ (w0.heap[m_rs]? = some (gmObj .i32 vBrk rs)) ∧ (w0.heap[u]? = some (.cells [ae, az].toArray 78 (0, 0))) ∧ (w0.heap[b1]? = some (.cells [(pt u 0)].toArray 31 (0, 0))) ∧ (w0.heap[b4]? = some (.cells [(.bool false)].toArray 4 (0, 0))) ∧ (w0.heap[ag]? = some (.cells [(pt am 0)].toArray 27 (0, 0))) ∧ (w0.heap[ak.heap.size]? = some (.deferred (some []))) ∧ (w0.heap[ao.heap.size]? = some (.deferred (some []))) ∧ (w0.heap[au.heap.size]? = some (.deferred (some []))) ∧ (w0.heap[fs]? = some (.cells [(I6 3)].toArray 3 (0, 0))) ∧ (w0.heap[ep]? = some (.cells [(N6 k)].toArray 3 (0, 0))) ∧ (w0.heap[ay.heap.size]? = some (.deferred (some []))) ∧ (Below w.heap.size w w0)) ?_ ?_)))
      ·refine yC (yP zk zk (zX ep 0 (N6 k) zk zf (zQ b rfl) (zX fs 0 (I6 3) zk zf (zQ d rfl) (xB .i64 ((k : Nat) : Int) ((3 : Nat) : Int) (k ≠ 3) rfl (cmpN_ne k 3) zk zk ?_ ?_))))
       ·intro kb
        replace kb : k ≠ 3 := by omega
        exfalso; omega
       intro k4
       replace k4 : k = 3 := by omega
       refine zU (qs (qs (qs (qs (qs (qs (qs (qF (yG ?_)))))))))
       intro qh cf
       refine zD (zF (zW ?_))
       replace t := t.tr cf
       replace o := zB o cf
       replace s := zB s cf
       replace y := zB y cf
       replace ai := zB ai cf
       replace r := zB r cf
       replace a := zB a cf
       replace q := zB q cf
       replace d := zB d cf
       replace b := zB b cf
       replace g := zB g cf
       replace n := zB n cf
       replace z := al.below t
       replace p := zB p cf
       replace aw := a1.below t
       replace ab := ac.below t
       replace aj := ap.below t
       refine zD ⟨(congrArg (List.cons _) cd), zk, z, aw, ab, aj, r, p, q, g, n, a, o, s, y, d, b, ai, t⟩
      rintro ns pd ⟨cd, ef, z, aw, ab, aj, r, p, q, g, n, a, o, s, y, d, b, ai, t⟩
      refine yZ ef (wR (zO 0 d rfl (zr (.bool false) (nQ (zF (zW (zL (zD (yC (wR (zO 0 d rfl (nQ (zY (zN [(I6 0)] 3 ?_))))))))))))))
      intro fo ob bq
      have ad := yS (yE p) bq
      have an := yS (yE b) bq
      have af := NE.symm an
      have cl := bq.ge t.size
      have d := bq.here
      refine z1 0 (I6 3) [(I6 3)] d ?_
      intro m3 cm
      replace r := zB r bq.below
      replace r := zH r cm (zP r d zi)
      replace q := zB q bq.below
      replace q := zH q cm (zP q d zi)
      replace g := zB g bq.below
      replace g := zH g cm (zP g d zi)
      replace n := zB n bq.below
      replace n := zH n cm (zP n d zi)
      replace a := zB a bq.below
      replace a := zH a cm (zP a d zi)
      replace o := zB o bq.below
      replace o := zH o cm (zP o d zi)
      replace s := zB s bq.below
      replace s := zH s cm (zP s d zi)
      replace y := zB y bq.below
      replace y := zH y cm (zP y d zi)
      replace ai := zB ai bq.below
      replace ai := zH ai cm (zP ai d zi)
      replace d := cm.here
      refine nQ (zY (zO 0 d rfl (xR 3 1 (z1 0 (I6 4) [(I6 4)] d ?_))))
      intro mo ce
      replace r := zH r ce (zP r d zi)
      replace q := zH q ce (zP q d zi)
      replace g := zH g ce (zP g d zi)
      replace n := zH n ce (zP n d zi)
      replace a := zH a ce (zP a d zi)
      replace o := zH o ce (zP o d zi)
      replace s := zH s ce (zP s d zi)
      replace y := zH y ce (zP y d zi)
      replace ai := zH ai ce (zP ai d zi)
      replace d := ce.here
      replace t := ((t.tr bq.below).trans (cm.below cl)).trans (ce.below cl)
      replace ab := ac.below t
      refine zS (thenQ_round (yC (yC (yP zk zk (zX fo 0 (I6 4) zk zf (zQ d rfl) (zX b1 0 (pt u 0) zk zf (zQ g rfl) (yD (pt u 0) zf (yD (pt u 0) zf (zX u 0 ae zk zf (zQ q rfl) (Lq_len 22 26 (ws).length ae rfl underlying22 (ab).len zk (xB .i64 ((4 : Nat) : Int) (((ws).length : Nat) : Int) (4 ≤ (ws).length) rfl (qV 4 ((ws).length)) zk zk ?_ ?_)))))))))))
      ·intro j7
       replace j7 : 4 ≤ (ws).length := by omega
       refine yG ?_
       intro pr cw
       refine zD (zT (zW (zD (yC (yF (wR (zN [(I6 0)] 3 ?_)))))))
       intro e4 mv bs
       replace p := zB (zH (zH (zB p bq.below) cm ad) ce ad) cw
       have ah := yS (yE p) bs
       replace d := zB d cw
       have af := yS (yE d) bs
       replace t := t.tr cw
       have a9 := bs.ge t.size
       have b := bs.here
       refine z1 0 (I6 0) [(I6 0)] b ?_
       intro a0 ci
       replace r := zB (zB r cw) bs.below
       replace r := zH r ci (zP r b zi)
       replace q := zB (zB q cw) bs.below
       replace q := zH q ci (zP q b zi)
       replace g := zB (zB g cw) bs.below
       replace g := zH g ci (zP g b zi)
       replace n := zB (zB n cw) bs.below
       replace n := zH n ci (zP n b zi)
       replace a := zB (zB a cw) bs.below
       replace a := zH a ci (zP a b zi)
       replace o := zB (zB o cw) bs.below
       replace o := zH o ci (zP o b zi)
       replace s := zB (zB s cw) bs.below
       replace s := zH s ci (zP s b zi)
       replace y := zB (zB y cw) bs.below
       replace y := zH y ci (zP y b zi)
       replace ai := zB (zB ai cw) bs.below
       replace ai := zH ai ci (zP ai b zi)
       replace b := ci.here
       refine nW (wR (zJ (nQ (yF ?_))))
       have fw : am < a0.heap.size := yE r
       replace p := zH (zB p bs.below) ci ah
       have dy : m_rs < a0.heap.size := yE p
       have gy : u < a0.heap.size := yE q
       have f0 : b1 < a0.heap.size := yE g
       have f3 : b4 < a0.heap.size := yE n
       have dg : ag < a0.heap.size := yE a
       have ev : ak.heap.size < a0.heap.size := yE o
       have er : ao.heap.size < a0.heap.size := yE s
       have eo : au.heap.size < a0.heap.size := yE y
       have eu : ay.heap.size < a0.heap.size := yE ai
       replace d := zH (zB d bs.below) ci af
       have fl : fo < a0.heap.size := yE d
       have e8 : e4 < a0.heap.size := yE b
       replace t := (t.tr bs.below).trans (ci.below a9)
       have hs := t.size
       have pw := t
       refine W_range 58 [(pt ag 0)] (rowsB rs) zk (fun _ _ => rfl) (it_Rows12 ag am m_rs rs ax (by first | omega | assumption)) ⟨a, r, p⟩ ((fun D A B h hc hd => ⟨zZ h.1 hc (fun h => Nat.not_lt.2 (hd _ h) dg), zZ h.2.1 hc (fun h => Nat.not_lt.2 (hd _ h) fw), zZ h.2.2 hc (fun h => Nat.not_lt.2 (hd _ h) dy)⟩)) (by intro x; rfl) (fun K a7 A => ∃ (k : Nat), (A.heap[am]? = some (.cells [(.map (some m_rs)), ax].toArray 69 (0, 0))) ∧ (A.heap[m_rs]? = some (gmObj .i32 vBrk rs)) ∧ (A.heap[u]? = some (.cells [ae, az].toArray 78 (0, 0))) ∧ (A.heap[b1]? = some (.cells [(pt u 0)].toArray 31 (0, 0))) ∧ (A.heap[b4]? = some (.cells [(.bool false)].toArray 4 (0, 0))) ∧ (A.heap[ag]? = some (.cells [(pt am 0)].toArray 27 (0, 0))) ∧ (A.heap[ak.heap.size]? = some (.deferred (some []))) ∧ (A.heap[ao.heap.size]? = some (.deferred (some []))) ∧ (A.heap[au.heap.size]? = some (.deferred (some []))) ∧ (A.heap[ay.heap.size]? = some (.deferred (some []))) ∧ (A.heap[fo]? = some (.cells [(I6 4)].toArray 3 (0, 0))) ∧ (A.heap[e4]? = some (.cells [(N6 k)].toArray 3 (0, 0))) ∧ (Below w.heap.size w A) ∧ (k = a7.length) ∧ (k < 4)) (fun K c a7 A => (∃ (k : Nat), (c = .exit 6) ∧ (A.heap[am]? = some (.cells [(.map (some m_rs)), ax].toArray 69 (0, 0))) ∧ (A.heap[m_rs]? = some (gmObj .i32 vBrk rs)) ∧ (A.heap[u]? = some (.cells [ae, az].toArray 78 (0, 0))) ∧ (A.heap[b1]? = some (.cells [(pt u 0)].toArray 31 (0, 0))) ∧ (A.heap[b4]? = some (.cells [(.bool false)].toArray 4 (0, 0))) ∧ (A.heap[ag]? = some (.cells [(pt am 0)].toArray 27 (0, 0))) ∧ (A.heap[ak.heap.size]? = some (.deferred (some []))) ∧ (A.heap[ao.heap.size]? = some (.deferred (some []))) ∧ (A.heap[au.heap.size]? = some (.deferred (some []))) ∧ (A.heap[ay.heap.size]? = some (.deferred (some []))) ∧ (A.heap[fo]? = some (.cells [(I6 4)].toArray 3 (0, 0))) ∧ (A.heap[e4]? = some (.cells [(N6 k)].toArray 3 (0, 0))) ∧ (Below w.heap.size w A) ∧ (k = 4))) ?_ ?_ ?_ ?_ ?_ ?_
       ·intro A hA
        exact ⟨0, zB r hA, zB p hA, zB q hA, zB g hA, zB n hA, zB a hA, zB o hA, zB s hA, zB y hA, zB ai hA, zB d hA, zB b hA, t.trans (hA.mono t.size), by rfl, by decide⟩
       ·rintro K a7 A B ⟨k, r, p, q, g, n, a, o, s, y, ai, d, b, t, p1, p2⟩ hc
        exact ⟨k, zZ r hc (fun h => Nat.not_lt.2 h.1 fw), zZ p hc (fun h => Nat.not_lt.2 h.1 dy), zZ q hc (fun h => Nat.not_lt.2 h.1 gy), zZ g hc (fun h => Nat.not_lt.2 h.1 f0), zZ n hc (fun h => Nat.not_lt.2 h.1 f3), zZ a hc (fun h => Nat.not_lt.2 h.1 dg), zZ o hc (fun h => Nat.not_lt.2 h.1 ev), zZ s hc (fun h => Nat.not_lt.2 h.1 er), zZ y hc (fun h => Nat.not_lt.2 h.1 eo), zZ ai hc (fun h => Nat.not_lt.2 h.1 eu), zZ d hc (fun h => Nat.not_lt.2 h.1 fl), zZ b hc (fun h => Nat.not_lt.2 h.1 e8), hc.below t t.size (fun k h => Nat.le_trans hs h.1), p1, p2⟩
       ·rintro K c a7 A B (⟨k, he, r, p, q, g, n, a, o, s, y, ai, d, b, t, q1⟩) hc
        exact ⟨k, he, zZ r hc (fun h => Nat.not_lt.2 h.1 fw), zZ p hc (fun h => Nat.not_lt.2 h.1 dy), zZ q hc (fun h => Nat.not_lt.2 h.1 gy), zZ g hc (fun h => Nat.not_lt.2 h.1 f0), zZ n hc (fun h => Nat.not_lt.2 h.1 f3), zZ a hc (fun h => Nat.not_lt.2 h.1 dg), zZ o hc (fun h => Nat.not_lt.2 h.1 ev), zZ s hc (fun h => Nat.not_lt.2 h.1 er), zZ y hc (fun h => Nat.not_lt.2 h.1 eo), zZ ai hc (fun h => Nat.not_lt.2 h.1 eu), zZ d hc (fun h => Nat.not_lt.2 h.1 fl), zZ b hc (fun h => Nat.not_lt.2 h.1 e8), hc.below t t.size (fun k h => Nat.le_trans hs h.1), q1⟩
       ·intro l K a7 x A hi hN iz hK a5
        obtain ⟨k, r, p, q, g, n, a, o, s, y, ai, d, b, t, p1, p2⟩ := hi
        have hk := Kp.refl (a0.heap.size) K A
        have et : ¬ Iv (a0.heap.size) K am := fun h => Nat.not_lt.2 h.1 fw
        have a6 : ¬ Iv (a0.heap.size) K m_rs := fun h => Nat.not_lt.2 h.1 dy
        have e1 : ¬ Iv (a0.heap.size) K u := fun h => Nat.not_lt.2 h.1 gy
        have d0 : ¬ Iv (a0.heap.size) K b1 := fun h => Nat.not_lt.2 h.1 f0
        have d2 : ¬ Iv (a0.heap.size) K b4 := fun h => Nat.not_lt.2 h.1 f3
        have bj : ¬ Iv (a0.heap.size) K ag := fun h => Nat.not_lt.2 h.1 dg
        have ee : ¬ Iv (a0.heap.size) K ak.heap.size := fun h => Nat.not_lt.2 h.1 ev
        have gb : ¬ Iv (a0.heap.size) K ao.heap.size := fun h => Nat.not_lt.2 h.1 er
        have g9 : ¬ Iv (a0.heap.size) K au.heap.size := fun h => Nat.not_lt.2 h.1 eo
        have jy : ¬ Iv (a0.heap.size) K ay.heap.size := fun h => Nat.not_lt.2 h.1 eu
        have cx : ¬ Iv (a0.heap.size) K fo := fun h => Nat.not_lt.2 h.1 fl
        have bc : ¬ Iv (a0.heap.size) K e4 := fun h => Nat.not_lt.2 h.1 e8
        have ab := ac.below t
        replace a := hN.1
        replace r := hN.2.1
        replace p := hN.2.2
        have iy := hrel.lt a5
        refine zY (zN [(I3 0), (I3 0), (U8 0)] 26 ?_)
        intro jb o6 a4
        have aq := yS (yE p) a4
        have dx := a4.ge t.size
        have bb : ¬ Iv a0.heap.size K jb := fun h => by have := h.2; have := a4.num; omega
        replace hk := hk.ch (Ch.of_below a4.below) hK (fun _ h => h.elim)
        replace hK := Nat.le_trans hK (a4.below.size)
        have aa := a4.here
        refine wE [(I3 x.1), (I3 x.2.1), (U8 x.2.2)] aa ?_
        intro oc bi
        replace hk := hk.ch (Ch.of_wrote bi) hK (fun k e h => bb (e ▸ h))
        replace hK := Nat.le_trans hK (Nat.le_of_eq bi.size.symm)
        replace r := zB r a4.below
        replace r := zH r bi (zP r aa zi)
        replace q := zB q a4.below
        replace q := zH q bi (zP q aa zi)
        replace g := zB g a4.below
        replace g := zH g bi (zP g aa zi)
        replace n := zB n a4.below
        replace n := zH n bi (zP n aa zi)
        replace a := zB a a4.below
        replace a := zH a bi (zP a aa zi)
        replace o := zB o a4.below
        replace o := zH o bi (zP o aa zi)
        replace s := zB s a4.below
        replace s := zH s bi (zP s aa zi)
        replace y := zB y a4.below
        replace y := zH y bi (zP y aa zi)
        replace ai := zB ai a4.below
        replace ai := zH ai bi (zP ai aa zi)
        replace d := zB d a4.below
        replace d := zH d bi (zP d aa zi)
        replace b := zB b a4.below
        replace b := zH b bi (zP b aa zi)
        replace aa := bi.here
        refine zS (zD ⟨hk, ?_⟩)
        intro l7 bp
        replace t := (t.tr a4.below).trans (bi.below dx)
        replace t := bp.below t t.size (fun k h => Nat.le_trans hs h.1)
        replace hK := Nat.le_trans hK bp.size
        replace hk := Kp.refl (a0.heap.size) K l7
        refine yF (yC (yC (W_draws 18 zk zk zk ?_)))
        intro mm bh
        replace hk := hk.ch (Ch.of_below bh) hK (fun _ h => h.elim)
        replace hK := Nat.le_trans hK (bh.size)
        replace t := t.tr bh
        replace q := zB (zZ q bp e1) bh
        replace b := zB (zZ b bp bc) bh
        replace g := zB (zZ g bp d0) bh
        replace ab := ac.below t
        refine I_quiet 0 zk zk zk zk (zX e4 0 (N6 k) zk zf (zQ b rfl) (zX b1 0 (pt u 0) zk zf (zQ g rfl) (yD (pt u 0) zf (yD (pt u 0) zf (zX u 0 ae zk zf (zQ q rfl) (Lq_len 22 26 (ws).length ae rfl underlying22 (ab).len zk (xB .i64 ((k : Nat) : Int) (((ws).length : Nat) : Int) ((ws).length ≤ k) rfl (cmpN_ge k ((ws).length)) zk zk ?_ ?_)))))))
        ·intro kq
         replace kq : (ws).length ≤ k := by omega
         exfalso; omega
        intro lg
        replace lg : k < (ws).length := by omega
        replace aa := zB (zZ aa bp bb) bh
        refine zU (qw (xZ jb 0 [(I3 x.1), (I3 x.2.1), (U8 x.2.2)] zk zf zf (vT aa 0 zk) (qw (zX b1 0 (pt u 0) zk zf (zQ g rfl) (qw (yD (pt u 0) zf (qw (yD (pt u 0) zf (qw (zX u 0 ae zk zf (zQ q rfl) (qw (zX e4 0 (N6 k) zk zf (zQ b rfl) (qw ?_)))))))))))))
        have hz := yB ws k (by first | omega | assumption); obtain ⟨c3, jz⟩ := hz
        have hz := (ab).at (k := 3) zj jz
        obtain ⟨jh, hy, j1, jo⟩ := hz
        refine yM (k := .i64) ae k _ jh hy wM j1 (by first | omega | assumption) zk zk (qw (xZ jh (hy + k * 3) [(I3 c3.1), (I3 c3.2.1), (U8 c3.2.2)] zk zf zf jo (qw (vD [(I3 x.1), (I3 x.2.1), (U8 x.2.2)] [(I3 c3.1), (I3 c3.2.1), (U8 c3.2.2)] (x.1 == c3.1 && x.2.1 == c3.2.1 && x.2.2 == c3.2.2) zk zk zk (eqagg26 x.1 x.2.1 x.2.2 c3.1 c3.2.1 c3.2.2) ?_ ?_))))
        ·intro i5
         exfalso; first | exact brk_ne i5 (hrel.at a5 p1 za) | exact brk_nb i5 (hrel.at a5 p1 za)
        intro i7
        replace i7 : x.1 = c3.1 ∧ x.2.1 = c3.2.1 ∧ x.2.2 = c3.2.2 := by simpa [and_assoc] using i7
        refine qF (yG ?_)
        intro n1 bf
        replace hk := hk.ch (Ch.of_below bf) hK (fun _ h => h.elim)
        replace hK := Nat.le_trans hK (bf.size)
        replace b := zB b bf
        refine zD (zF (zW (zD (wR (zO 0 b rfl (xR k 1 (z1 0 (N6 (k + 1)) [(N6 (k + 1))] b ?_)))))))
        intro m4 bg
        replace hk := hk.ch (Ch.of_wrote bg) hK (fun k e h => bc (e ▸ h))
        replace hK := Nat.le_trans hK (Nat.le_of_eq bg.size.symm)
        replace r := zB (zB (zZ r bp et) bh) bf
        replace r := zH r bg (zP r b zi)
        replace q := zB q bf
        replace q := zH q bg (zP q b zi)
        replace g := zB g bf
        replace g := zH g bg (zP g b zi)
        replace n := zB (zB (zZ n bp d2) bh) bf
        replace n := zH n bg (zP n b zi)
        replace a := zB (zB (zZ a bp bj) bh) bf
        replace a := zH a bg (zP a b zi)
        replace o := zB (zB (zZ o bp ee) bh) bf
        replace o := zH o bg (zP o b zi)
        replace s := zB (zB (zZ s bp gb) bh) bf
        replace s := zH s bg (zP s b zi)
        replace y := zB (zB (zZ y bp g9) bh) bf
        replace y := zH y bg (zP y b zi)
        replace ai := zB (zB (zZ ai bp jy) bh) bf
        replace ai := zH ai bg (zP ai b zi)
        replace b := bg.here
        replace d := zH (zB (zB (zZ d bp cx) bh) bf) bg af
        refine nR (zO 0 b rfl (zO 0 d rfl (nEq (k + 1) 4 ?_ ?_)))
        ·intro na
         refine nQ (zT (yU (zxo ?_)))
         replace t := (t.tr bf).trans (bg.below a9)
         replace p := zH (zB (zB (zZ (zH (zB p a4.below) bi aq) bp a6) bh) bf) bg ah
         exact round_exit hk (⟨(k + 1), rfl, r, p, q, g, n, a, o, s, y, ai, d, b, t, zo⟩)
        intro p4
        refine nQ (zF (zW (zL ?_)))
        replace t := (t.tr bf).trans (bg.below a9)
        replace p := zH (zB (zB (zZ (zH (zB p a4.below) bi aq) bp a6) bh) bf) bg ah
        refine wI hk ⟨a, r, p⟩ ⟨(k + 1), r, p, q, g, n, a, o, s, y, ai, d, b, t, ?_, zo⟩
        (rw [List.length_append, List.length_singleton]; omega)
       ·intro K A hi g4 d4
        obtain ⟨k, r, p, q, g, n, a, o, s, y, ai, d, b, t, p1, p2⟩ := hi
        exfalso; (rw [hrel.rows] at p1; omega)
       intro K c fz x0 A a5 hx g4 d4
       obtain ⟨a7, c8⟩ : ∃ a7, a7 = fz ++ [x0] := ⟨_, rfl⟩
       rw [← c8] at a5; try rw [← c8] at hx
       rcases hx with ⟨k, rfl, r, p, q, g, n, a, o, s, y, ai, d, b, t, q1⟩
       have z := al.below t
       have aw := a1.below t
       have ab := ac.below t
       have aj := ap.below t
       have h6 : NE ak.heap.size (a0.heap.size) := Nat.ne_of_lt ev
       have h7 : NE ao.heap.size (a0.heap.size) := Nat.ne_of_lt er
       have h8 : NE au.heap.size (a0.heap.size) := Nat.ne_of_lt eo
       have h4 : NE ay.heap.size (a0.heap.size) := Nat.ne_of_lt eu
       refine yU (yI (zD (W_cut (fun s0 w0 => (s0.ds = [⟨.collected a0.heap.size, #[]⟩, ⟨.collected ay.heap.size, #[]⟩, ⟨.collected au.heap.size, #[]⟩, ⟨.collected ao.heap.size, #[]⟩, ⟨.collected ak.heap.size, #[]⟩]) ∧ ([0, 4, 6, 13, 14, 15, 111, 112, 113, 114, 115, 116, 117, 118, 119, 120, 121, 122, 159, 160, 161].map s0.f = [(pt am 0), (pt b1 0), (pt b4 0), (.func (.func 58) #[] #[(pt ag 0)]), (pt fo 0), (pt e4 0), (pt am 0), (.func (.func 58) #[] #[(pt ag 0)]), (I6 4), (pt u 0), (pt u 0), (pt u 0), ae, (N6 ((ws).length)), (.bool true), (I6 3), (I6 4), (.func (.func 58) #[] #[(pt ag 0)]), (I6 3), (.bool false), (I6 3)]) ∧ (Rd w0 encI32 ar asked) ∧ (GmAt .i32 vI32 w0 ax ts) ∧ (Rd w0 encBrk ae ws) ∧ (Rd w0 encTw az wt) ∧ (w0.heap[am]? = some (.cells [(.map (some m_rs)), ax].toArray 69 (0, 0))) ∧ (w0.heap[m_rs]? = some (gmObj .i32 vBrk rs)) ∧ (w0.heap[u]? = some (.cells [ae, az].toArray 78 (0, 0))) ∧ (w0.heap[b1]? = some (.cells [(pt u 0)].toArray 31 (0, 0))) ∧ (w0.heap[b4]? = some (.cells [(.bool false)].toArray 4 (0, 0))) ∧ (w0.heap[ag]? = some (.cells [(pt am 0)].toArray 27 (0, 0))) ∧ (w0.heap[ak.heap.size]? = some (.deferred (some []))) ∧ (w0.heap[ao.heap.size]? = some (.deferred (some []))) ∧ (w0.heap[au.heap.size]? = some (.deferred (some []))) ∧ (w0.heap[ay.heap.size]? = some (.deferred (some []))) ∧ (w0.heap[fo]? = some (.cells [(I6 4)].toArray 3 (0, 0))) ∧ (w0.heap[e4]? = some (.cells [(N6 k)].toArray 3 (0, 0))) ∧ (w0.heap[a0.heap.size]? = some (.deferred (some []))) ∧ (Below w.heap.size w w0)) ?_ ?_)))
       ·refine yC (yP zk zk (zX e4 0 (N6 k) zk zf (zQ b rfl) (zX fo 0 (I6 4) zk zf (zQ d rfl) (xB .i64 ((k : Nat) : Int) ((4 : Nat) : Int) (k ≠ 4) rfl (cmpN_ne k 4) zk zk ?_ ?_))))
        ·intro lp
         replace lp : k ≠ 4 := by omega
         exfalso; omega
        intro k2
        replace k2 : k = 4 := by omega
        refine zU (qs (qs (qs (qs (qs (qs (qs (qF (yG ?_)))))))))
        intro pu b9
        refine zD (zF (zW ?_))
        replace t := t.tr b9
        replace o := zB o b9
        replace s := zB s b9
        replace y := zB y b9
        replace ai := zB ai b9
        replace d4 := zB d4 b9
        replace r := zB r b9
        replace a := zB a b9
        replace q := zB q b9
        replace d := zB d b9
        replace b := zB b b9
        replace g := zB g b9
        replace n := zB n b9
        replace z := al.below t
        replace p := zB p b9
        replace aw := a1.below t
        replace ab := ac.below t
        replace aj := ap.below t
        refine zD ⟨(congrArg (List.cons _) cd), zk, z, aw, ab, aj, r, p, q, g, n, a, o, s, y, ai, d, b, d4, t⟩
       rintro pc m6 ⟨cd, ef, z, aw, ab, aj, r, p, q, g, n, a, o, s, y, ai, d, b, d4, t⟩
       refine yZ ef (wR (zO 0 d rfl (zr (.bool true) (nQ (zT (yU (zxo (zV (zV (yI (zD (yC (xD 5 6 zk zk zk ?_)))))))))))))
       intro n5 c1
       refine ⟨fun w => (w.heap[b1]? = some (.cells [(pt u 0)].toArray 31 (0, 0))), ?_⟩
       replace g := zB g c1
       refine mp 0 rfl (pt am 0) (.inr g) zg (hq := (zA yY)) (mt 2 [2, 3, 4, 5] rfl (pt u 0) g (yQ b1 0 (pt u 0) zk zf (fun w2 h2 => zQ h2 rfl)) (hq := (zA yY)) (yH 1 zk ?_))
       refine yR 1 rfl ?_ rfl
       replace r := zB r c1
       replace p := zB p c1
       refine zc (c_Write12 am m_rs rs ax _ r p (by first | omega | assumption)) ?_
       rintro _ nc ⟨rfl, dt⟩
       have := vH rs
       refine zS ?_
       replace g := zB g dt
       refine ⟨rfl, .inr g, yH 3 zk (yR 3 rfl ?_ rfl)⟩
       replace t := (t.tr c1).tr dt
       replace q := zB (zB q c1) dt
       replace ab := ac.below t
       replace aj := ap.below t
       refine zc (c_rWrite u ae ws az wt _ q ab aj (by first | omega | assumption) za) ?_
       rintro _ m0 ⟨rfl, d6⟩
       refine zS ?_
       replace g := zB g d6
       refine ⟨rfl, .inr g, yH 4 zk (yR 4 rfl ?_ rfl)⟩
       refine L_seq (writeB rs) (ws.flatMap lineB) rfl zk zk ?_ ?_
       ·intro qi
        refine zS ?_
        refine ⟨rfl, .inr g, yH 5 zk (yR 5 rfl ?_ rfl)⟩
        replace n := zB (zB (zB n c1) dt) d6
        refine z1 0 (.bool true) [(.bool true)] n ?_
        intro oh ek
        replace o := zB (zB (zB o c1) dt) d6
        replace o := zH o ek (zP o n zi)
        replace s := zB (zB (zB s c1) dt) d6
        replace s := zH s ek (zP s n zi)
        replace y := zB (zB (zB y c1) dt) d6
        replace y := zH y ek (zP y n zi)
        replace ai := zB (zB (zB ai c1) dt) d6
        replace ai := zH ai ek (zP ai n zi)
        replace d4 := zB (zB (zB d4 c1) dt) d6
        replace d4 := zH d4 ek (zP d4 n zi)
        replace n := ek.here
        refine zS ?_
        refine ⟨rfl, .inl zk, yT zk (zD (yA (wN (ds := [⟨.collected a0.heap.size, #[]⟩, ⟨.collected ay.heap.size, #[]⟩, ⟨.collected au.heap.size, #[]⟩, ⟨.collected ao.heap.size, #[]⟩, ⟨.collected ak.heap.size, #[]⟩]) cd (wH d4 ?_))))⟩
        intro nf fb
        replace n := zH n fb (zP n d4 zi)
        replace ai := zH ai fb h4
        refine wH ai ?_
        intro nt gd
        replace n := zH n gd (zP n ai zi)
        replace y := zH (zH y fb h8) gd gn
        refine wH y ?_
        intro nl gx
        replace n := zH n gx (zP n y zi)
        replace s := zH (zH (zH s fb h7) gd gg) gx fk
        refine wH s ?_
        intro nb hh
        replace n := zH n hh (zP n s zi)
        replace o := zH (zH (zH (zH o fb h6) gd gk) gx e6) hh ec
        refine wH o ?_
        intro o8 im
        replace n := zH n im (zP n o zi)
        refine vI [.cell 6 4] [(.bool true)] rfl ⟨⟨⟨b4, 0, none⟩, zk, wJ zk (zQ n rfl)⟩, trivial⟩ ?_
        replace t := ((((((t.tr d6).trans (ek.below fq)).trans (fb.below hs)).trans (gd.below g8)).trans (gx.below gi)).trans (hh.below fx)).trans (im.below f2)
        exact ⟨rfl, t⟩
       intro kg
       exfalso; exact kg hrel.write
      intro k7
      replace k7 : (ws).length < 4 := by omega
      refine yG ?_
      intro qk dj
      refine zD (zF (yU (zV (zV (yI (zD (yC (xD 5 6 zk zk zk ?_))))))))
      intro oy di
      refine ⟨fun w => (w.heap[b1]? = some (.cells [(pt u 0)].toArray 31 (0, 0))), ?_⟩
      replace g := zB (zB g dj) di
      refine mp 0 rfl (pt am 0) (.inr g) zg (hq := (zA yY)) (mt 2 [2, 3, 4, 5] rfl (pt u 0) g (yQ b1 0 (pt u 0) zk zf (fun w2 h2 => zQ h2 rfl)) (hq := (zA yY)) (yH 1 zk ?_))
      refine yR 1 rfl ?_ rfl
      replace r := zB (zB r dj) di
      replace p := zB (zB (zH (zH (zB p bq.below) cm ad) ce ad) dj) di
      refine zc (c_Write12 am m_rs rs ax _ r p (by first | omega | assumption)) ?_
      rintro _ n6 ⟨rfl, ea⟩
      have := vH rs
      refine zS ?_
      replace g := zB g ea
      refine ⟨rfl, .inr g, yH 3 zk (yR 3 rfl ?_ rfl)⟩
      replace t := ((t.tr dj).tr di).tr ea
      replace q := zB (zB (zB q dj) di) ea
      replace ab := ac.below t
      replace aj := ap.below t
      refine zc (c_rWrite u ae ws az wt _ q ab aj (by first | omega | assumption) za) ?_
      rintro _ p6 ⟨rfl, ei⟩
      refine zS ?_
      replace g := zB g ei
      refine ⟨rfl, .inr g, yH 4 zk (yR 4 rfl ?_ rfl)⟩
      refine L_seq (writeB rs) (ws.flatMap lineB) rfl zk zk ?_ ?_
      ·intro pl
       refine zS ?_
       refine ⟨rfl, .inr g, yH 5 zk (yR 5 rfl ?_ rfl)⟩
       replace n := zB (zB (zB (zB n dj) di) ea) ei
       refine z1 0 (.bool true) [(.bool true)] n ?_
       intro ph e9
       replace o := zB (zB (zB (zB o dj) di) ea) ei
       replace o := zH o e9 (zP o n zi)
       replace s := zB (zB (zB (zB s dj) di) ea) ei
       replace s := zH s e9 (zP s n zi)
       replace y := zB (zB (zB (zB y dj) di) ea) ei
       replace y := zH y e9 (zP y n zi)
       replace ai := zB (zB (zB (zB ai dj) di) ea) ei
       replace ai := zH ai e9 (zP ai n zi)
       replace n := e9.here
       refine zS ?_
       refine ⟨rfl, .inl zk, yT zk (zD (yA (wN (ds := [⟨.collected ay.heap.size, #[]⟩, ⟨.collected au.heap.size, #[]⟩, ⟨.collected ao.heap.size, #[]⟩, ⟨.collected ak.heap.size, #[]⟩]) cd (wH ai ?_))))⟩
       intro oi f4
       replace n := zH n f4 (zP n ai zi)
       replace y := zH y f4 gn
       refine wH y ?_
       intro n2 g1
       replace n := zH n g1 (zP n y zi)
       replace s := zH (zH s f4 gg) g1 fk
       refine wH s ?_
       intro n8 hf
       replace n := zH n hf (zP n s zi)
       replace o := zH (zH (zH o f4 gk) g1 e6) hf ec
       refine wH o ?_
       intro mu iu
       replace n := zH n iu (zP n o zi)
       refine vI [.cell 6 4] [(.bool true)] rfl ⟨⟨⟨b4, 0, none⟩, zk, wJ zk (zQ n rfl)⟩, trivial⟩ ?_
       replace t := (((((t.tr ei).trans (e9.below fq)).trans (f4.below g8)).trans (g1.below gi)).trans (hf.below fx)).trans (iu.below f2)
       exact ⟨rfl, t⟩
      intro kd
      exfalso; exact kd hrel.write
     intro ko
     replace ko : (ws).length < 3 := by omega
     refine yG ?_
     intro m9 d3
     refine zD (zF (yU (zV (zV (yI (zD (yC (xD 5 6 zk zk zk ?_))))))))
     intro pg dr
     refine ⟨fun w => (w.heap[b1]? = some (.cells [(pt u 0)].toArray 31 (0, 0))), ?_⟩
     replace g := zB (zB g d3) dr
     refine mp 0 rfl (pt am 0) (.inr g) zg (hq := (zA yY)) (mt 2 [2, 3, 4, 5] rfl (pt u 0) g (yQ b1 0 (pt u 0) zk zf (fun w2 h2 => zQ h2 rfl)) (hq := (zA yY)) (yH 1 zk ?_))
     refine yR 1 rfl ?_ rfl
     replace r := zB (zB r d3) dr
     replace p := zB (zB (zH (zH (zB p br.below) cn ad) ck ad) d3) dr
     refine zc (c_Write12 am m_rs rs ax _ r p (by first | omega | assumption)) ?_
     rintro _ oo ⟨rfl, eh⟩
     have := vH rs
     refine zS ?_
     replace g := zB g eh
     refine ⟨rfl, .inr g, yH 3 zk (yR 3 rfl ?_ rfl)⟩
     replace t := ((t.tr d3).tr dr).tr eh
     replace q := zB (zB (zB q d3) dr) eh
     replace ab := ac.below t
     replace aj := ap.below t
     refine zc (c_rWrite u ae ws az wt _ q ab aj (by first | omega | assumption) za) ?_
     rintro _ o0 ⟨rfl, fi⟩
     refine zS ?_
     replace g := zB g fi
     refine ⟨rfl, .inr g, yH 4 zk (yR 4 rfl ?_ rfl)⟩
     refine L_seq (writeB rs) (ws.flatMap lineB) rfl zk zk ?_ ?_
     ·intro p8
      refine zS ?_
      refine ⟨rfl, .inr g, yH 5 zk (yR 5 rfl ?_ rfl)⟩
      replace n := zB (zB (zB (zB n d3) dr) eh) fi
      refine z1 0 (.bool true) [(.bool true)] n ?_
      intro pf f7
      replace o := zB (zB (zB (zB o d3) dr) eh) fi
      replace o := zH o f7 (zP o n zi)
      replace s := zB (zB (zB (zB s d3) dr) eh) fi
      replace s := zH s f7 (zP s n zi)
      replace y := zB (zB (zB (zB y d3) dr) eh) fi
      replace y := zH y f7 (zP y n zi)
      replace n := f7.here
      refine zS ?_
      refine ⟨rfl, .inl zk, yT zk (zD (yA (wN (ds := [⟨.collected au.heap.size, #[]⟩, ⟨.collected ao.heap.size, #[]⟩, ⟨.collected ak.heap.size, #[]⟩]) cd (wH y ?_))))⟩
      intro pq g0
      replace n := zH n g0 (zP n y zi)
      replace s := zH s g0 fk
      refine wH s ?_
      intro mg hl
      replace n := zH n hl (zP n s zi)
      replace o := zH (zH o g0 e6) hl ec
      refine wH o ?_
      intro oe io
      replace n := zH n io (zP n o zi)
      refine vI [.cell 6 4] [(.bool true)] rfl ⟨⟨⟨b4, 0, none⟩, zk, wJ zk (zQ n rfl)⟩, trivial⟩ ?_
      replace t := ((((t.tr fi).trans (f7.below fq)).trans (g0.below gi)).trans (hl.below fx)).trans (io.below f2)
      exact ⟨rfl, t⟩
     intro l3
     exfalso; exact l3 hrel.write
    intro j9
    replace j9 : (ws).length < 2 := by omega
    refine yG ?_
    intro m8 d9
    refine zD (zF (yU (zV (zV (yI (zD (yC (xD 5 6 zk zk zk ?_))))))))
    intro o5 d8
    refine ⟨fun w => (w.heap[b1]? = some (.cells [(pt u 0)].toArray 31 (0, 0))), ?_⟩
    replace g := zB (zB g d9) d8
    refine mp 0 rfl (pt am 0) (.inr g) zg (hq := (zA yY)) (mt 2 [2, 3, 4, 5] rfl (pt u 0) g (yQ b1 0 (pt u 0) zk zf (fun w2 h2 => zQ h2 rfl)) (hq := (zA yY)) (yH 1 zk ?_))
    refine yR 1 rfl ?_ rfl
    replace r := zB (zB r d9) d8
    replace p := zB (zB (zH (zH (zB p bv.below) cs ad) cu ad) d9) d8
    refine zc (c_Write12 am m_rs rs ax _ r p (by first | omega | assumption)) ?_
    rintro _ nd ⟨rfl, fg⟩
    have := vH rs
    refine zS ?_
    replace g := zB g fg
    refine ⟨rfl, .inr g, yH 3 zk (yR 3 rfl ?_ rfl)⟩
    replace t := ((t.tr d9).tr d8).tr fg
    replace q := zB (zB (zB q d9) d8) fg
    replace ab := ac.below t
    replace aj := ap.below t
    refine zc (c_rWrite u ae ws az wt _ q ab aj (by first | omega | assumption) za) ?_
    rintro _ pa ⟨rfl, ga⟩
    refine zS ?_
    replace g := zB g ga
    refine ⟨rfl, .inr g, yH 4 zk (yR 4 rfl ?_ rfl)⟩
    refine L_seq (writeB rs) (ws.flatMap lineB) rfl zk zk ?_ ?_
    ·intro mh
     refine zS ?_
     refine ⟨rfl, .inr g, yH 5 zk (yR 5 rfl ?_ rfl)⟩
     replace n := zB (zB (zB (zB n d9) d8) fg) ga
     refine z1 0 (.bool true) [(.bool true)] n ?_
     intro mi gs
     replace o := zB (zB (zB (zB o d9) d8) fg) ga
     replace o := zH o gs (zP o n zi)
     replace s := zB (zB (zB (zB s d9) d8) fg) ga
     replace s := zH s gs (zP s n zi)
     replace n := gs.here
     refine zS ?_
     refine ⟨rfl, .inl zk, yT zk (zD (yA (wN (ds := [⟨.collected ao.heap.size, #[]⟩, ⟨.collected ak.heap.size, #[]⟩]) cd (wH s ?_))))⟩
     intro oj hn
     replace n := zH n hn (zP n s zi)
     replace o := zH o hn ec
     refine wH o ?_
     intro mk ia
     replace n := zH n ia (zP n o zi)
     refine vI [.cell 6 4] [(.bool true)] rfl ⟨⟨⟨b4, 0, none⟩, zk, wJ zk (zQ n rfl)⟩, trivial⟩ ?_
     replace t := (((t.tr ga).trans (gs.below fq)).trans (hn.below fx)).trans (ia.below f2)
     exact ⟨rfl, t⟩
    intro ld
    exfalso; exact ld hrel.write
   intro kt
   replace kt : (ws).length < 1 := by omega
   refine yG ?_
   intro og em
   refine zD (zF (yU (zV (zV (yI (zD (yC (xD 5 6 zk zk zk ?_))))))))
   intro nj en
   refine ⟨fun w => (w.heap[b1]? = some (.cells [(pt u 0)].toArray 31 (0, 0))), ?_⟩
   replace g := zB (zB g em) en
   refine mp 0 rfl (pt am 0) (.inr g) zg (hq := (zA yY)) (mt 2 [2, 3, 4, 5] rfl (pt u 0) g (yQ b1 0 (pt u 0) zk zf (fun w2 h2 => zQ h2 rfl)) (hq := (zA yY)) (yH 1 zk ?_))
   refine yR 1 rfl ?_ rfl
   replace r := zB (zB r em) en
   replace p := zB (zB (zH (zH (zB p cc.below) cz ad) cy ad) em) en
   refine zc (c_Write12 am m_rs rs ax _ r p (by first | omega | assumption)) ?_
   rintro _ n4 ⟨rfl, f1⟩
   have := vH rs
   refine zS ?_
   replace g := zB g f1
   refine ⟨rfl, .inr g, yH 3 zk (yR 3 rfl ?_ rfl)⟩
   replace t := ((t.tr em).tr en).tr f1
   replace q := zB (zB (zB q em) en) f1
   replace ab := ac.below t
   replace aj := ap.below t
   refine zc (c_rWrite u ae ws az wt _ q ab aj (by first | omega | assumption) za) ?_
   rintro _ mr ⟨rfl, gz⟩
   refine zS ?_
   replace g := zB g gz
   refine ⟨rfl, .inr g, yH 4 zk (yR 4 rfl ?_ rfl)⟩
   refine L_seq (writeB rs) (ws.flatMap lineB) rfl zk zk ?_ ?_
   ·intro qb
    refine zS ?_
    refine ⟨rfl, .inr g, yH 5 zk (yR 5 rfl ?_ rfl)⟩
    replace n := zB (zB (zB (zB n em) en) f1) gz
    refine z1 0 (.bool true) [(.bool true)] n ?_
    intro nq hp
    replace o := zB (zB (zB (zB o em) en) f1) gz
    replace o := zH o hp (zP o n zi)
    replace n := hp.here
    refine zS ?_
    refine ⟨rfl, .inl zk, yT zk (zD (yA (wN (ds := [⟨.collected ak.heap.size, #[]⟩]) cd (wH o ?_))))⟩
    intro no ij
    replace n := zH n ij (zP n o zi)
    refine vI [.cell 6 4] [(.bool true)] rfl ⟨⟨⟨b4, 0, none⟩, zk, wJ zk (zQ n rfl)⟩, trivial⟩ ?_
    replace t := ((t.tr gz).trans (hp.below fq)).trans (ij.below f2)
    exact ⟨rfl, t⟩
   intro k3
   exfalso; exact k3 hrel.write
  intro K c _ x A _ h; exact h.elim
 intro lj
 replace lj : (ws).length < 0 := by omega
 refine yG ?_
 intro me fa
 refine zD (zF (yU (zV (zV (yI (zD (yC (xD 5 6 zk zk zk ?_))))))))
 intro nm fe
 refine ⟨fun w => (w.heap[b1]? = some (.cells [(pt u 0)].toArray 31 (0, 0))), ?_⟩
 replace g := zB (zB g fa) fe
 refine mp 0 rfl (pt am 0) (.inr g) zg (hq := (zA yY)) (mt 2 [2, 3, 4, 5] rfl (pt u 0) g (yQ b1 0 (pt u 0) zk zf (fun w2 h2 => zQ h2 rfl)) (hq := (zA yY)) (yH 1 zk ?_))
 refine yR 1 rfl ?_ rfl
 replace r := zB (zB r fa) fe
 replace p := zB (zB (zH (zB p c2.below) dz ad) fa) fe
 refine zc (c_Write12 am m_rs rs ax _ r p (by first | omega | assumption)) ?_
 rintro _ o1 ⟨rfl, g3⟩
 have := vH rs
 refine zS ?_
 replace g := zB g g3
 refine ⟨rfl, .inr g, yH 3 zk (yR 3 rfl ?_ rfl)⟩
 replace t := ((t.tr fa).tr fe).tr g3
 replace q := zB (zB (zB q fa) fe) g3
 replace ab := ac.below t
 replace aj := ap.below t
 refine zc (c_rWrite u ae ws az wt _ q ab aj (by first | omega | assumption) za) ?_
 rintro _ nx ⟨rfl, hg⟩
 refine zS ?_
 replace g := zB g hg
 refine ⟨rfl, .inr g, yH 4 zk (yR 4 rfl ?_ rfl)⟩
 refine L_seq (writeB rs) (ws.flatMap lineB) rfl zk zk ?_ ?_
 ·intro ms
  refine zS ?_
  refine ⟨rfl, .inr g, yH 5 zk (yR 5 rfl ?_ rfl)⟩
  replace n := zB (zB (zB (zB n fa) fe) g3) hg
  refine z1 0 (.bool true) [(.bool true)] n ?_
  intro qj ic
  replace n := ic.here
  refine zS ?_
  refine ⟨rfl, .inl zk, yT zk (zD (yA (wN (ds := []) cd (vI [.cell 6 4] [(.bool true)] rfl ⟨⟨⟨b4, 0, none⟩, zk, wJ zk (zQ n rfl)⟩, trivial⟩ ?_))))⟩
  replace t := (t.tr hg).trans (ic.below fq)
  exact ⟨rfl, t⟩
 intro la
 exfalso; exact la hrel.write
end Go.Proofs.YtddnhlobnembaaaGreatDoor
end

/- === Wrb5 === -/
section
/- Walks, written by my program walk.py out of the specification rb5.py: each theorem says what one function returns and that it leaves memory as it was. -/
namespace Go.Proofs.YtddnhlobnembaaaGreatDoor
open Go Go.RowKit Go.FK _root_.Go.Proofs.Tryz
set_option maxHeartbeats 4000000
set_option maxRecDepth 100000
section
variable {rows acc : List Brk} {x y z : Brk} {i : Nat} {t : List Brk}
theorem nb_v (h : newB rows = none) : ∀ x ∈ rowsB (kv rows), 0 ≤ x.2.2 ∧ x.2.2 ≤ 255 := by
 intro x b
 have a := newB_ok h
 have := (may_parts (a.may x ((rowsB_perm a).mem_iff.1 b))).2.2
 omega
theorem nb_m7 {r : List Brk} (hx : (([] ++ rows) ++ (y :: r))[rows.length]? = some x) : x = y := by
 rw [List.nil_append, List.getElem?_append_right (Nat.le_refl _), Nat.sub_self] at hx; exact (Option.some.inj hx).symm
theorem nb_m8 {r : List Brk} (hx : (([] ++ rows) ++ (y :: z :: r))[rows.length + 1]? = some x) : x = z := by
 rw [List.nil_append, List.getElem?_append_right zo, show rows.length + 1 - rows.length = 1 by omega] at hx; exact (Option.some.inj hx).symm
theorem nb_at (h : acc.drop i = rows.drop i ++ t) (hx : acc[i]? = some x) (hy : rows[i]? = some y) : x = y := by
 rw [wL hx, wL hy, List.cons_append] at h
 exact (List.cons.inj h).1
theorem nb_on (h : acc.drop i = rows.drop i ++ t) (hx : acc[i]? = some x) (hy : rows[i]? = some y) : (acc.set i z).drop (i + 1) = rows.drop (i + 1) ++ t := by
 rw [wL hx, wL hy, List.cons_append] at h
 rw [List.drop_set_of_lt (Nat.lt_succ_self i)]; exact (List.cons.inj h).2
end
attribute [local irreducible] parF writeB rowsB newB kv
theorem c_furrowlaw08_BracketsNew (j : Value) (rows : List (Int × Int × Int)) (s : Value) (asked : List (Int)) (w : World) (a : Rd w encBrk j rows) (b : Rd w encI32 s asked) (hty : w.cell? ⟨0, 0, none⟩ = some (.iface 180 (.agg #[.pointer (some ⟨7, 39, none⟩)]))) (hcap : CapOk j) (hl : rows.length ≤ 1048576) (ha : asked.length ≤ 9223372036854775807) :
  Calls Tryz.prog 3 #[j, s] w (Ret fun v w' => v = (.bool true) ∧ Below w.heap.size w w') := by
 refine wO 97 func3 rfl ?_
 have h := Below.refl w.heap.size w
 have e := a
 have r := b
 refine wR (zK (nR (zJ (L_appAll wM w.heap.size (.slice none 0 0) j ([] : List (Int × Int × Int)) rows h.size (Row.nil _ w.heap.size 26 3 encBrk) a (by (simp only [List.length_append, List.length_cons, List.length_nil]; omega)) zj zj zk zk zk ?_))))
 intro v1 w2 db dd dl 
 have h := h.grown dd h.size (fun k hk => by simp [Value.ownBlock] at hk)
 have a := e.below h
 have b := r.below h
 have n := db
 refine zK (nR (zJ (zr (Value.agg #[(I3 (-7)), (I3 0), (U8 0)]) (zr (Value.agg #[(I3 (-8)), (I3 0), (U8 0)]) (zM 2 [(I3 (-7)), (I3 0), (U8 0), (I3 (-8)), (I3 0), (U8 0)] 26 ?_)))))
 intro b6 w7 bb
 have c2 := bb.ge h.size
 have aj : Value.ownBlock v1 = none ∨ Value.ownBlock v1 ≠ Value.ownBlock (.slice (some ⟨b6, 0, none⟩) 2 2) := .inr (n.new_ne bb)
 have g := ap_comm aj
 have q : Row w7 w.heap.size 26 3 encBrk (.slice (some ⟨b6, 0, none⟩) 2 2) ([(-7, 0, 0), (-8, 0, 0)] : List (Int × Int × Int)) := Row.made ([(-7, 0, 0), (-8, 0, 0)] : List (Int × Int × Int)) bb c2 rfl rfl (by first | decide | (simp; done))
 have h := h.tr bb.below
 have n := n.below bb.below
 refine L_appAll wM w.heap.size v1 (.slice (some ⟨b6, 0, none⟩) 2 2) (([] : List (Int × Int × Int)) ++ rows) ([(-7, 0, 0), (-8, 0, 0)] : List (Int × Int × Int)) h.size n q.rd (by (simp only [List.length_append, List.length_cons, List.length_nil]; omega)) zj zj zk zk zk ?_
 intro v9 ee cl bq cd 
 have a5 := ap_app2 q cd g
 have h := h.tg h.size bq n
 have q := q.grown bq g
 have g := a5
 have n := cl
 have a := e.below h
 refine zK (nR (zJ (zJ (zln underlying22 (a).len (L_slto wM v9 ((([] : List (Int × Int × Int)) ++ rows) ++ ([(-7, 0, 0), (-8, 0, 0)] : List (Int × Int × Int))) ((rows).length) n zj (by (simp only [List.length_append, List.length_cons, List.length_nil]; omega)) zk ⟨.i64, zk⟩ ?_)))))
 intro c9 ar
 have hz : (List.take ((rows).length) ((([] : List (Int × Int × Int)) ++ rows) ++ ([(-7, 0, 0), (-8, 0, 0)] : List (Int × Int × Int)))) = rows := zi; rw [hz] at ar
 by_cases bm : newB rows = none
 ·skip
  refine zc (c_New_ok c9 rows _ ar zo za) ?_
  rintro _ d1 ⟨am, a3, rfl, c, ay, d, ax, a7⟩
  replace ay := Nat.le_trans h.size ay
  replace ax := Nat.le_trans h.size ax
  have h := h.tr a7
  have a := e.below h
  refine zJ (zr (pt am 0) (zr (I6 0) (zr (I6 0) (zK (zK (zK (nR (zJ (zc (c_New8_ok j rows _ a za zo (by exact bm)) ?_)))))))))
  rintro _ ec ⟨a4, bk, an, rfl, t, p, l, az, ao⟩
  replace az := Nat.le_trans h.size az
  have n := n.below a7
  have ab := ap_call t n; have bc := ap_comm ab
  have t := t.base h.size
  have p := p.base h.size
  have h := h.tr ao
  have a := e.below h
  refine zJ (zr (pt an 0) (zr (I6 0) (zr (I6 0) (zK (zK (zK (nW (wR (zJ (zJ (zr (.bool false) (zJ (zw (zJ (zw (zJ (zw (zr (.bool false) (xY (zJ (zw (zJ (zw (zJ (zw (zln underlying22 (a).len (zw ?_)))))))))))))))))))))))))))
  have hz := yB ((([] : List (Int × Int × Int)) ++ rows) ++ ([(-7, 0, 0), (-8, 0, 0)] : List (Int × Int × Int))) ((rows).length) (by (simp only [List.length_append, List.length_cons, List.length_nil]; omega)); obtain ⟨cs, cy⟩ := hz
  have n := n.below ao
  have hz := (n.rd).at (k := 3) zj cy
  obtain ⟨b0, ap, co, cw⟩ := hz
  refine xO (k := .i64) v9 ((rows).length) _ b0 ap wM co (by (simp only [List.length_append, List.length_cons, List.length_nil]; omega)) zk zk (zw (zr (pt b0 (ap + ((rows).length) * 3)) (zw (wT b0 (ap + ((rows).length) * 3) (I3 cs.1) zk zk (cw 0 _ rfl) (zw (zNe .i32 cs.1 (-7) ?_ ?_))))))
  ·intro cx
   exfalso; (have hq := nb_m7 za; rw [hq] at cx; exact cx rfl)
  intro ed
  refine xY (zJ (zw (zJ (zw (zJ (zw (zln underlying22 (a).len (zw (xR ((rows).length) 1 (zw ?_))))))))))
  have hz := yB ((([] : List (Int × Int × Int)) ++ rows) ++ ([(-7, 0, 0), (-8, 0, 0)] : List (Int × Int × Int))) ((rows).length + 1) (by (simp only [List.length_append, List.length_cons, List.length_nil]; omega)); obtain ⟨c4, c5⟩ := hz
  have hz := (n.rd).at (k := 3) zj c5
  obtain ⟨ce, av, cp, ck⟩ := hz
  refine xO (k := .i64) v9 ((rows).length + 1) _ ce av wM cp (by (simp only [List.length_append, List.length_cons, List.length_nil]; omega)) zk zk (zw (zr (pt ce (av + ((rows).length + 1) * 3)) (zw (wT ce (av + ((rows).length + 1) * 3) (I3 c4.1) zk zk (ck 0 _ rfl) (zw (zNe .i32 c4.1 (-8) ?_ ?_))))))
  ·intro cf
   exfalso; (have hq := nb_m8 za; rw [hq] at cf; exact cf rfl)
  intro ea
  refine xY (nQ (zF (zW (zD (yC (wR (zK (nQ (yF ?_)))))))))
  have c := zB c ao
  have d := zB d ao
  have b := r.below h
  have q := (q.below a7).below ao
  refine xG (fun m s0 w0 => ∃ (i : Nat) (af : List Brk) (ac : Value), (m = rows.length - i) ∧ (s0.ds = []) ∧ ([0, 1, 6, 9, 5, 12].map s0.f = [j, s, (pt am 0), (pt an 0), ac, (N6 i)]) ∧ (Rd w0 encBrk j rows) ∧ (Rd w0 encI32 s asked) ∧ (Row w0 w.heap.size 26 3 encBrk (.slice (some ⟨b6, 0, none⟩) 2 2) ([(-7, 0, 0), (-8, 0, 0)] : List (Int × Int × Int))) ∧ (Row w0 w.heap.size 26 3 encBrk a4 (rowsB (kv rows))) ∧ (Row w0 w.heap.size 52 2 encTw bk ([] : List (Int × Int))) ∧ (Row w0 w.heap.size 26 3 encBrk ac af) ∧ (w0.heap[am]? = some (.cells [(.map (some a3)), (.map none)].toArray 69 (0, 0))) ∧ (w0.heap[a3]? = some (gmObj .i32 vBrk (kv rows))) ∧ (w0.heap[an]? = some (.cells [a4, bk].toArray 78 (0, 0))) ∧ (Value.ownBlock (.slice (some ⟨b6, 0, none⟩) 2 2) = none ∨ Value.ownBlock (.slice (some ⟨b6, 0, none⟩) 2 2) ≠ Value.ownBlock ac) ∧ (Value.ownBlock a4 = none ∨ Value.ownBlock a4 ≠ Value.ownBlock ac) ∧ (Below w.heap.size w w0) ∧ (i ≤ rows.length) ∧ (af.length = rows.length + 2) ∧ (af.drop i = rows.drop i ++ [(-7, 0, 0), (-8, 0, 0)])) _ ⟨0, ((([] : List (Int × Int × Int)) ++ rows) ++ ([(-7, 0, 0), (-8, 0, 0)] : List (Int × Int × Int))), v9, rfl, zk, zk, a, b, q, t, p, n, c, d, l, g, ab, h, (Nat.zero_le _), zi, zi⟩ ?_
  rintro d4 ef dz ⟨i, af, ac, hm, bd, b9, a, b, q, t, p, z, c, d, l, o, ad, h, i1, i2, i3⟩
  refine yZ b9 (yC (wR (zJ (zJ (zln underlying22 (a).len (nLt i ((rows).length) ?_ ?_))))))
  ·intro ei
   refine nQ (zT (zW (zD (yC (yF (yC (yC (yP zk zk (zU (zU ?_))))))))))
   have hz := yB af i zo; obtain ⟨ag, bg⟩ := hz
   have hz := (z.rd).at (k := 3) zj bg
   obtain ⟨cu, bi, cv, cm⟩ := hz
   refine yM (k := .i64) ac i _ cu bi wM cv zo zk zk (xZ cu (bi + i * 3) [(I3 ag.1), (I3 ag.2.1), (U8 ag.2.2)] zk zf zf cm (zU (zU ?_)))
   have hz := yB rows i zo; obtain ⟨ae, cn⟩ := hz
   have hz := (a).at (k := 3) zj cn
   obtain ⟨ch, a8, c8, cg⟩ := hz
   refine yM (k := .i64) j i _ ch a8 wM c8 zo zk zk (xZ ch (a8 + i * 3) [(I3 ae.1), (I3 ae.2.1), (U8 ae.2.2)] zk zf zf cg (vD [(I3 ag.1), (I3 ag.2.1), (U8 ag.2.2)] [(I3 ae.1), (I3 ae.2.1), (U8 ae.2.2)] (ag.1 == ae.1 && ag.2.1 == ae.2.1 && ag.2.2 == ae.2.2) zk zk zk (eqagg26 ag.1 ag.2.1 ag.2.2 ae.1 ae.2.1 ae.2.2) ?_ ?_))
   ·intro cz
    exfalso; first | exact brk_ne cz (nb_at i3 za za) | exact brk_nb cz (nb_at i3 za za)
   intro c0
   replace c0 : ag.1 = ae.1 ∧ ag.2.1 = ae.2.1 ∧ ag.2.2 = ae.2.2 := by simpa [and_assoc] using c0
   refine yG ?_
   intro eg ah
   refine zD (zF (zW (zD (zY (zJ (zJ (zr (Value.agg #[(I3 120), (I3 121), (U8 1)]) ?_)))))))
   have z := z.below ah
   have hz := (z.rd).at (k := 3) zj bg
   obtain ⟨c3, bh, bt, dj⟩ := hz
   refine xO (k := .i64) ac i _ c3 bh wM bt zo zk zk (qP i c3 bh (120, 121, 1) [(I3 120), (I3 121), (U8 1)] z zj zo bt zk zk rfl zk rfl ?_)
   intro eb cr ai
   have h := h.tr ah
   have h := h.tg h.size ai z
   have c := zB c ah
   have c := yO c ai (z.ne c zi)
   have d := zB d ah
   have d := yO d ai (z.ne d (by simp [gmObj]))
   have l := zB l ah
   have l := yO l ai (z.ne l zi)
   have p := p.below ah
   have p := p.grown ai (p.apart z zk)
   have z := cr
   have di : (List.set af i (120, 121, 1))[i]? = some (120, 121, 1) := xA bg
   refine zS (zL (zD (zY (zJ (xR i 1 (zK (zS ?_)))))))
   have b := r.below h
   have a := e.below h
   have q := (q.below ah).grown ai o
   have t := (t.below ah).grown ai ad
   refine zD ⟨_, zo, (i + 1), (List.set af i (120, 121, 1)), ac, rfl, bd, zk, a, b, q, t, p, z, c, d, l, o, ad, h, zo, ?_, ?_⟩
   ·(rw [List.length_set]; exact i2)
   exact nb_on i3 za za
  intro d0
  refine nQ (zF (yU (zV (zV (yI (zD (wR (zJ (zJ (zJ (zc (c_told8w am a3 (kv rows) (.map none) [] an a4 (rowsB (kv rows)) bk ([] : List (Int × Int)) s asked _ c d (.inl ⟨rfl, rfl⟩) l t.rd p.rd b (by exact RelB.new za) (by (rw [kv_len]; omega)) (by (simp; done)) (by exact nb_v za) zo) ?_)))))))))))
  rintro _ d3 ⟨rfl, ak⟩
  have c := zB c ak
  have l := zB l ak
  have d := zB d ak
  have t := t.below ak
  have p := p.below ak
  refine zJ (zw (zJ (zw (zr (.bool false) (zw (zJ (zw (zJ (zw (zJ (zw (zc (c_whole8 am a3 (kv rows) (.map none) [] an a4 (rowsB (kv rows)) bk ([] : List (Int × Int)) _ c d (.inl ⟨rfl, rfl⟩) l t.rd p.rd (by exact RelB.new za) (by (rw [kv_len]; omega))) ?_))))))))))))
  rintro _ eh ⟨rfl, cq⟩
  have h := (h.tr ak).tr cq
  refine zw (xY (xS (zJ (zw (zc (c_awake8  _ (wU hty h)) ?_)))))
  rintro _ d5 ⟨rfl, c7⟩
  have h := h.tr c7
  exact xS (zK (nQ (yA (yK [(.bool true)] (hd := bd) ⟨rfl, h⟩))))
 skip
 refine zc (c_New_bad c9 rows _ ar zo za) ?_
 rintro _ d2 ⟨rfl, a6⟩
 have h := h.tr a6
 have a := e.below h
 refine zJ (zr (.pointer none) (zr (N6 (newI rows)) (zr (I6 (newE rows)) (zK (zK (zK (nR (zJ (zc (c_New8_bad j rows _ a za zo (by exact bm)) ?_)))))))))
 rintro _ d7 ⟨rfl, be⟩
 refine zJ (zr (.pointer none) (zr (N6 (newI rows)) (zr (I6 (newE rows)) (zK (zK (zK (nW (wR (zJ (zJ (zNe .i64 ((newI rows : Nat) : Int) ((newI rows : Nat) : Int) ?_ ?_)))))))))))
 ·intro df
  exact (df rfl).elim
 intro d8
 refine zJ (zw (zJ (zw (zJ (zw (zNe .i64 (newE rows) (newE rows) ?_ ?_))))))
 ·intro dg
  exact (dg rfl).elim
 intro d9
 have h := h.tr be
 have a := e.below h
 refine xY (zJ (zw (zJ (zw (zJ (zw (zln underlying22 (a).len (zw ?_))))))))
 have hz := yB ((([] : List (Int × Int × Int)) ++ rows) ++ ([(-7, 0, 0), (-8, 0, 0)] : List (Int × Int × Int))) ((rows).length) (by (simp only [List.length_append, List.length_cons, List.length_nil]; omega)); obtain ⟨c1, c6⟩ := hz
 have n := (n.below a6).below be
 have hz := (n.rd).at (k := 3) zj c6
 obtain ⟨b5, au, ci, ct⟩ := hz
 refine xO (k := .i64) v9 ((rows).length) _ b5 au wM ci (by (simp only [List.length_append, List.length_cons, List.length_nil]; omega)) zk zk (zw (zr (pt b5 (au + ((rows).length) * 3)) (zw (wT b5 (au + ((rows).length) * 3) (I3 c1.1) zk zk (ct 0 _ rfl) (zw (zNe .i32 c1.1 (-7) ?_ ?_))))))
 ·intro cj
  exfalso; (have hq := nb_m7 za; rw [hq] at cj; exact cj rfl)
 intro dr
 refine xY (zJ (zw (zJ (zw (zJ (zw (zln underlying22 (a).len (zw (xR ((rows).length) 1 (zw ?_))))))))))
 have hz := yB ((([] : List (Int × Int × Int)) ++ rows) ++ ([(-7, 0, 0), (-8, 0, 0)] : List (Int × Int × Int))) ((rows).length + 1) (by (simp only [List.length_append, List.length_cons, List.length_nil]; omega)); obtain ⟨bn, b1⟩ := hz
 have hz := (n.rd).at (k := 3) zj b1
 obtain ⟨ba, al, bx, b8⟩ := hz
 refine xO (k := .i64) v9 ((rows).length + 1) _ ba al wM bx (by (simp only [List.length_append, List.length_cons, List.length_nil]; omega)) zk zk (zw (zr (pt ba (al + ((rows).length + 1) * 3)) (zw (wT ba (al + ((rows).length + 1) * 3) (I3 bn.1) zk zk (b8 0 _ rfl) (zw (zNe .i32 bn.1 (-8) ?_ ?_))))))
 ·intro br
  exfalso; (have hq := nb_m8 za; rw [hq] at br; exact br rfl)
 intro dp
 refine xY (nQ (zF (zW (zD (yC (wR (zK (nQ (yF ?_)))))))))
 have b := r.below h
 have q := (q.below a6).below be
 refine xG (fun m s0 w0 => ∃ (i : Nat) (af : List Brk) (ac : Value), (m = rows.length - i) ∧ (s0.ds = []) ∧ ([0, 1, 6, 9, 5, 12].map s0.f = [j, s, (.pointer none), (.pointer none), ac, (N6 i)]) ∧ (Rd w0 encBrk j rows) ∧ (Rd w0 encI32 s asked) ∧ (Row w0 w.heap.size 26 3 encBrk (.slice (some ⟨b6, 0, none⟩) 2 2) ([(-7, 0, 0), (-8, 0, 0)] : List (Int × Int × Int))) ∧ (Row w0 w.heap.size 26 3 encBrk ac af) ∧ (Value.ownBlock (.slice (some ⟨b6, 0, none⟩) 2 2) = none ∨ Value.ownBlock (.slice (some ⟨b6, 0, none⟩) 2 2) ≠ Value.ownBlock ac) ∧ (Below w.heap.size w w0) ∧ (i ≤ rows.length) ∧ (af.length = rows.length + 2) ∧ (af.drop i = rows.drop i ++ [(-7, 0, 0), (-8, 0, 0)])) _ ⟨0, ((([] : List (Int × Int × Int)) ++ rows) ++ ([(-7, 0, 0), (-8, 0, 0)] : List (Int × Int × Int))), v9, rfl, zk, zk, a, b, q, n, g, h, (Nat.zero_le _), zi, zi⟩ ?_
 rintro dt dq dx ⟨i, af, ac, hm, bd, b9, a, b, q, z, o, h, i1, i2, i3⟩
 refine yZ b9 (yC (wR (zJ (zJ (zln underlying22 (a).len (nLt i ((rows).length) ?_ ?_))))))
 ·intro dw
  refine nQ (zT (zW (zD (yC (yF (yC (yC (yP zk zk (zU (zU ?_))))))))))
  have hz := yB af i zo; obtain ⟨u, aw⟩ := hz
  have hz := (z.rd).at (k := 3) zj aw
  obtain ⟨bu, a0, b7, b2⟩ := hz
  refine yM (k := .i64) ac i _ bu a0 wM b7 zo zk zk (xZ bu (a0 + i * 3) [(I3 u.1), (I3 u.2.1), (U8 u.2.2)] zk zf zf b2 (zU (zU ?_)))
  have hz := yB rows i zo; obtain ⟨y, bw⟩ := hz
  have hz := (a).at (k := 3) zj bw
  obtain ⟨bl, a1, cb, b4⟩ := hz
  refine yM (k := .i64) j i _ bl a1 wM cb zo zk zk (xZ bl (a1 + i * 3) [(I3 y.1), (I3 y.2.1), (U8 y.2.2)] zk zf zf b4 (vD [(I3 u.1), (I3 u.2.1), (U8 u.2.2)] [(I3 y.1), (I3 y.2.1), (U8 y.2.2)] (u.1 == y.1 && u.2.1 == y.2.1 && u.2.2 == y.2.2) zk zk zk (eqagg26 u.1 u.2.1 u.2.2 y.1 y.2.1 y.2.2) ?_ ?_))
  ·intro bo
   exfalso; first | exact brk_ne bo (nb_at i3 za za) | exact brk_nb bo (nb_at i3 za za)
  intro bs
  replace bs : u.1 = y.1 ∧ u.2.1 = y.2.1 ∧ u.2.2 = y.2.2 := by simpa [and_assoc] using bs
  refine yG ?_
  intro dn aq
  refine zD (zF (zW (zD (zY (zJ (zJ (zr (Value.agg #[(I3 120), (I3 121), (U8 1)]) ?_)))))))
  have z := z.below aq
  have hz := (z.rd).at (k := 3) zj aw
  obtain ⟨bp, a2, bf, de⟩ := hz
  refine xO (k := .i64) ac i _ bp a2 wM bf zo zk zk (qP i bp a2 (120, 121, 1) [(I3 120), (I3 121), (U8 1)] z zj zo bf zk zk rfl zk rfl ?_)
  intro dk bv a9
  have h := h.tr aq
  have h := h.tg h.size a9 z
  have z := bv
  have dc : (List.set af i (120, 121, 1))[i]? = some (120, 121, 1) := xA aw
  refine zS (zL (zD (zY (zJ (xR i 1 (zK (zS ?_)))))))
  have b := r.below h
  have a := e.below h
  have q := (q.below aq).grown a9 o
  refine zD ⟨_, zo, (i + 1), (List.set af i (120, 121, 1)), ac, rfl, bd, zk, a, b, q, z, o, h, zo, ?_, ?_⟩
  ·(rw [List.length_set]; exact i2)
  exact nb_on i3 za za
 intro du
 refine nQ (zF (yU (zV (zV (yI (zD (wR (zJ (zJ (zJ (zc (c_told_nil s asked _ b) ?_)))))))))))
 rintro _ dv ⟨rfl, ca⟩
 have h := h.tr ca
 refine zJ (zw (zJ (zw (zr (.bool true) (zw (zJ (zs (zs (zs (zw (xS (xS (zJ (zw (zc (c_awake8  _ (wU hty h)) ?_)))))))))))))))
 rintro _ dm ⟨rfl, cc⟩
 have h := h.tr cc
 exact xS (zK (nQ (yA (yK [(.bool true)] (hd := bd) ⟨rfl, h⟩))))
end Go.Proofs.YtddnhlobnembaaaGreatDoor
end

/- === PRb3 === -/
section
/- PRb3: chapter 8: twins told to the document's book and to the program's. My own text. -/
namespace Go.FK
open Go Go.RowKit
section
variable {m m2 : List (Int × Brk)} {ws : List Brk} {l t : List (Int × Int)} {r : Int} {x : Int × Int}
theorem lay_get (t : List (Int × Int)) (x : Int × Int) : gget (layT m t x) r = (gget t r).or (if pT m r x = true then some x.2 else none) := by
 unfold layT cntT pT
 by_cases a : (gget m x.1).isSome = true
 ·by_cases hr : x.1 = r
  ·subst hr
   cases hg : gget t x.1 with
   | some y => rw [if_neg (by simp), hg]; simp
   | none => rw [if_pos ⟨a, rfl⟩, gget_snoc, hg]; simp [a]
  ·rw [show ((gget m x.1).isSome && decide (x.1 = r)) = false by simp [hr]]
   split
   ·rw [gget_snoc]
    cases hg : gget t r with
    | some y => simp
    | none => simp [show ¬ r = x.1 from fun e => hr e.symm]
   ·simp
 ·rw [show (gget m x.1).isSome = false by simpa using a]; simp
theorem fold_get : ∀ (l t : List (Int × Int)), gget (l.foldl (layT m) t) r = (gget t r).or ((l.find? (pT m r)).map (·.2))
 | [], t => by simp
 | x :: l, t => by
  rw [List.foldl_cons, fold_get l, lay_get, List.find?_cons, Option.or_assoc]
  cases hp : pT m r x <;> simp
theorem tws_get : gget (twsM m l) r = (l.find? (pT m r)).map (·.2) := by
 unfold twsM; rw [fold_get]; rfl
theorem tld_tws : tldF ws l r = (gget (twsM (kv ws) l) r).isSome := by unfold tldF; rw [tws_get]; simp
theorem tw_tws : twF ws l r = tw1 (twsM (kv ws) l) r := by
 unfold twF tw1; rw [tws_get]; cases l.find? (pT (kv ws) r) <;> rfl
theorem twF_filter : twF ws (l.filter (cntT (kv ws))) r = twF ws l r := by
 unfold twF
 have e : (l.filter (cntT (kv ws))).find? (pT (kv ws) r) = l.find? (pT (kv ws) r) := by
  rw [List.find?_filter]
  congr 1; funext x; unfold cntT pT
  cases (gget (kv ws) x.1).isSome <;> simp
 rw [e]
theorem cnt_alike (h : ∀ r, gget m r = gget m2 r) : cntT m = cntT m2 := by funext x; unfold cntT; rw [h]
theorem lay_alike (h : ∀ r, gget m r = gget m2 r) : layT m = layT m2 := by funext t x; unfold layT; rw [cnt_alike h]
theorem tws_alike (h : ∀ r, gget m r = gget m2 r) : twsM m l = twsM m2 l := by unfold twsM; rw [lay_alike h]
theorem look_alike (h : ∀ r, gget m r = gget m2 r) : lookB m r = lookB m2 r := by unfold lookB; rw [h]
theorem bad_alike (h : ∀ r, gget m r = gget m2 r) : badT m t x = badT m2 t x := by
 unfold badT; rw [cnt_alike h, look_alike h, look_alike h, h]
theorem badI_alike (h : ∀ r, gget m r = gget m2 r) : ∀ (l : List (Int × Int)) (i : Nat), badI m t l i = badI m2 t l i
 | [], _ => rfl
 | x :: l, i => by rw [badI, badI, bad_alike h, badI_alike h l]
theorem twE_alike (h : ∀ r, gget m r = gget m2 r) : twE m l = twE m2 l := by unfold twE; rw [tws_alike h, badI_alike h]
end
section
variable {ws : List Brk} {l acc : List (Int × Int)} {x : Int × Int} {i : Nat}
theorem fl_on (h : acc = (l.take i).filter (cntT (kv ws))) (hx : l[i]? = some x) (hc : (gget (kv ws) x.1).isSome = true) : acc ++ [x] = (l.take (i + 1)).filter (cntT (kv ws)) := by
 rw [List.take_add_one, hx, Option.toList_some, List.filter_append, ← h, List.filter_cons_of_pos (by unfold cntT; exact hc)]; rfl
theorem fl_no (h : acc = (l.take i).filter (cntT (kv ws))) (hx : l[i]? = some x) (hc : (gget (kv ws) x.1).isSome = false) : acc = (l.take (i + 1)).filter (cntT (kv ws)) := by
 rw [List.take_add_one, hx, Option.toList_some, List.filter_append, ← h, List.filter_cons_of_neg (by unfold cntT; rw [hc]; decide), List.filter_nil, List.append_nil]
theorem fl_len : (l.filter (cntT (kv ws))).length ≤ l.length := List.length_filter_le _ _
abbrev BtI (ws : List Brk) (l : List (Int × Int)) (i : Nat) : Prop := BadI (kv ws) (twsM (kv ws) l) l i
theorem bt_p3 (h : (gget (kv ws) x.1).isSome = true) (h1 : tldF ws l x.2 = true) : badT (kv ws) (twsM (kv ws) l) x = true := bt_3 h (by rw [← tld_tws]; exact h1)
theorem bt_p4 (h : (gget (kv ws) x.1).isSome = true) (h1 : twF ws l (lookB (kv ws) x.1).2.1 ≠ (lookB (kv ws) x.2).2.1) : badT (kv ws) (twsM (kv ws) l) x = true := bt_4 h (by rw [← tw_tws]; exact h1)
theorem bt_pok (h : (gget (kv ws) x.1).isSome = true) (h1 : (gget (kv ws) x.2).isSome = true) (h2 : (lookB (kv ws) x.2).2.2 = (lookB (kv ws) x.1).2.2) (h3 : tldF ws l x.2 = false) (h4 : twF ws l (lookB (kv ws) x.1).2.1 = (lookB (kv ws) x.2).2.1) : badT (kv ws) (twsM (kv ws) l) x = false :=
 bt_ok h h1 h2 (by rw [← tld_tws]; exact h3) (by rw [← tw_tws]; exact h4)
theorem qA (hok : twE (kv ws) l = none) (h : BtI ws l i) (hx : l[i]? = some x) (hb : badT (kv ws) (twsM (kv ws) l) x = true) : False := by
 unfold twE at hok; rw [h.hit hx hb] at hok; cases hok
theorem qX (h : BtI ws l i) (hx : l[i]? = some x) (hb : badT (kv ws) (twsM (kv ws) l) x = true) : twI (kv ws) l = i := by
 unfold twI twE; rw [h.hit hx hb]; rfl
theorem bt_end (h : BtI ws l i) (hi : l.length ≤ i) : twE (kv ws) l = none := h.end hi
end
theorem RelB.twins {rs : List (Int × Brk)} {ts wt l : List (Int × Int)} {ws : List Brk} (h : RelB rs ts ws wt) : RelB rs (twsM rs l) ws (l.filter (cntT (kv ws))) :=
 ⟨h.get, h.rows, fun r => by rw [twF_filter, tw_tws, tws_alike h.get]; rfl⟩
end Go.FK
end
