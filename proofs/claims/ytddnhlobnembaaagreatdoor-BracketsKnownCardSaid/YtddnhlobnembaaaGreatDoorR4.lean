/- Joined by my program pack2.py out of my own texts: Wcb7 Wcb8 FKbe Wcb9. -/
import Derived.Test.YtddnhlobnembaaaGreatDoorProg
import Derived.Tactics2
import Derived.Test.YtddnhlobnembaaaGreatDoorR1
import Derived.Test.YtddnhlobnembaaaGreatDoorR2
import Derived.Test.YtddnhlobnembaaaGreatDoorR3
set_option linter.unusedVariables false
set_option linter.unusedSimpArgs false
/- === Wcb7 === -/
section
/- Walks, written by my program walk.py out of the specification cb7.py: each theorem says what one function returns and that it leaves memory as it was. -/
namespace Go.Proofs.YtddnhlobnembaaaGreatDoor
open Go Go.RowKit Go.FK _root_.Go.Proofs.Tryz
set_option maxHeartbeats 4000000
set_option maxRecDepth 100000
theorem c_counts (ta : Int) (ts : Int) (j : Nat) (e : Nat) (m_rs : Nat) (rs : List (Int × (Int × Int × Int))) (l : Value) (w : World) (d : w.heap[j]? = some (.cells [(pt e 0)].toArray 27 (0, 0))) (c : w.heap[e]? = some (.cells [(.map (some m_rs)), l].toArray 69 (0, 0))) (b : w.heap[m_rs]? = some (gmObj .i32 vBrk rs)) :
  Calls Tryz.prog 53 #[(Value.agg #[(I3 ta), (I3 ts)]), (pt j 0)] w (Ret fun v w' => v = (.bool ((gget rs ta).isSome)) ∧ Below w.heap.size w w') := by
 refine wG 17 func53 rfl ?_
 have m := Below.refl w.heap.size w
 refine wR (zN [(I3 ta), (I3 ts)] 52 ?_)
 intro r q h
 have s := h.ge m.size
 have a := h.here
 refine zH (nW (wF 11 13 zk zk zk ?_))
 intro u i
 refine ⟨fun w => (w.heap[j]? = some (.cells [(pt e 0)].toArray 27 (0, 0))) ∧ (w.heap[e]? = some (.cells [(.map (some m_rs)), l].toArray 69 (0, 0))) ∧ (w.heap[r]? = some (.cells [(I3 ta), (I3 ts)].toArray 52 (0, 0))) ∧ (w.heap[m_rs]? = some (gmObj .i32 vBrk rs)), ?_⟩
 have c := zA (zA c h.below) i
 have d := zA (zA d h.below) i
 have a := zA a i
 have b := zA (zA b h.below) i
 refine mt 0 [0, 1, 2, 3, 6, 7, 8, 9, 11, 12] rfl (pt e 0) ⟨d, c, a, b⟩ (yY j 0 (pt e 0) zk zf (fun q h2 => zR h2.1 rfl)) (hq := (zC zJ)) (mp 1 rfl (pt e 0) (.inr ⟨d, c, a, b⟩) zg (hq := (zC zJ)) (mp 2 rfl (pt e 0) (.inr ⟨d, c, a, b⟩) zg (hq := (zC zJ)) (mt 3 [3, 6, 7, 8, 9, 11, 12] rfl (.map (some m_rs)) ⟨d, c, a, b⟩ (yY e 0 (.map (some m_rs)) zk zf (fun q h2 => zR h2.2.1 rfl)) (hq := (zC zJ)) (mp 4 rfl (pt r 0) (.inr ⟨d, c, a, b⟩) zg (hq := (zC zJ)) (mt 5 [5, 6, 7, 8, 9, 11, 12] rfl (I3 ta) ⟨d, c, a, b⟩ (yY r 0 (I3 ta) zk zf (fun q h2 => zR h2.2.2.1 rfl)) (hq := (zC zJ)) (mt 6 [6, 7, 8, 9, 11, 12] rfl (.tuple #[(Value.agg #[(I3 ((lookB rs ta).1)), (I3 ((lookB rs ta).2.1)), (U8 ((lookB rs ta).2.2))]), (.bool ((gget rs ta).isSome))]) ⟨d, c, a, b⟩ (R_glook (k := .i32) (f := vBrk) (0, 0, 0) ta rs underlying66 underlying21 zk zk zk (fun q h2 => GmAt.of h2.2.2.2)) (hq := (zC zJ)) (mp 7 rfl (.tuple #[(Value.agg #[(I3 ((lookB rs ta).1)), (I3 ((lookB rs ta).2.1)), (U8 ((lookB rs ta).2.2))]), (.bool ((gget rs ta).isSome))]) (.inr ⟨d, c, a, b⟩) zg (hq := (zC zJ)) (mp 8 rfl (Value.agg #[(I3 ((lookB rs ta).1)), (I3 ((lookB rs ta).2.1)), (U8 ((lookB rs ta).2.2))]) (.inr ⟨d, c, a, b⟩) zg (hq := (zC zJ)) (mp 9 rfl (.bool ((gget rs ta).isSome)) (.inr ⟨d, c, a, b⟩) zg (hq := (zC zJ)) (yP 10 zk ?_))))))))))
 refine yZ 10 rfl ?_ rfl
 refine zN [(I3 0), (I3 0), (U8 0)] 26 ?_
 intro z y g
 have m := (m.tr h.below).tr i
 have n := g.ge m.size
 have o := g.here
 refine zU ?_
 have c := zA c g.below
 have d := zA d g.below
 have a := zA a g.below
 have b := zA b g.below
 refine ⟨rfl, .inr ⟨d, c, a, b⟩, yP 11 zk (yZ 11 rfl ?_ rfl)⟩
 refine wN [(I3 ((lookB rs ta).1)), (I3 ((lookB rs ta).2.1)), (U8 ((lookB rs ta).2.2))] o ?_
 intro t p
 refine zU ?_
 refine ⟨rfl, .inl zk, ?_⟩
 have m := (m.tr g.below).trans (p.below n)
 exact mp 12 rfl (.bool ((gget rs ta).isSome)) (.inl zk) zg (hq := (zC zJ)) (yU zk (zB (wR (zG (zH (nQ (zS (yC [(.bool ((gget rs ta).isSome))] ⟨rfl, m⟩))))))))
theorem c_twin (r : Int) (d : Nat) (b : Nat) (e : Value) (a : Value) (tw : List (Int × Int)) (w : World) (g : w.heap[d]? = some (.cells [(pt b 0)].toArray 27 (0, 0))) (h : w.heap[b]? = some (.cells [e, a].toArray 69 (0, 0))) (c : GmAt .i32 vI32 w a tw) :
  Calls Tryz.prog 54 #[(I3 r), (pt d 0)] w (Ret fun v w' => v = (I3 (tw1 tw r)) ∧ Below w.heap.size w w') := by
 refine wG 18 func54 rfl ?_
 have i := Below.refl w.heap.size w
 refine wR (zH (nW (wR (zO 0 g rfl (zr (pt b 0) (zFO 1 h rfl (zG (L_glook (k := .i32) (f := vI32) 0 r tw underlying67 underlying21 zk c zk zk (zG (zr (I3 ((gget tw r).getD 0)) (zr (.bool ((gget tw r).isSome)) (zX ((gget tw r).isSome) ?_ ?_))))))))))))
 ·intro l
  exact zH (zH (nR (zG (nQ (zT (wR (zG (zH (nQ (zS (zE (yC [(I3 ((gget tw r).getD 0))] ⟨e3 (by (rw [tw1_y za]; done)), i⟩))))))))))))
 intro j
 exact zH (zH (nR (zG (nQ (zF (zQ (zB (wR (zG (zH (nQ (zS (yC [(I3 r)] ⟨e3 (by (rw [tw1_n za]; done)), i⟩)))))))))))))
theorem c_Twins_ok (an : Nat) (m_rs : Nat) (rs : List (Int × (Int × Int × Int))) (bo : Value) (ce : Value) (l : List (Int × Int)) (w : World) (o : w.heap[an]? = some (.cells [(.map (some m_rs)), bo].toArray 69 (0, 0))) (h : w.heap[m_rs]? = some (gmObj .i32 vBrk rs)) (ap : Rd w encTw ce l) (hl : l.length ≤ 9223372036854775807) (hok : twE rs l = none) :
  Calls Tryz.prog 21 #[(pt an 0), ce] w (Ret fun v w' => ∃ (cb0 mb0 mt0 : Nat), v = (.tuple #[(pt cb0 0), (I6 0), (I6 0)]) ∧ w'.heap[cb0]? = some (.cells [(.map (some mb0)), (.map (some mt0))].toArray 69 (0, 0)) ∧ w.heap.size ≤ cb0 ∧ w'.heap[mb0]? = some (gmObj .i32 vBrk rs) ∧ w.heap.size ≤ mb0 ∧ w'.heap[mt0]? = some (gmObj .i32 vI32 (twsM rs l)) ∧ w.heap.size ≤ mt0 ∧ NE mb0 mt0 ∧ Below w.heap.size w w') := by
 refine wG 128 func21 rfl ?_
 have hb := Below.refl w.heap.size w
 have ax := ap
 refine wR (zN [(pt an 0)] 27 ?_)
 intro b1 w2 co
 have fb := co.ge hb.size
 have e := co.here
 have o := zA o co.below
 have h := zA h co.below
 refine zH (zH (zH (nW (wR (zO 0 e rfl (zc (c_there_g an m_rs rs bo _ o h) ?_))))))
 rintro _ w4 ⟨rfl, cs⟩
 have o := zA o cs
 have e := zA e cs
 refine wX true (nQ (zF (zQ (zB (wR (zO 0 e rfl (zr (pt an 0) (zFO 0 o rfl (L_inline 52 [(.map (some m_rs))] zk zk (wG 9 func52 rfl ?_))))))))))
 have h := zA h cs
 refine wR (zH (nW (wR (zG (zr (.bool false) (nQ (zF (zQ (zB (wR (zG (zr (.iface 66 (.map (some m_rs))) (L_mclone (k := .i32) (fm := vBrk) (t := 66) func94 zk zk zk zk m_rs rs h zk ?_)))))))))))))
 intro b7 w8 cj
 have hb := (hb.tr co.below).tr cs
 have ci := cj.ge hb.size
 have d := cj.here
 refine L_unmap (.map (some b7)) underlying66 zk (zH (nQ (zS (yC [(.map (some b7))] ?_))))
 show L _ _ _ _ _ _ (Fm.put _ _ (.map (some b7))) _
 refine L_gmk (T := 67) .i32 vI32 ?_
 intro a2 g4 bi
 have o := zA o cj.below
 have ch := yE (zV o) bi
 have h := zA h cj.below
 have bz := yE (zV h) bi
 have e := zA e cj.below
 have cc := yE (zV e) bi
 have bg := yE (zV d) bi
 have hb := hb.tr cj.below
 have cr := bi.ge hb.size
 have c := bi.here
 refine zr (Value.agg #[(.map (some b7)), (.map (some a2))]) (zN [(.map (some b7)), (.map (some a2))] 69 ?_)
 intro u gf bq
 have b6 := yE (zV c) bq
 have b8 := NE.symm b6
 have hb := hb.tr bi.below
 have cu := bq.ge hb.size
 have b := bq.here
 refine zN [(.pointer none)] 27 ?_
 intro a5 gr a8
 have h := zA (zA h bi.below) bq.below
 have b9 := yE (zV h) a8
 have e := zA (zA e bi.below) bq.below
 have cl := yE (zV e) a8
 have d := zA (zA d bi.below) bq.below
 have bw := yE (zV d) a8
 have c := zA c bq.below
 have bv := yE (zV c) a8
 have ca := NE.symm bv
 have hb := hb.tr bq.below
 have de := a8.ge hb.size
 have g := a8.here
 refine z1 0 (pt u 0) [(pt u 0)] g ?_
 intro gq bs
 have o := zA (zA (zA o bi.below) bq.below) a8.below
 have o := zD o bs (zP o g zi)
 have b := zA b a8.below
 have b := zD b bs (zP b g zi)
 have g := bs.here
 have hb := (hb.tr a8.below).trans (bs.below de)
 have ap := ax.below hb
 refine nR (zr (.func (.func 53) #[] #[(pt b1 0)]) (zH (nW (wR (zG (zln underlying50 (ap).len (zG (nQ (yI ?_)))))))))
 have c := zD (zA c a8.below) bs bv
 have d := zD (zA d a8.below) bs bw
 have e := zD (zA e a8.below) bs cl
 have h := zD (zA h a8.below) bs b9
 refine xN (fun m s0 w0 => ∃ (i : Nat) (tw : List (Int × Int)), (m = l.length - i) ∧ (s0.ds = []) ∧ ([1, 2, 4, 5, 6, 7, 8, 33, 34, 35].map s0.f = [ce, (pt b1 0), (.pointer none), (I6 0), (I6 0), (pt a5 0), (.func (.func 53) #[] #[(pt b1 0)]), ce, (N6 ((l).length)), (N6 i)]) ∧ (Rd w0 encTw ce l) ∧ (w0.heap[an]? = some (.cells [(.map (some m_rs)), bo].toArray 69 (0, 0))) ∧ (w0.heap[m_rs]? = some (gmObj .i32 vBrk rs)) ∧ (w0.heap[b1]? = some (.cells [(pt an 0)].toArray 27 (0, 0))) ∧ (w0.heap[b7]? = some (gmObj .i32 vBrk rs)) ∧ (w0.heap[a2]? = some (gmObj .i32 vI32 tw)) ∧ (w0.heap[u]? = some (.cells [(.map (some b7)), (.map (some a2))].toArray 69 (0, 0))) ∧ (w0.heap[a5]? = some (.cells [(pt u 0)].toArray 27 (0, 0))) ∧ (Below w.heap.size w w0) ∧ (i ≤ l.length) ∧ (tw = twsM rs (l.take i))) _ ⟨0, [], rfl, zk, zk, ap, o, h, e, d, c, b, g, hb, (Nat.zero_le _), rfl⟩ ?_
 rintro f8 gw gm ⟨i, tw, hm, ai, cv, ap, o, h, e, d, c, b, g, hb, i1, z⟩
 refine xK cv (wR (nLt i ((l).length) ?_ ?_))
 ·intro gn
  refine nW (zT (zQ (zB (yF (yI (wR ?_))))))
  have hz := yL l i zo; obtain ⟨ar, c7⟩ := hz
  refine zEA ap el50 i c7 [(I3 ar.1), (I3 ar.2)] rfl fun _ => (zN [(I3 0), (I3 0)] 52 ?_)
  intro cd gu ae
  have bm := yE (zV h) ae
  have aj := yE (zV d) ae
  have b5 := yE (zV c) ae
  have b2 := ae.ge hb.size
  have s := ae.here
  refine wN [(I3 ar.1), (I3 ar.2)] s ?_
  intro gi au
  have o := zA o ae.below
  have o := zD o au (zP o s zi)
  have e := zA e ae.below
  have e := zD e au (zP e s zi)
  have b := zA b ae.below
  have b := zD b au (zP b s zi)
  have g := zA g ae.below
  have g := zD g au (zP g s zi)
  have s := au.here
  have c := zD (zA c ae.below) au b5
  refine nW (yN zk zk (yB a5 0 (pt u 0) zk zf (zR g rfl) (zZ (pt u 0) zf (zZ (pt u 1) zf (yB u 1 (.map (some a2)) zk zf (zR b rfl) (zZ (pt cd 0) zf (yB cd 0 (I3 ar.1) zk zf (zR s rfl) (xR (k := .i32) (f := vI32) 0 ar.1 tw underlying67 underlying21 zk (GmAt.of c) zk zk (zY (zZ (I3 ((gget tw ar.1).getD 0)) zf (zZ (.bool ((gget tw ar.1).isSome)) zf (yW ((gget tw ar.1).isSome) ?_ ?_))))))))))))
  ·intro f0
   refine yR (yR (yJ ?_))
   intro gs a1
   have o := zA o a1
   have s := zA s a1
   have e := zA e a1
   have h := zA (zD (zA h ae.below) au bm) a1
   refine zB (wR (zG (zOW s (zc (c_counts ar.1 ar.2 b1 an m_rs rs bo _ e o h) ?_))))
   rintro _ f3 ⟨rfl, av⟩
   refine zX ((gget rs ar.1).isSome) ?_ ?_
   ·intro fx
    refine zG (zw (zG (zw (wX true (xE (nQ (zF (zQ (zL (zB (zW (zad i 1 (zG (zU ?_))))))))))))))
    have hb := (((hb.tr ae.below).trans (au.below b2)).tr a1).tr av
    have o := zA o av
    have c := zA (zA c a1) av
    have d := zA (zA (zD (zA d ae.below) au aj) a1) av
    have e := zA e av
    have b := zA (zA b a1) av
    have g := zA (zA g a1) av
    have ap := ax.below hb
    have h := zA h av
    exact zB ⟨_, zo, (i + 1), tw, rfl, ai, zk, ap, o, h, e, d, c, b, g, hb, zo, tws_had z za za⟩
   intro f4
   refine zG (zs (zs (xC (nQ (zF (zQ (zL (zB (zW (zad i 1 (zG (zU ?_))))))))))))
   have hb := (((hb.tr ae.below).trans (au.below b2)).tr a1).tr av
   have o := zA o av
   have c := zA (zA c a1) av
   have d := zA (zA (zD (zA d ae.below) au aj) a1) av
   have e := zA e av
   have b := zA (zA b a1) av
   have g := zA (zA g a1) av
   have ap := ax.below hb
   have h := zA h av
   exact zB ⟨_, zo, (i + 1), tw, rfl, ai, zk, ap, o, h, e, d, c, b, g, hb, zo, tws_no z za za⟩
  intro fw
  refine yR (yR (yJ ?_))
  intro g2 a0
  have o := zA o a0
  have s := zA s a0
  have e := zA e a0
  have h := zA (zD (zA h ae.below) au bm) a0
  refine zB (wR (zG (zOW s (zc (c_counts ar.1 ar.2 b1 an m_rs rs bo _ e o h) ?_))))
  rintro _ g0 ⟨rfl, ao⟩
  refine zX ((gget rs ar.1).isSome) ?_ ?_
  ·intro f2
   refine zG (zw (zG (zw (wX false (xE (nQ (zT (wF 8 9 zk zk zk ?_))))))))
   intro g1 bp
   refine ⟨fun w => (w.heap[a5]? = some (.cells [(pt u 0)].toArray 27 (0, 0))) ∧ (w.heap[u]? = some (.cells [(.map (some b7)), (.map (some a2))].toArray 69 (0, 0))) ∧ (w.heap[cd]? = some (.cells [(I3 ar.1), (I3 ar.2)].toArray 52 (0, 0))), ?_⟩
   have s := zA (zA s ao) bp
   have b := zA (zA (zA b a0) ao) bp
   have g := zA (zA (zA g a0) ao) bp
   refine mt 0 [0, 1, 2, 3, 8] rfl (pt u 0) ⟨g, b, s⟩ (yY a5 0 (pt u 0) zk zf (fun w2 h2 => zR h2.1 rfl)) (hq := (zI (zC (zC (zI (zC zJ)))))) (mp 1 rfl (pt u 0) (.inr ⟨g, b, s⟩) zg (hq := (zI (zC (zC (zI (zC zJ)))))) (mp 2 rfl (pt u 1) (.inr ⟨g, b, s⟩) zg (hq := (zI (zC (zC (zI (zC zJ)))))) (mt 3 [3, 8] rfl (.map (some a2)) ⟨g, b, s⟩ (yY u 1 (.map (some a2)) zk zf (fun w2 h2 => zR h2.2.1 rfl)) (hq := (zI (zC (zC (zI (zC zJ)))))) (mp 4 rfl (pt cd 0) (.inr ⟨g, b, s⟩) zg (hq := (zI (zC (zC (zI (zC zJ)))))) (mt 5 [5, 8] rfl (I3 ar.1) ⟨g, b, s⟩ (yY cd 0 (I3 ar.1) zk zf (fun w2 h2 => zR h2.2.2 rfl)) (hq := (zI (zC (zC (zI (zC zJ)))))) (mp 6 rfl (pt cd 1) (.inr ⟨g, b, s⟩) zg (hq := (zI (zC (zC (zI (zC zJ)))))) (mt 7 [7, 8] rfl (I3 ar.2) ⟨g, b, s⟩ (yY cd 1 (I3 ar.2) zk zf (fun w2 h2 => zR h2.2.2 rfl)) (hq := (zI (zC (zC (zI (zC zJ)))))) (yP 8 zk ?_))))))))
   refine yZ 8 rfl ?_ rfl
   have c := zA (zA (zA c a0) ao) bp
   refine L_glay (k := .i32) (f := vI32) a2 ar.1 ar.2 tw underlying67 underlying21 c zk zk zk (by first | exact isn za | (omega)) ?_
   intro go bt
   have c := bt.here
   refine zU ?_
   refine ⟨rfl, .inl zk, yU zk (zL (zB (zW (zad i 1 (zG (zU ?_))))))⟩
   have hb := (((((hb.tr ae.below).trans (au.below b2)).tr a0).tr ao).tr bp).trans (bt.below cr)
   have o := zD (zA (zA o ao) bp) bt ch
   have d := zD (zA (zA (zA (zD (zA d ae.below) au aj) a0) ao) bp) bt bg
   have e := zD (zA (zA e ao) bp) bt cc
   have b := zD b bt b8
   have g := zD g bt ca
   have ap := ax.below hb
   have h := zD (zA (zA h ao) bp) bt bz
   exact zB ⟨_, zo, (i + 1), (tw ++ [(ar.1, ar.2)]), rfl, ai, zk, ap, o, h, e, d, c, b, g, hb, zo, tws_add z za za za⟩
  intro g3
  refine zG (zs (zs (xC (nQ (zF (zQ (zL (zB (zW (zad i 1 (zG (zU ?_))))))))))))
  have hb := (((hb.tr ae.below).trans (au.below b2)).tr a0).tr ao
  have o := zA o ao
  have c := zA (zA c a0) ao
  have d := zA (zA (zD (zA d ae.below) au aj) a0) ao
  have e := zA e ao
  have b := zA (zA b a0) ao
  have g := zA (zA g a0) ao
  have ap := ax.below hb
  have h := zA h ao
  exact zB ⟨_, zo, (i + 1), tw, rfl, ai, zk, ap, o, h, e, d, c, b, g, hb, zo, tws_no z za za⟩
 intro gz
 refine nW (zF (xG (yD (yD (yQ (zB (wR (zr (.func (.func 54) #[] #[(pt a5 0)]) (zH (nW (wR (zG (zln underlying50 (ap).len (zG (nQ (yI (xN (fun m s0 w0 => ∃ (j : Nat), (m = l.length - j) ∧ (s0.ds = []) ∧ ([2, 7, 8, 13, 66, 67, 68].map s0.f = [(pt b1 0), (pt a5 0), (.func (.func 53) #[] #[(pt b1 0)]), (.func (.func 54) #[] #[(pt a5 0)]), ce, (N6 ((l).length)), (N6 j)]) ∧ (Rd w0 encTw ce l) ∧ (w0.heap[an]? = some (.cells [(.map (some m_rs)), bo].toArray 69 (0, 0))) ∧ (w0.heap[m_rs]? = some (gmObj .i32 vBrk rs)) ∧ (w0.heap[b1]? = some (.cells [(pt an 0)].toArray 27 (0, 0))) ∧ (w0.heap[b7]? = some (gmObj .i32 vBrk rs)) ∧ (w0.heap[a2]? = some (gmObj .i32 vI32 tw)) ∧ (w0.heap[u]? = some (.cells [(.map (some b7)), (.map (some a2))].toArray 69 (0, 0))) ∧ (w0.heap[a5]? = some (.cells [(pt u 0)].toArray 27 (0, 0))) ∧ (Below w.heap.size w w0) ∧ (j ≤ l.length) ∧ (BadI rs tw l j)) _ ⟨0, rfl, ai, zk, ap, o, h, e, d, c, b, g, hb, (Nat.zero_le _), BadI.zero⟩ ?_)))))))))))))))))
 rintro gb ga f9 ⟨j, hm, ai, cv, ap, o, h, e, d, c, b, g, hb, j1, j2⟩
 refine xK cv (wR (nLt j ((l).length) ?_ ?_))
 ·intro gj
  refine nW (zT (zQ (zB (yF (yI (wR (zG ?_)))))))
  have hz := yL l j zo; obtain ⟨a, cz⟩ := hz
  refine zEA ap el50 j cz [(I3 a.1), (I3 a.2)] rfl fun _ => (zN [(I3 0), (I3 0)] 52 ?_)
  intro bd gh aw
  have b0 := yE (zV h) aw
  have bh := yE (zV d) aw
  have br := yE (zV c) aw
  have cp := aw.ge hb.size
  have n := aw.here
  refine zH (wN [(I3 a.1), (I3 a.2)] n ?_)
  intro f7 bb
  have o := zA o aw.below
  have o := zD o bb (zP o n zi)
  have e := zA e aw.below
  have e := zD e bb (zP e n zi)
  have b := zA b aw.below
  have b := zD b bb (zP b n zi)
  have g := zA g aw.below
  have g := zD g bb (zP g n zi)
  have n := bb.here
  have h := zD (zA h aw.below) bb b0
  refine nW (wR (zG (zOW n (zc (c_counts a.1 a.2 b1 an m_rs rs bo _ e o h) ?_))))
  rintro _ gg ⟨rfl, al⟩
  refine zX ((gget rs a.1).isSome) ?_ ?_
  ·intro f5
   refine wX true (nQ (zF (zQ (zB (yF (wF 8 9 zk zk zk ?_))))))
   intro fv bn
   refine ⟨fun w => (w.heap[b1]? = some (.cells [(pt an 0)].toArray 27 (0, 0))) ∧ (w.heap[an]? = some (.cells [(.map (some m_rs)), bo].toArray 69 (0, 0))) ∧ (w.heap[bd]? = some (.cells [(I3 a.1), (I3 a.2)].toArray 52 (0, 0))) ∧ (w.heap[m_rs]? = some (gmObj .i32 vBrk rs)), ?_⟩
   have o := zA (zA o al) bn
   have n := zA (zA n al) bn
   have e := zA (zA e al) bn
   have h := zA (zA h al) bn
   refine mt 0 [0, 1, 2, 3, 6, 8] rfl (pt an 0) ⟨e, o, n, h⟩ (yY b1 0 (pt an 0) zk zf (fun w2 h2 => zR h2.1 rfl)) (hq := (zC (zI (zC (zC (zI (zC zJ))))))) (mp 1 rfl (pt an 0) (.inr ⟨e, o, n, h⟩) zg (hq := (zC (zI (zC (zC (zI (zC zJ))))))) (mp 2 rfl (pt an 0) (.inr ⟨e, o, n, h⟩) zg (hq := (zC (zI (zC (zC (zI (zC zJ))))))) (mt 3 [3, 6, 8] rfl (.map (some m_rs)) ⟨e, o, n, h⟩ (yY an 0 (.map (some m_rs)) zk zf (fun w2 h2 => zR h2.2.1 rfl)) (hq := (zC (zI (zC (zC (zI (zC zJ))))))) (mp 4 rfl (pt bd 0) (.inr ⟨e, o, n, h⟩) zg (hq := (zC (zI (zC (zC (zI (zC zJ))))))) (mt 5 [5, 6, 8] rfl (I3 a.1) ⟨e, o, n, h⟩ (yY bd 0 (I3 a.1) zk zf (fun w2 h2 => zR h2.2.2.1 rfl)) (hq := (zC (zI (zC (zC (zI (zC zJ))))))) (mt 6 [6, 8] rfl (Value.agg #[(I3 ((lookB rs a.1).1)), (I3 ((lookB rs a.1).2.1)), (U8 ((lookB rs a.1).2.2))]) ⟨e, o, n, h⟩ (R_glook1 (k := .i32) (f := vBrk) (0, 0, 0) a.1 rs underlying66 underlying21 zk zk zk (fun w2 h2 => GmAt.of h2.2.2.2)) (hq := (zC (zI (zC (zC (zI (zC zJ))))))) (yP 7 zk ?_)))))))
   refine yZ 7 rfl ?_ rfl
   refine zN [(I3 0), (I3 0), (U8 0)] 26 ?_
   intro bc f6 ah
   have bx := yE (zV h) ah
   have d := zA (zA (zD (zA d aw.below) bb bh) al) bn
   have bl := yE (zV d) ah
   have c := zA (zA (zD (zA c aw.below) bb br) al) bn
   have be := yE (zV c) ah
   have hb := (((hb.tr aw.below).trans (bb.below cp)).tr al).tr bn
   have cb := ah.ge hb.size
   have q := ah.here
   refine zU ?_
   have o := zA o ah.below
   have n := zA n ah.below
   have e := zA e ah.below
   have h := zA h ah.below
   refine ⟨rfl, .inr ⟨e, o, n, h⟩, yP 8 zk (yZ 8 rfl ?_ rfl)⟩
   refine wN [(I3 ((lookB rs a.1).1)), (I3 ((lookB rs a.1).2.1)), (U8 ((lookB rs a.1).2.2))] q ?_
   intro gx az
   have o := zD o az (zP o q zi)
   have e := zD e az (zP e q zi)
   have b := zA (zA (zA b al) bn) ah.below
   have b := zD b az (zP b q zi)
   have g := zA (zA (zA g al) bn) ah.below
   have g := zD g az (zP g q zi)
   have n := zD n az (zP n q zi)
   have q := az.here
   refine zU ?_
   refine ⟨rfl, .inl zk, yU zk (zB (yF (wF 11 13 zk zk zk ?_)))⟩
   intro fz ab
   refine ⟨fun w => (w.heap[b1]? = some (.cells [(pt an 0)].toArray 27 (0, 0))) ∧ (w.heap[an]? = some (.cells [(.map (some m_rs)), bo].toArray 69 (0, 0))) ∧ (w.heap[bd]? = some (.cells [(I3 a.1), (I3 a.2)].toArray 52 (0, 0))) ∧ (w.heap[m_rs]? = some (gmObj .i32 vBrk rs)), ?_⟩
   have o := zA o ab
   have n := zA n ab
   have e := zA e ab
   have h := zA (zD h az bx) ab
   refine mt 0 [0, 1, 2, 3, 6, 7, 8, 9, 11, 12] rfl (pt an 0) ⟨e, o, n, h⟩ (yY b1 0 (pt an 0) zk zf (fun w2 h2 => zR h2.1 rfl)) (hq := (zC (zI (zC (zC (zI (zC zJ))))))) (mp 1 rfl (pt an 0) (.inr ⟨e, o, n, h⟩) zg (hq := (zC (zI (zC (zC (zI (zC zJ))))))) (mp 2 rfl (pt an 0) (.inr ⟨e, o, n, h⟩) zg (hq := (zC (zI (zC (zC (zI (zC zJ))))))) (mt 3 [3, 6, 7, 8, 9, 11, 12] rfl (.map (some m_rs)) ⟨e, o, n, h⟩ (yY an 0 (.map (some m_rs)) zk zf (fun w2 h2 => zR h2.2.1 rfl)) (hq := (zC (zI (zC (zC (zI (zC zJ))))))) (mp 4 rfl (pt bd 1) (.inr ⟨e, o, n, h⟩) zg (hq := (zC (zI (zC (zC (zI (zC zJ))))))) (mt 5 [5, 6, 7, 8, 9, 11, 12] rfl (I3 a.2) ⟨e, o, n, h⟩ (yY bd 1 (I3 a.2) zk zf (fun w2 h2 => zR h2.2.2.1 rfl)) (hq := (zC (zI (zC (zC (zI (zC zJ))))))) (mt 6 [6, 7, 8, 9, 11, 12] rfl (.tuple #[(Value.agg #[(I3 ((lookB rs a.2).1)), (I3 ((lookB rs a.2).2.1)), (U8 ((lookB rs a.2).2.2))]), (.bool ((gget rs a.2).isSome))]) ⟨e, o, n, h⟩ (R_glook (k := .i32) (f := vBrk) (0, 0, 0) a.2 rs underlying66 underlying21 zk zk zk (fun w2 h2 => GmAt.of h2.2.2.2)) (hq := (zC (zI (zC (zC (zI (zC zJ))))))) (mp 7 rfl (.tuple #[(Value.agg #[(I3 ((lookB rs a.2).1)), (I3 ((lookB rs a.2).2.1)), (U8 ((lookB rs a.2).2.2))]), (.bool ((gget rs a.2).isSome))]) (.inr ⟨e, o, n, h⟩) zg (hq := (zC (zI (zC (zC (zI (zC zJ))))))) (mp 8 rfl (Value.agg #[(I3 ((lookB rs a.2).1)), (I3 ((lookB rs a.2).2.1)), (U8 ((lookB rs a.2).2.2))]) (.inr ⟨e, o, n, h⟩) zg (hq := (zC (zI (zC (zC (zI (zC zJ))))))) ?_))))))))
   refine M_all2 9 10 zk ?_ ?_
   ·skip
    refine yZ 9 rfl ?_ rfl
    refine zr (.bool ((gget rs a.2).isSome)) (zX ((gget rs a.2).isSome) ?_ ?_)
    ·intro fy
     refine zU ?_
     refine ⟨rfl, .inr ⟨e, o, n, h⟩, yP 10 zk (yZ 10 rfl ?_ rfl)⟩
     refine zN [(I3 0), (I3 0), (U8 0)] 26 ?_
     intro ck gp am
     have ay := yE (zV h) am
     have d := zA (zD (zA d ah.below) az bl) ab
     have ag := yE (zV d) am
     have c := zA (zD (zA c ah.below) az be) ab
     have y := yE (zV c) am
     have q := zA q ab
     have ac := yE (zV q) am
     have hb := ((hb.tr ah.below).trans (az.below cb)).tr ab
     have bu := am.ge hb.size
     have p := am.here
     refine zU ?_
     have o := zA o am.below
     have n := zA n am.below
     have e := zA e am.below
     have h := zA h am.below
     refine ⟨rfl, .inr ⟨e, o, n, h⟩, yP 11 zk (yZ 11 rfl ?_ rfl)⟩
     refine wN [(I3 ((lookB rs a.2).1)), (I3 ((lookB rs a.2).2.1)), (U8 ((lookB rs a.2).2.2))] p ?_
     intro gc a9
     have o := zD o a9 (zP o p zi)
     have e := zD e a9 (zP e p zi)
     have b := zA (zA b ab) am.below
     have b := zD b a9 (zP b p zi)
     have g := zA (zA g ab) am.below
     have g := zD g a9 (zP g p zi)
     have n := zD n a9 (zP n p zi)
     have p := a9.here
     refine zU ?_
     refine ⟨rfl, .inl zk, ?_⟩
     have c := zD (zA c am.below) a9 y
     refine mp 12 rfl (.bool true) (.inl zk) zg (hq := (zC (zI (zC (zC (zI (zC zJ))))))) (yU zk (zB (yF (yN zk zk (yB a5 0 (pt u 0) zk zf (zR g rfl) (zZ (pt u 0) zf (zZ (pt u 1) zf (yB u 1 (.map (some a2)) zk zf (zR b rfl) (zZ (pt bd 1) zf (yB bd 1 (I3 a.2) zk zf (zR n rfl) (xR (k := .i32) (f := vI32) 0 a.2 tw underlying67 underlying21 zk (GmAt.of c) zk zk (zY (zZ (I3 ((gget tw a.2).getD 0)) zf (zZ (.bool ((gget tw a.2).isSome)) zf (yW ((gget tw a.2).isSome) ?_ ?_)))))))))))))))
     ·intro gy
      refine yR (yR (yJ ?_))
      intro f1 ct
      have q := zA (zD (zA q am.below) a9 ac) ct
      have p := zA p ct
      refine zB (yF (yN zk zk (zY (xO true zk (zY (qw (zZ (pt ck 2) zf (qw (yB ck 2 (U8 ((lookB rs a.2).2.2)) zk zf (zR p rfl) (qw (zZ (pt bc 2) zf (qw (yB bc 2 (U8 ((lookB rs a.1).2.2)) zk zf (zR q rfl) (qw (wA .u8 ((lookB rs a.2).2.2) ((lookB rs a.1).2.2) ((lookB rs a.2).2.2 ≠ (lookB rs a.1).2.2) rfl (xV ((lookB rs a.2).2.2) ((lookB rs a.1).2.2)) zk zk ?_ ?_)))))))))))))))
      ·intro d2
       replace d2 : (lookB rs a.2).2.2 ≠ (lookB rs a.1).2.2 := by omega
       refine qF (zY (qs (qT (zY (qs (qs (qs (qs (qs (qs (qs (qT (yJ ?_)))))))))))))
       intro gl ej
       refine zB (zT (wR (zG (zH (zH (zH (nQ (zS (zK (zE (zE (zK (zE (yC [(.pointer none), (N6 j), (I6 83)] (hd := ai) ?_))))))))))))))
       exfalso; first | exact yG hok z zo (j2.hit za (bt_1 za za)) | exact yG hok z zo (j2.hit za (bt_2 za za)) | exact yG hok z zo (j2.hit za (bt_3 za za)) | exact yG hok z zo (j2.hit za (bt_4 za za))
      intro dr
      replace dr : (lookB rs a.2).2.2 = (lookB rs a.1).2.2 := by omega
      refine qF (zY (qw (zY (qF (zY (qs (qs (qs (qs (qs (qs (qs (qT (yJ ?_))))))))))))))
      intro gv eh
      refine zB (zT (wR (zG (zH (zH (zH (nQ (zS (zK (zE (zE (zK (zE (yC [(.pointer none), (N6 j), (I6 83)] (hd := ai) ?_))))))))))))))
      exfalso; first | exact yG hok z zo (j2.hit za (bt_1 za za)) | exact yG hok z zo (j2.hit za (bt_2 za za)) | exact yG hok z zo (j2.hit za (bt_3 za za)) | exact yG hok z zo (j2.hit za (bt_4 za za))
     intro d6
     refine yR (yR (yJ ?_))
     intro eu a7
     have q := zA (zD (zA q am.below) a9 ac) a7
     have p := zA p a7
     refine zB (yF (yN zk zk (zY (xO true zk (zY (qw (zZ (pt ck 2) zf (qw (yB ck 2 (U8 ((lookB rs a.2).2.2)) zk zf (zR p rfl) (qw (zZ (pt bc 2) zf (qw (yB bc 2 (U8 ((lookB rs a.1).2.2)) zk zf (zR q rfl) (qw (wA .u8 ((lookB rs a.2).2.2) ((lookB rs a.1).2.2) ((lookB rs a.2).2.2 ≠ (lookB rs a.1).2.2) rfl (xV ((lookB rs a.2).2.2) ((lookB rs a.1).2.2)) zk zk ?_ ?_)))))))))))))))
     ·intro c0
      replace c0 : (lookB rs a.2).2.2 ≠ (lookB rs a.1).2.2 := by omega
      refine qF (zY (qs (qT (zY (qs (qs (qs (qs (qs (qs (qs (qT (yJ ?_)))))))))))))
      intro en dy
      refine zB (zT (wR (zG (zH (zH (zH (nQ (zS (zK (zE (zE (zK (zE (yC [(.pointer none), (N6 j), (I6 83)] (hd := ai) ?_))))))))))))))
      exfalso; first | exact yG hok z zo (j2.hit za (bt_1 za za)) | exact yG hok z zo (j2.hit za (bt_2 za za)) | exact yG hok z zo (j2.hit za (bt_3 za za)) | exact yG hok z zo (j2.hit za (bt_4 za za))
     intro dc
     replace dc : (lookB rs a.2).2.2 = (lookB rs a.1).2.2 := by omega
     have c := zA c a7
     have b := zA b a7
     have g := zA g a7
     refine qF (zY (qw (zY (qF (zY (qw (zY (qw (zZ (pt bc 1) zf (qw (yB bc 1 (I3 ((lookB rs a.1).2.1)) zk zf (zR q rfl) (qw (Lq_call 54 [(I3 ((lookB rs a.1).2.1)), (pt a5 0)] (I3 (tw1 tw ((lookB rs a.1).2.1))) zg (fun wq hbq => c_twin ((lookB rs a.1).2.1) a5 u (.map (some b7)) (.map (some a2)) tw wq (zA g hbq) (zA b hbq) (GmAt.of (zA c hbq))) (qw (zZ (pt ck 1) zf (qw (yB ck 1 (I3 ((lookB rs a.2).2.1)) zk zf (zR p rfl) (qw (wA .i32 (tw1 tw ((lookB rs a.1).2.1)) ((lookB rs a.2).2.1) ((tw1 tw ((lookB rs a.1).2.1)) ≠ (lookB rs a.2).2.1) rfl (xV (tw1 tw ((lookB rs a.1).2.1)) ((lookB rs a.2).2.1)) zk zk ?_ ?_)))))))))))))))))))
     ·intro c9
      replace c9 : (tw1 tw ((lookB rs a.1).2.1)) ≠ (lookB rs a.2).2.1 := by omega
      refine qF (yJ ?_)
      intro fp dq
      refine zB (zT (wR (zG (zH (zH (zH (nQ (zS (zK (zE (zE (zK (zE (yC [(.pointer none), (N6 j), (I6 83)] (hd := ai) ?_))))))))))))))
      exfalso; first | exact yG hok z zo (j2.hit za (bt_1 za za)) | exact yG hok z zo (j2.hit za (bt_2 za za)) | exact yG hok z zo (j2.hit za (bt_3 za za)) | exact yG hok z zo (j2.hit za (bt_4 za za))
     intro c8
     replace c8 : (tw1 tw ((lookB rs a.1).2.1)) = (lookB rs a.2).2.1 := by omega
     refine qF (yJ ?_)
     intro ex bf
     refine zB (zF (zQ (zL (zB (zW (zad j 1 (zG (zU ?_))))))))
     have hb := (((hb.tr am.below).trans (a9.below bu)).tr a7).tr bf
     have o := zA (zA o a7) bf
     have c := zA c bf
     have d := zA (zA (zD (zA d am.below) a9 ag) a7) bf
     have e := zA (zA e a7) bf
     have b := zA b bf
     have g := zA g bf
     have ap := ax.below hb
     have h := zA (zA (zD h a9 ay) a7) bf
     exact zB ⟨_, zo, (j + 1), rfl, ai, zk, ap, o, h, e, d, c, b, g, hb, zo, j2.step za (bt_ok za za za za za)⟩
    intro e1
    refine zU ?_
    refine ⟨rfl, .inr ⟨e, o, n, h⟩, yP 10 zk (yZ 10 rfl ?_ rfl)⟩
    refine zN [(I3 0), (I3 0), (U8 0)] 26 ?_
    intro fs er a3
    have c := zA (zD (zA c ah.below) az be) ab
    have y := yE (zV c) a3
    have hb := ((hb.tr ah.below).trans (az.below cb)).tr ab
    have bu := a3.ge hb.size
    have p := a3.here
    refine zU ?_
    have o := zA o a3.below
    have n := zA n a3.below
    have e := zA e a3.below
    have h := zA h a3.below
    refine ⟨rfl, .inr ⟨e, o, n, h⟩, yP 11 zk (yZ 11 rfl ?_ rfl)⟩
    refine wN [(I3 ((lookB rs a.2).1)), (I3 ((lookB rs a.2).2.1)), (U8 ((lookB rs a.2).2.2))] p ?_
    intro fl b3
    have b := zA (zA b ab) a3.below
    have b := zD b b3 (zP b p zi)
    have g := zA (zA g ab) a3.below
    have g := zD g b3 (zP g p zi)
    have n := zD n b3 (zP n p zi)
    refine zU ?_
    refine ⟨rfl, .inl zk, ?_⟩
    have c := zD (zA c a3.below) b3 y
    refine mp 12 rfl (.bool false) (.inl zk) zg (hq := (zC (zI (zC (zC (zI (zC zJ))))))) (yU zk (zB (yF (yN zk zk (yB a5 0 (pt u 0) zk zf (zR g rfl) (zZ (pt u 0) zf (zZ (pt u 1) zf (yB u 1 (.map (some a2)) zk zf (zR b rfl) (zZ (pt bd 1) zf (yB bd 1 (I3 a.2) zk zf (zR n rfl) (xR (k := .i32) (f := vI32) 0 a.2 tw underlying67 underlying21 zk (GmAt.of c) zk zk (zY (zZ (I3 ((gget tw a.2).getD 0)) zf (zZ (.bool ((gget tw a.2).isSome)) zf (yW ((gget tw a.2).isSome) ?_ ?_)))))))))))))))
    ·intro fg
     refine yR (yR (yJ ?_))
     intro e3 dz
     refine zB (yF (yN zk zk (zY (xO false zk (zY (qs (qs (qs (qs (qs (qT (zY (qs (qT (zY (qs (qs (qs (qs (qs (qs (qs (qT (yJ ?_))))))))))))))))))))))))
     intro fe dm
     refine zB (zT (wR (zG (zH (zH (zH (nQ (zS (zK (zE (zE (zK (zE (yC [(.pointer none), (N6 j), (I6 83)] (hd := ai) ?_))))))))))))))
     exfalso; first | exact yG hok z zo (j2.hit za (bt_1 za za)) | exact yG hok z zo (j2.hit za (bt_2 za za)) | exact yG hok z zo (j2.hit za (bt_3 za za)) | exact yG hok z zo (j2.hit za (bt_4 za za))
    intro ed
    refine yR (yR (yJ ?_))
    intro ek d0
    refine zB (yF (yN zk zk (zY (xO false zk (zY (qs (qs (qs (qs (qs (qT (zY (qs (qT (zY (qs (qs (qs (qs (qs (qs (qs (qT (yJ ?_))))))))))))))))))))))))
    intro e6 du
    refine zB (zT (wR (zG (zH (zH (zH (nQ (zS (zK (zE (zE (zK (zE (yC [(.pointer none), (N6 j), (I6 83)] (hd := ai) ?_))))))))))))))
    exfalso; first | exact yG hok z zo (j2.hit za (bt_1 za za)) | exact yG hok z zo (j2.hit za (bt_2 za za)) | exact yG hok z zo (j2.hit za (bt_3 za za)) | exact yG hok z zo (j2.hit za (bt_4 za za))
   skip
   refine yZ 10 rfl ?_ rfl
   refine zN [(I3 0), (I3 0), (U8 0)] 26 ?_
   intro ba fk r
   have ay := yE (zV h) r
   have d := zA (zD (zA d ah.below) az bl) ab
   have ag := yE (zV d) r
   have c := zA (zD (zA c ah.below) az be) ab
   have y := yE (zV c) r
   have q := zA q ab
   have ac := yE (zV q) r
   have hb := ((hb.tr ah.below).trans (az.below cb)).tr ab
   have bu := r.ge hb.size
   have p := r.here
   refine zU ?_
   have o := zA o r.below
   have n := zA n r.below
   have e := zA e r.below
   have h := zA h r.below
   refine ⟨rfl, .inr ⟨e, o, n, h⟩, M_all2 9 11 zk ?_ ?_⟩
   ·skip
    refine yZ 9 rfl ?_ rfl
    refine zr (.bool ((gget rs a.2).isSome)) (zX ((gget rs a.2).isSome) ?_ ?_)
    ·intro eo
     refine zU ?_
     refine ⟨rfl, .inr ⟨e, o, n, h⟩, yP 11 zk (yZ 11 rfl ?_ rfl)⟩
     refine wN [(I3 ((lookB rs a.2).1)), (I3 ((lookB rs a.2).2.1)), (U8 ((lookB rs a.2).2.2))] p ?_
     intro es aq
     have o := zD o aq (zP o p zi)
     have e := zD e aq (zP e p zi)
     have b := zA (zA b ab) r.below
     have b := zD b aq (zP b p zi)
     have g := zA (zA g ab) r.below
     have g := zD g aq (zP g p zi)
     have n := zD n aq (zP n p zi)
     have p := aq.here
     refine zU ?_
     refine ⟨rfl, .inl zk, ?_⟩
     have c := zD (zA c r.below) aq y
     refine mp 12 rfl (.bool true) (.inl zk) zg (hq := (zC (zI (zC (zC (zI (zC zJ))))))) (yU zk (zB (yF (yN zk zk (yB a5 0 (pt u 0) zk zf (zR g rfl) (zZ (pt u 0) zf (zZ (pt u 1) zf (yB u 1 (.map (some a2)) zk zf (zR b rfl) (zZ (pt bd 1) zf (yB bd 1 (I3 a.2) zk zf (zR n rfl) (xR (k := .i32) (f := vI32) 0 a.2 tw underlying67 underlying21 zk (GmAt.of c) zk zk (zY (zZ (I3 ((gget tw a.2).getD 0)) zf (zZ (.bool ((gget tw a.2).isSome)) zf (yW ((gget tw a.2).isSome) ?_ ?_)))))))))))))))
     ·intro ef
      refine yR (yR (yJ ?_))
      intro e2 cn
      have q := zA (zD (zA q r.below) aq ac) cn
      have p := zA p cn
      refine zB (yF (yN zk zk (zY (xO true zk (zY (qw (zZ (pt ba 2) zf (qw (yB ba 2 (U8 ((lookB rs a.2).2.2)) zk zf (zR p rfl) (qw (zZ (pt bc 2) zf (qw (yB bc 2 (U8 ((lookB rs a.1).2.2)) zk zf (zR q rfl) (qw (wA .u8 ((lookB rs a.2).2.2) ((lookB rs a.1).2.2) ((lookB rs a.2).2.2 ≠ (lookB rs a.1).2.2) rfl (xV ((lookB rs a.2).2.2) ((lookB rs a.1).2.2)) zk zk ?_ ?_)))))))))))))))
      ·intro c1
       replace c1 : (lookB rs a.2).2.2 ≠ (lookB rs a.1).2.2 := by omega
       refine qF (zY (qs (qT (zY (qs (qs (qs (qs (qs (qs (qs (qT (yJ ?_)))))))))))))
       intro fq dv
       refine zB (zT (wR (zG (zH (zH (zH (nQ (zS (zK (zE (zE (zK (zE (yC [(.pointer none), (N6 j), (I6 83)] (hd := ai) ?_))))))))))))))
       exfalso; first | exact yG hok z zo (j2.hit za (bt_1 za za)) | exact yG hok z zo (j2.hit za (bt_2 za za)) | exact yG hok z zo (j2.hit za (bt_3 za za)) | exact yG hok z zo (j2.hit za (bt_4 za za))
      intro c5
      replace c5 : (lookB rs a.2).2.2 = (lookB rs a.1).2.2 := by omega
      refine qF (zY (qw (zY (qF (zY (qs (qs (qs (qs (qs (qs (qs (qT (yJ ?_))))))))))))))
      intro e4 d5
      refine zB (zT (wR (zG (zH (zH (zH (nQ (zS (zK (zE (zE (zK (zE (yC [(.pointer none), (N6 j), (I6 83)] (hd := ai) ?_))))))))))))))
      exfalso; first | exact yG hok z zo (j2.hit za (bt_1 za za)) | exact yG hok z zo (j2.hit za (bt_2 za za)) | exact yG hok z zo (j2.hit za (bt_3 za za)) | exact yG hok z zo (j2.hit za (bt_4 za za))
     intro d8
     refine yR (yR (yJ ?_))
     intro e5 a6
     have q := zA (zD (zA q r.below) aq ac) a6
     have p := zA p a6
     refine zB (yF (yN zk zk (zY (xO true zk (zY (qw (zZ (pt ba 2) zf (qw (yB ba 2 (U8 ((lookB rs a.2).2.2)) zk zf (zR p rfl) (qw (zZ (pt bc 2) zf (qw (yB bc 2 (U8 ((lookB rs a.1).2.2)) zk zf (zR q rfl) (qw (wA .u8 ((lookB rs a.2).2.2) ((lookB rs a.1).2.2) ((lookB rs a.2).2.2 ≠ (lookB rs a.1).2.2) rfl (xV ((lookB rs a.2).2.2) ((lookB rs a.1).2.2)) zk zk ?_ ?_)))))))))))))))
     ·intro c2
      replace c2 : (lookB rs a.2).2.2 ≠ (lookB rs a.1).2.2 := by omega
      refine qF (zY (qs (qT (zY (qs (qs (qs (qs (qs (qs (qs (qT (yJ ?_)))))))))))))
      intro fc dt
      refine zB (zT (wR (zG (zH (zH (zH (nQ (zS (zK (zE (zE (zK (zE (yC [(.pointer none), (N6 j), (I6 83)] (hd := ai) ?_))))))))))))))
      exfalso; first | exact yG hok z zo (j2.hit za (bt_1 za za)) | exact yG hok z zo (j2.hit za (bt_2 za za)) | exact yG hok z zo (j2.hit za (bt_3 za za)) | exact yG hok z zo (j2.hit za (bt_4 za za))
     intro cy
     replace cy : (lookB rs a.2).2.2 = (lookB rs a.1).2.2 := by omega
     have c := zA c a6
     have b := zA b a6
     have g := zA g a6
     refine qF (zY (qw (zY (qF (zY (qw (zY (qw (zZ (pt bc 1) zf (qw (yB bc 1 (I3 ((lookB rs a.1).2.1)) zk zf (zR q rfl) (qw (Lq_call 54 [(I3 ((lookB rs a.1).2.1)), (pt a5 0)] (I3 (tw1 tw ((lookB rs a.1).2.1))) zg (fun wq hbq => c_twin ((lookB rs a.1).2.1) a5 u (.map (some b7)) (.map (some a2)) tw wq (zA g hbq) (zA b hbq) (GmAt.of (zA c hbq))) (qw (zZ (pt ba 1) zf (qw (yB ba 1 (I3 ((lookB rs a.2).2.1)) zk zf (zR p rfl) (qw (wA .i32 (tw1 tw ((lookB rs a.1).2.1)) ((lookB rs a.2).2.1) ((tw1 tw ((lookB rs a.1).2.1)) ≠ (lookB rs a.2).2.1) rfl (xV (tw1 tw ((lookB rs a.1).2.1)) ((lookB rs a.2).2.1)) zk zk ?_ ?_)))))))))))))))))))
     ·intro db
      replace db : (tw1 tw ((lookB rs a.1).2.1)) ≠ (lookB rs a.2).2.1 := by omega
      refine qF (yJ ?_)
      intro ey d4
      refine zB (zT (wR (zG (zH (zH (zH (nQ (zS (zK (zE (zE (zK (zE (yC [(.pointer none), (N6 j), (I6 83)] (hd := ai) ?_))))))))))))))
      exfalso; first | exact yG hok z zo (j2.hit za (bt_1 za za)) | exact yG hok z zo (j2.hit za (bt_2 za za)) | exact yG hok z zo (j2.hit za (bt_3 za za)) | exact yG hok z zo (j2.hit za (bt_4 za za))
     intro cx
     replace cx : (tw1 tw ((lookB rs a.1).2.1)) = (lookB rs a.2).2.1 := by omega
     refine qF (yJ ?_)
     intro e0 bj
     refine zB (zF (zQ (zL (zB (zW (zad j 1 (zG (zU ?_))))))))
     have hb := (((hb.tr r.below).trans (aq.below bu)).tr a6).tr bj
     have o := zA (zA o a6) bj
     have c := zA c bj
     have d := zA (zA (zD (zA d r.below) aq ag) a6) bj
     have e := zA (zA e a6) bj
     have b := zA b bj
     have g := zA g bj
     have ap := ax.below hb
     have h := zA (zA (zD h aq ay) a6) bj
     exact zB ⟨_, zo, (j + 1), rfl, ai, zk, ap, o, h, e, d, c, b, g, hb, zo, j2.step za (bt_ok za za za za za)⟩
    intro ec
    refine zU ?_
    refine ⟨rfl, .inr ⟨e, o, n, h⟩, yP 11 zk (yZ 11 rfl ?_ rfl)⟩
    refine wN [(I3 ((lookB rs a.2).1)), (I3 ((lookB rs a.2).2.1)), (U8 ((lookB rs a.2).2.2))] p ?_
    intro fd b4
    have b := zA (zA b ab) r.below
    have b := zD b b4 (zP b p zi)
    have g := zA (zA g ab) r.below
    have g := zD g b4 (zP g p zi)
    have n := zD n b4 (zP n p zi)
    refine zU ?_
    refine ⟨rfl, .inl zk, ?_⟩
    have c := zD (zA c r.below) b4 y
    refine mp 12 rfl (.bool false) (.inl zk) zg (hq := (zC (zI (zC (zC (zI (zC zJ))))))) (yU zk (zB (yF (yN zk zk (yB a5 0 (pt u 0) zk zf (zR g rfl) (zZ (pt u 0) zf (zZ (pt u 1) zf (yB u 1 (.map (some a2)) zk zf (zR b rfl) (zZ (pt bd 1) zf (yB bd 1 (I3 a.2) zk zf (zR n rfl) (xR (k := .i32) (f := vI32) 0 a.2 tw underlying67 underlying21 zk (GmAt.of c) zk zk (zY (zZ (I3 ((gget tw a.2).getD 0)) zf (zZ (.bool ((gget tw a.2).isSome)) zf (yW ((gget tw a.2).isSome) ?_ ?_)))))))))))))))
    ·intro ee
     refine yR (yR (yJ ?_))
     intro d7 dp
     refine zB (yF (yN zk zk (zY (xO false zk (zY (qs (qs (qs (qs (qs (qT (zY (qs (qT (zY (qs (qs (qs (qs (qs (qs (qs (qT (yJ ?_))))))))))))))))))))))))
     intro ft dk
     refine zB (zT (wR (zG (zH (zH (zH (nQ (zS (zK (zE (zE (zK (zE (yC [(.pointer none), (N6 j), (I6 83)] (hd := ai) ?_))))))))))))))
     exfalso; first | exact yG hok z zo (j2.hit za (bt_1 za za)) | exact yG hok z zo (j2.hit za (bt_2 za za)) | exact yG hok z zo (j2.hit za (bt_3 za za)) | exact yG hok z zo (j2.hit za (bt_4 za za))
    intro eb
    refine yR (yR (yJ ?_))
    intro et d1
    refine zB (yF (yN zk zk (zY (xO false zk (zY (qs (qs (qs (qs (qs (qT (zY (qs (qT (zY (qs (qs (qs (qs (qs (qs (qs (qT (yJ ?_))))))))))))))))))))))))
    intro eg dh
    refine zB (zT (wR (zG (zH (zH (zH (nQ (zS (zK (zE (zE (zK (zE (yC [(.pointer none), (N6 j), (I6 83)] (hd := ai) ?_))))))))))))))
    exfalso; first | exact yG hok z zo (j2.hit za (bt_1 za za)) | exact yG hok z zo (j2.hit za (bt_2 za za)) | exact yG hok z zo (j2.hit za (bt_3 za za)) | exact yG hok z zo (j2.hit za (bt_4 za za))
   skip
   refine yZ 11 rfl ?_ rfl
   refine wN [(I3 ((lookB rs a.2).1)), (I3 ((lookB rs a.2).2.1)), (U8 ((lookB rs a.2).2.2))] p ?_
   intro fo ak
   have o := zD o ak (zP o p zi)
   have e := zD e ak (zP e p zi)
   have b := zA (zA b ab) r.below
   have b := zD b ak (zP b p zi)
   have g := zA (zA g ab) r.below
   have g := zD g ak (zP g p zi)
   have n := zD n ak (zP n p zi)
   have p := ak.here
   refine zU ?_
   refine ⟨rfl, .inl zk, yP 9 zk (yZ 9 rfl ?_ rfl)⟩
   refine zr (.bool ((gget rs a.2).isSome)) (zX ((gget rs a.2).isSome) ?_ ?_)
   ·intro fu
    refine zU ?_
    refine ⟨rfl, .inl zk, ?_⟩
    have c := zD (zA c r.below) ak y
    refine mp 12 rfl (.bool true) (.inl zk) zg (hq := (zC (zI (zC (zC (zI (zC zJ))))))) (yU zk (zB (yF (yN zk zk (yB a5 0 (pt u 0) zk zf (zR g rfl) (zZ (pt u 0) zf (zZ (pt u 1) zf (yB u 1 (.map (some a2)) zk zf (zR b rfl) (zZ (pt bd 1) zf (yB bd 1 (I3 a.2) zk zf (zR n rfl) (xR (k := .i32) (f := vI32) 0 a.2 tw underlying67 underlying21 zk (GmAt.of c) zk zk (zY (zZ (I3 ((gget tw a.2).getD 0)) zf (zZ (.bool ((gget tw a.2).isSome)) zf (yW ((gget tw a.2).isSome) ?_ ?_)))))))))))))))
    ·intro ff
     refine yR (yR (yJ ?_))
     intro fn cq
     have q := zA (zD (zA q r.below) ak ac) cq
     have p := zA p cq
     refine zB (yF (yN zk zk (zY (xO true zk (zY (qw (zZ (pt ba 2) zf (qw (yB ba 2 (U8 ((lookB rs a.2).2.2)) zk zf (zR p rfl) (qw (zZ (pt bc 2) zf (qw (yB bc 2 (U8 ((lookB rs a.1).2.2)) zk zf (zR q rfl) (qw (wA .u8 ((lookB rs a.2).2.2) ((lookB rs a.1).2.2) ((lookB rs a.2).2.2 ≠ (lookB rs a.1).2.2) rfl (xV ((lookB rs a.2).2.2) ((lookB rs a.1).2.2)) zk zk ?_ ?_)))))))))))))))
     ·intro c4
      replace c4 : (lookB rs a.2).2.2 ≠ (lookB rs a.1).2.2 := by omega
      refine qF (zY (qs (qT (zY (qs (qs (qs (qs (qs (qs (qs (qT (yJ ?_)))))))))))))
      intro ep d3
      refine zB (zT (wR (zG (zH (zH (zH (nQ (zS (zK (zE (zE (zK (zE (yC [(.pointer none), (N6 j), (I6 83)] (hd := ai) ?_))))))))))))))
      exfalso; first | exact yG hok z zo (j2.hit za (bt_1 za za)) | exact yG hok z zo (j2.hit za (bt_2 za za)) | exact yG hok z zo (j2.hit za (bt_3 za za)) | exact yG hok z zo (j2.hit za (bt_4 za za))
     intro c6
     replace c6 : (lookB rs a.2).2.2 = (lookB rs a.1).2.2 := by omega
     refine qF (zY (qw (zY (qF (zY (qs (qs (qs (qs (qs (qs (qs (qT (yJ ?_))))))))))))))
     intro fj dl
     refine zB (zT (wR (zG (zH (zH (zH (nQ (zS (zK (zE (zE (zK (zE (yC [(.pointer none), (N6 j), (I6 83)] (hd := ai) ?_))))))))))))))
     exfalso; first | exact yG hok z zo (j2.hit za (bt_1 za za)) | exact yG hok z zo (j2.hit za (bt_2 za za)) | exact yG hok z zo (j2.hit za (bt_3 za za)) | exact yG hok z zo (j2.hit za (bt_4 za za))
    intro ez
    refine yR (yR (yJ ?_))
    intro fh a4
    have q := zA (zD (zA q r.below) ak ac) a4
    have p := zA p a4
    refine zB (yF (yN zk zk (zY (xO true zk (zY (qw (zZ (pt ba 2) zf (qw (yB ba 2 (U8 ((lookB rs a.2).2.2)) zk zf (zR p rfl) (qw (zZ (pt bc 2) zf (qw (yB bc 2 (U8 ((lookB rs a.1).2.2)) zk zf (zR q rfl) (qw (wA .u8 ((lookB rs a.2).2.2) ((lookB rs a.1).2.2) ((lookB rs a.2).2.2 ≠ (lookB rs a.1).2.2) rfl (xV ((lookB rs a.2).2.2) ((lookB rs a.1).2.2)) zk zk ?_ ?_)))))))))))))))
    ·intro cw
     replace cw : (lookB rs a.2).2.2 ≠ (lookB rs a.1).2.2 := by omega
     refine qF (zY (qs (qT (zY (qs (qs (qs (qs (qs (qs (qs (qT (yJ ?_)))))))))))))
     intro d9 dx
     refine zB (zT (wR (zG (zH (zH (zH (nQ (zS (zK (zE (zE (zK (zE (yC [(.pointer none), (N6 j), (I6 83)] (hd := ai) ?_))))))))))))))
     exfalso; first | exact yG hok z zo (j2.hit za (bt_1 za za)) | exact yG hok z zo (j2.hit za (bt_2 za za)) | exact yG hok z zo (j2.hit za (bt_3 za za)) | exact yG hok z zo (j2.hit za (bt_4 za za))
    intro dd
    replace dd : (lookB rs a.2).2.2 = (lookB rs a.1).2.2 := by omega
    have c := zA c a4
    have b := zA b a4
    have g := zA g a4
    refine qF (zY (qw (zY (qF (zY (qw (zY (qw (zZ (pt bc 1) zf (qw (yB bc 1 (I3 ((lookB rs a.1).2.1)) zk zf (zR q rfl) (qw (Lq_call 54 [(I3 ((lookB rs a.1).2.1)), (pt a5 0)] (I3 (tw1 tw ((lookB rs a.1).2.1))) zg (fun wq hbq => c_twin ((lookB rs a.1).2.1) a5 u (.map (some b7)) (.map (some a2)) tw wq (zA g hbq) (zA b hbq) (GmAt.of (zA c hbq))) (qw (zZ (pt ba 1) zf (qw (yB ba 1 (I3 ((lookB rs a.2).2.1)) zk zf (zR p rfl) (qw (wA .i32 (tw1 tw ((lookB rs a.1).2.1)) ((lookB rs a.2).2.1) ((tw1 tw ((lookB rs a.1).2.1)) ≠ (lookB rs a.2).2.1) rfl (xV (tw1 tw ((lookB rs a.1).2.1)) ((lookB rs a.2).2.1)) zk zk ?_ ?_)))))))))))))))))))
    ·intro c3
     replace c3 : (tw1 tw ((lookB rs a.1).2.1)) ≠ (lookB rs a.2).2.1 := by omega
     refine qF (yJ ?_)
     intro ev di
     refine zB (zT (wR (zG (zH (zH (zH (nQ (zS (zK (zE (zE (zK (zE (yC [(.pointer none), (N6 j), (I6 83)] (hd := ai) ?_))))))))))))))
     exfalso; first | exact yG hok z zo (j2.hit za (bt_1 za za)) | exact yG hok z zo (j2.hit za (bt_2 za za)) | exact yG hok z zo (j2.hit za (bt_3 za za)) | exact yG hok z zo (j2.hit za (bt_4 za za))
    intro da
    replace da : (tw1 tw ((lookB rs a.1).2.1)) = (lookB rs a.2).2.1 := by omega
    refine qF (yJ ?_)
    intro fr bk
    refine zB (zF (zQ (zL (zB (zW (zad j 1 (zG (zU ?_))))))))
    have hb := (((hb.tr r.below).trans (ak.below bu)).tr a4).tr bk
    have o := zA (zA o a4) bk
    have c := zA c bk
    have d := zA (zA (zD (zA d r.below) ak ag) a4) bk
    have e := zA (zA e a4) bk
    have b := zA b bk
    have g := zA g bk
    have ap := ax.below hb
    have h := zA (zA (zD h ak ay) a4) bk
    exact zB ⟨_, zo, (j + 1), rfl, ai, zk, ap, o, h, e, d, c, b, g, hb, zo, j2.step za (bt_ok za za za za za)⟩
   intro fa
   refine zU ?_
   refine ⟨rfl, .inl zk, ?_⟩
   have c := zD (zA c r.below) ak y
   refine mp 12 rfl (.bool false) (.inl zk) zg (hq := (zC (zI (zC (zC (zI (zC zJ))))))) (yU zk (zB (yF (yN zk zk (yB a5 0 (pt u 0) zk zf (zR g rfl) (zZ (pt u 0) zf (zZ (pt u 1) zf (yB u 1 (.map (some a2)) zk zf (zR b rfl) (zZ (pt bd 1) zf (yB bd 1 (I3 a.2) zk zf (zR n rfl) (xR (k := .i32) (f := vI32) 0 a.2 tw underlying67 underlying21 zk (GmAt.of c) zk zk (zY (zZ (I3 ((gget tw a.2).getD 0)) zf (zZ (.bool ((gget tw a.2).isSome)) zf (yW ((gget tw a.2).isSome) ?_ ?_)))))))))))))))
   ·intro e9
    refine yR (yR (yJ ?_))
    intro fi dj
    refine zB (yF (yN zk zk (zY (xO false zk (zY (qs (qs (qs (qs (qs (qT (zY (qs (qT (zY (qs (qs (qs (qs (qs (qs (qs (qT (yJ ?_))))))))))))))))))))))))
    intro ei df
    refine zB (zT (wR (zG (zH (zH (zH (nQ (zS (zK (zE (zE (zK (zE (yC [(.pointer none), (N6 j), (I6 83)] (hd := ai) ?_))))))))))))))
    exfalso; first | exact yG hok z zo (j2.hit za (bt_1 za za)) | exact yG hok z zo (j2.hit za (bt_2 za za)) | exact yG hok z zo (j2.hit za (bt_3 za za)) | exact yG hok z zo (j2.hit za (bt_4 za za))
   intro ew
   refine yR (yR (yJ ?_))
   intro e8 dg
   refine zB (yF (yN zk zk (zY (xO false zk (zY (qs (qs (qs (qs (qs (qT (zY (qs (qT (zY (qs (qs (qs (qs (qs (qs (qs (qT (yJ ?_))))))))))))))))))))))))
   intro el dw
   refine zB (zT (wR (zG (zH (zH (zH (nQ (zS (zK (zE (zE (zK (zE (yC [(.pointer none), (N6 j), (I6 83)] (hd := ai) ?_))))))))))))))
   exfalso; first | exact yG hok z zo (j2.hit za (bt_1 za za)) | exact yG hok z zo (j2.hit za (bt_2 za za)) | exact yG hok z zo (j2.hit za (bt_3 za za)) | exact yG hok z zo (j2.hit za (bt_4 za za))
  intro ea
  refine wX false (nQ (zT (xG (yD (yQ (zB (zW (zad j 1 (zG (zU ?_))))))))))
  have hb := ((hb.tr aw.below).trans (bb.below cp)).tr al
  have o := zA o al
  have c := zA (zD (zA c aw.below) bb br) al
  have d := zA (zD (zA d aw.below) bb bh) al
  have e := zA e al
  have b := zA b al
  have g := zA g al
  have ap := ax.below hb
  have h := zA h al
  exact zB ⟨_, zo, (j + 1), rfl, ai, zk, ap, o, h, e, d, c, b, g, hb, zo, j2.step za (bt_no za)⟩
 intro e7
 refine nW (zF (xG (yD (yD (yQ (zB (wR (zO 0 g rfl (zH (zH (zH (nQ (zS (yC [(pt u 0), (I6 0), (I6 0)] (hd := ai) ?_))))))))))))))
 have em : tw = (twsM rs l) := by exact tws_all z zo
 rw [em] at c
 exact ⟨u, b7, a2, rfl, b, cu, d, ci, c, cr, bg, hb⟩
theorem c_Twins_bad (an : Nat) (m_rs : Nat) (rs : List (Int × (Int × Int × Int))) (bm : Value) (cg : Value) (l : List (Int × Int)) (w : World) (o : w.heap[an]? = some (.cells [(.map (some m_rs)), bm].toArray 69 (0, 0))) (h : w.heap[m_rs]? = some (gmObj .i32 vBrk rs)) (ap : Rd w encTw cg l) (hl : l.length ≤ 9223372036854775807) (hbad : twE rs l ≠ none) :
  Calls Tryz.prog 21 #[(pt an 0), cg] w (Ret fun v w' => v = (.tuple #[(.pointer none), (N6 (twI rs l)), (I6 83)]) ∧ Below w.heap.size w w') := by
 refine wG 128 func21 rfl ?_
 have s := Below.refl w.heap.size w
 have a1 := ap
 refine wR (zN [(pt an 0)] 27 ?_)
 intro b1 w2 cp
 have fa := cp.ge s.size
 have e := cp.here
 have o := zA o cp.below
 have h := zA h cp.below
 refine zH (zH (zH (nW (wR (zO 0 e rfl (zc (c_there_g an m_rs rs bm _ o h) ?_))))))
 rintro _ w4 ⟨rfl, cr⟩
 have o := zA o cr
 have e := zA e cr
 refine wX true (nQ (zF (zQ (zB (wR (zO 0 e rfl (zr (pt an 0) (zFO 0 o rfl (L_inline 52 [(.map (some m_rs))] zk zk (wG 9 func52 rfl ?_))))))))))
 have h := zA h cr
 refine wR (zH (nW (wR (zG (zr (.bool false) (nQ (zF (zQ (zB (wR (zG (zr (.iface 66 (.map (some m_rs))) (L_mclone (k := .i32) (fm := vBrk) (t := 66) func94 zk zk zk zk m_rs rs h zk ?_)))))))))))))
 intro b7 w8 ck
 have s := (s.tr cp.below).tr cr
 have dg := ck.ge s.size
 have d := ck.here
 refine L_unmap (.map (some b7)) underlying66 zk (zH (nQ (zS (yC [(.map (some b7))] ?_))))
 show L _ _ _ _ _ _ (Fm.put _ _ (.map (some b7))) _
 refine L_gmk (T := 67) .i32 vI32 ?_
 intro a8 g2 bg
 have o := zA o ck.below
 have cj := yE (zV o) bg
 have h := zA h ck.below
 have b3 := yE (zV h) bg
 have e := zA e ck.below
 have ce := yE (zV e) bg
 have bu := yE (zV d) bg
 have s := s.tr ck.below
 have dd := bg.ge s.size
 have c := bg.here
 refine zr (Value.agg #[(.map (some b7)), (.map (some a8))]) (zN [(.map (some b7)), (.map (some a8))] 69 ?_)
 intro z gd bo
 have b9 := yE (zV c) bo
 have ca := NE.symm b9
 have s := s.tr bg.below
 have d4 := bo.ge s.size
 have b := bo.here
 refine zN [(.pointer none)] 27 ?_
 intro a6 gp a7
 have h := zA (zA h bg.below) bo.below
 have cb := yE (zV h) a7
 have e := zA (zA e bg.below) bo.below
 have cm := yE (zV e) a7
 have d := zA (zA d bg.below) bo.below
 have bz := yE (zV d) a7
 have c := zA c bo.below
 have bx := yE (zV c) a7
 have cc := NE.symm bx
 have s := s.tr bo.below
 have d3 := a7.ge s.size
 have g := a7.here
 refine z1 0 (pt z 0) [(pt z 0)] g ?_
 intro go bs
 have o := zA (zA (zA o bg.below) bo.below) a7.below
 have o := zD o bs (zP o g zi)
 have b := zA b a7.below
 have b := zD b bs (zP b g zi)
 have g := bs.here
 have s := (s.tr a7.below).trans (bs.below d3)
 have ap := a1.below s
 refine nR (zr (.func (.func 53) #[] #[(pt b1 0)]) (zH (nW (wR (zG (zln underlying50 (ap).len (zG (nQ (yI ?_)))))))))
 have c := zD (zA c a7.below) bs bx
 have d := zD (zA d a7.below) bs bz
 have e := zD (zA e a7.below) bs cm
 have h := zD (zA h a7.below) bs cb
 refine xN (fun m s0 w0 => ∃ (i : Nat) (tw : List (Int × Int)), (m = l.length - i) ∧ (s0.ds = []) ∧ ([1, 2, 4, 5, 6, 7, 8, 33, 34, 35].map s0.f = [cg, (pt b1 0), (.pointer none), (I6 0), (I6 0), (pt a6 0), (.func (.func 53) #[] #[(pt b1 0)]), cg, (N6 ((l).length)), (N6 i)]) ∧ (Rd w0 encTw cg l) ∧ (w0.heap[an]? = some (.cells [(.map (some m_rs)), bm].toArray 69 (0, 0))) ∧ (w0.heap[m_rs]? = some (gmObj .i32 vBrk rs)) ∧ (w0.heap[b1]? = some (.cells [(pt an 0)].toArray 27 (0, 0))) ∧ (w0.heap[b7]? = some (gmObj .i32 vBrk rs)) ∧ (w0.heap[a8]? = some (gmObj .i32 vI32 tw)) ∧ (w0.heap[z]? = some (.cells [(.map (some b7)), (.map (some a8))].toArray 69 (0, 0))) ∧ (w0.heap[a6]? = some (.cells [(pt z 0)].toArray 27 (0, 0))) ∧ (Below w.heap.size w w0) ∧ (i ≤ l.length) ∧ (tw = twsM rs (l.take i))) _ ⟨0, [], rfl, zk, zk, ap, o, h, e, d, c, b, g, s, (Nat.zero_le _), rfl⟩ ?_
 rintro f7 gu gk ⟨i, tw, hm, ak, c0, ap, o, h, e, d, c, b, g, s, i1, i2⟩
 refine xK c0 (wR (nLt i ((l).length) ?_ ?_))
 ·intro gl
  refine nW (zT (zQ (zB (yF (yI (wR ?_))))))
  have hz := yL l i zo; obtain ⟨au, dw⟩ := hz
  refine zEA ap el50 i dw [(I3 au.1), (I3 au.2)] rfl fun _ => (zN [(I3 0), (I3 0)] 52 ?_)
  intro cf gr ag
  have bk := yE (zV h) ag
  have al := yE (zV d) ag
  have b8 := yE (zV c) ag
  have b5 := ag.ge s.size
  have y := ag.here
  refine wN [(I3 au.1), (I3 au.2)] y ?_
  intro gh ax
  have o := zA o ag.below
  have o := zD o ax (zP o y zi)
  have e := zA e ag.below
  have e := zD e ax (zP e y zi)
  have b := zA b ag.below
  have b := zD b ax (zP b y zi)
  have g := zA g ag.below
  have g := zD g ax (zP g y zi)
  have y := ax.here
  have c := zD (zA c ag.below) ax b8
  refine nW (yN zk zk (yB a6 0 (pt z 0) zk zf (zR g rfl) (zZ (pt z 0) zf (zZ (pt z 1) zf (yB z 1 (.map (some a8)) zk zf (zR b rfl) (zZ (pt cf 0) zf (yB cf 0 (I3 au.1) zk zf (zR y rfl) (xR (k := .i32) (f := vI32) 0 au.1 tw underlying67 underlying21 zk (GmAt.of c) zk zk (zY (zZ (I3 ((gget tw au.1).getD 0)) zf (zZ (.bool ((gget tw au.1).isSome)) zf (yW ((gget tw au.1).isSome) ?_ ?_))))))))))))
  ·intro fz
   refine yR (yR (yJ ?_))
   intro gq a5
   have o := zA o a5
   have y := zA y a5
   have e := zA e a5
   have h := zA (zD (zA h ag.below) ax bk) a5
   refine zB (wR (zG (zOW y (zc (c_counts au.1 au.2 b1 an m_rs rs bm _ e o h) ?_))))
   rintro _ f2 ⟨rfl, az⟩
   refine zX ((gget rs au.1).isSome) ?_ ?_
   ·intro fw
    refine zG (zw (zG (zw (wX true (xE (nQ (zF (zQ (zL (zB (zW (zad i 1 (zG (zU ?_))))))))))))))
    have s := (((s.tr ag.below).trans (ax.below b5)).tr a5).tr az
    have o := zA o az
    have c := zA (zA c a5) az
    have d := zA (zA (zD (zA d ag.below) ax al) a5) az
    have e := zA e az
    have b := zA (zA b a5) az
    have g := zA (zA g a5) az
    have ap := a1.below s
    have h := zA h az
    exact zB ⟨_, zo, (i + 1), tw, rfl, ak, zk, ap, o, h, e, d, c, b, g, s, zo, tws_had i2 za za⟩
   intro f3
   refine zG (zs (zs (xC (nQ (zF (zQ (zL (zB (zW (zad i 1 (zG (zU ?_))))))))))))
   have s := (((s.tr ag.below).trans (ax.below b5)).tr a5).tr az
   have o := zA o az
   have c := zA (zA c a5) az
   have d := zA (zA (zD (zA d ag.below) ax al) a5) az
   have e := zA e az
   have b := zA (zA b a5) az
   have g := zA (zA g a5) az
   have ap := a1.below s
   have h := zA h az
   exact zB ⟨_, zo, (i + 1), tw, rfl, ak, zk, ap, o, h, e, d, c, b, g, s, zo, tws_no i2 za za⟩
  intro fv
  refine yR (yR (yJ ?_))
  intro g0 a4
  have o := zA o a4
  have y := zA y a4
  have e := zA e a4
  have h := zA (zD (zA h ag.below) ax bk) a4
  refine zB (wR (zG (zOW y (zc (c_counts au.1 au.2 b1 an m_rs rs bm _ e o h) ?_))))
  rintro _ gy ⟨rfl, ao⟩
  refine zX ((gget rs au.1).isSome) ?_ ?_
  ·intro f1
   refine zG (zw (zG (zw (wX false (xE (nQ (zT (wF 8 9 zk zk zk ?_))))))))
   intro gz bn
   refine ⟨fun w => (w.heap[a6]? = some (.cells [(pt z 0)].toArray 27 (0, 0))) ∧ (w.heap[z]? = some (.cells [(.map (some b7)), (.map (some a8))].toArray 69 (0, 0))) ∧ (w.heap[cf]? = some (.cells [(I3 au.1), (I3 au.2)].toArray 52 (0, 0))), ?_⟩
   have y := zA (zA y ao) bn
   have b := zA (zA (zA b a4) ao) bn
   have g := zA (zA (zA g a4) ao) bn
   refine mt 0 [0, 1, 2, 3, 8] rfl (pt z 0) ⟨g, b, y⟩ (yY a6 0 (pt z 0) zk zf (fun w2 h2 => zR h2.1 rfl)) (hq := (zI (zC (zC (zI (zC zJ)))))) (mp 1 rfl (pt z 0) (.inr ⟨g, b, y⟩) zg (hq := (zI (zC (zC (zI (zC zJ)))))) (mp 2 rfl (pt z 1) (.inr ⟨g, b, y⟩) zg (hq := (zI (zC (zC (zI (zC zJ)))))) (mt 3 [3, 8] rfl (.map (some a8)) ⟨g, b, y⟩ (yY z 1 (.map (some a8)) zk zf (fun w2 h2 => zR h2.2.1 rfl)) (hq := (zI (zC (zC (zI (zC zJ)))))) (mp 4 rfl (pt cf 0) (.inr ⟨g, b, y⟩) zg (hq := (zI (zC (zC (zI (zC zJ)))))) (mt 5 [5, 8] rfl (I3 au.1) ⟨g, b, y⟩ (yY cf 0 (I3 au.1) zk zf (fun w2 h2 => zR h2.2.2 rfl)) (hq := (zI (zC (zC (zI (zC zJ)))))) (mp 6 rfl (pt cf 1) (.inr ⟨g, b, y⟩) zg (hq := (zI (zC (zC (zI (zC zJ)))))) (mt 7 [7, 8] rfl (I3 au.2) ⟨g, b, y⟩ (yY cf 1 (I3 au.2) zk zf (fun w2 h2 => zR h2.2.2 rfl)) (hq := (zI (zC (zC (zI (zC zJ)))))) (yP 8 zk ?_))))))))
   refine yZ 8 rfl ?_ rfl
   have c := zA (zA (zA c a4) ao) bn
   refine L_glay (k := .i32) (f := vI32) a8 au.1 au.2 tw underlying67 underlying21 c zk zk zk (by first | exact isn za | (omega)) ?_
   intro gm bt
   have c := bt.here
   refine zU ?_
   refine ⟨rfl, .inl zk, yU zk (zL (zB (zW (zad i 1 (zG (zU ?_))))))⟩
   have s := (((((s.tr ag.below).trans (ax.below b5)).tr a4).tr ao).tr bn).trans (bt.below dd)
   have o := zD (zA (zA o ao) bn) bt cj
   have d := zD (zA (zA (zA (zD (zA d ag.below) ax al) a4) ao) bn) bt bu
   have e := zD (zA (zA e ao) bn) bt ce
   have b := zD b bt ca
   have g := zD g bt cc
   have ap := a1.below s
   have h := zD (zA (zA h ao) bn) bt b3
   exact zB ⟨_, zo, (i + 1), (tw ++ [(au.1, au.2)]), rfl, ak, zk, ap, o, h, e, d, c, b, g, s, zo, tws_add i2 za za za⟩
  intro g1
  refine zG (zs (zs (xC (nQ (zF (zQ (zL (zB (zW (zad i 1 (zG (zU ?_))))))))))))
  have s := (((s.tr ag.below).trans (ax.below b5)).tr a4).tr ao
  have o := zA o ao
  have c := zA (zA c a4) ao
  have d := zA (zA (zD (zA d ag.below) ax al) a4) ao
  have e := zA e ao
  have b := zA (zA b a4) ao
  have g := zA (zA g a4) ao
  have ap := a1.below s
  have h := zA h ao
  exact zB ⟨_, zo, (i + 1), tw, rfl, ak, zk, ap, o, h, e, d, c, b, g, s, zo, tws_no i2 za za⟩
 intro gx
 refine nW (zF (xG (yD (yD (yQ (zB (wR (zr (.func (.func 54) #[] #[(pt a6 0)]) (zH (nW (wR (zG (zln underlying50 (ap).len (zG (nQ (yI (xN (fun m s0 w0 => ∃ (j : Nat), (m = l.length - j) ∧ (s0.ds = []) ∧ ([2, 7, 8, 13, 66, 67, 68].map s0.f = [(pt b1 0), (pt a6 0), (.func (.func 53) #[] #[(pt b1 0)]), (.func (.func 54) #[] #[(pt a6 0)]), cg, (N6 ((l).length)), (N6 j)]) ∧ (Rd w0 encTw cg l) ∧ (w0.heap[an]? = some (.cells [(.map (some m_rs)), bm].toArray 69 (0, 0))) ∧ (w0.heap[m_rs]? = some (gmObj .i32 vBrk rs)) ∧ (w0.heap[b1]? = some (.cells [(pt an 0)].toArray 27 (0, 0))) ∧ (w0.heap[b7]? = some (gmObj .i32 vBrk rs)) ∧ (w0.heap[a8]? = some (gmObj .i32 vI32 tw)) ∧ (w0.heap[z]? = some (.cells [(.map (some b7)), (.map (some a8))].toArray 69 (0, 0))) ∧ (w0.heap[a6]? = some (.cells [(pt z 0)].toArray 27 (0, 0))) ∧ (Below w.heap.size w w0) ∧ (j ≤ l.length) ∧ (BadI rs tw l j)) _ ⟨0, rfl, ak, zk, ap, o, h, e, d, c, b, g, s, (Nat.zero_le _), BadI.zero⟩ ?_)))))))))))))))))
 rintro ga f9 f8 ⟨j, hm, ak, c0, ap, o, h, e, d, c, b, g, s, j1, j2⟩
 refine xK c0 (wR (nLt j ((l).length) ?_ ?_))
 ·intro gi
  refine nW (zT (zQ (zB (yF (yI (wR (zG ?_)))))))
  have hz := yL l j zo; obtain ⟨a, dk⟩ := hz
  refine zEA ap el50 j dk [(I3 a.1), (I3 a.2)] rfl fun _ => (zN [(I3 0), (I3 0)] 52 ?_)
  intro bc gg a0
  have b4 := yE (zV h) a0
  have bf := yE (zV d) a0
  have br := yE (zV c) a0
  have cq := a0.ge s.size
  have n := a0.here
  refine zH (wN [(I3 a.1), (I3 a.2)] n ?_)
  intro f6 ba
  have o := zA o a0.below
  have o := zD o ba (zP o n zi)
  have e := zA e a0.below
  have e := zD e ba (zP e n zi)
  have b := zA b a0.below
  have b := zD b ba (zP b n zi)
  have g := zA g a0.below
  have g := zD g ba (zP g n zi)
  have n := ba.here
  have h := zD (zA h a0.below) ba b4
  refine nW (wR (zG (zOW n (zc (c_counts a.1 a.2 b1 an m_rs rs bm _ e o h) ?_))))
  rintro _ gf ⟨rfl, am⟩
  refine zX ((gget rs a.1).isSome) ?_ ?_
  ·intro f4
   refine wX true (nQ (zF (zQ (zB (yF (wF 8 9 zk zk zk ?_))))))
   intro fu bl
   refine ⟨fun w => (w.heap[b1]? = some (.cells [(pt an 0)].toArray 27 (0, 0))) ∧ (w.heap[an]? = some (.cells [(.map (some m_rs)), bm].toArray 69 (0, 0))) ∧ (w.heap[bc]? = some (.cells [(I3 a.1), (I3 a.2)].toArray 52 (0, 0))) ∧ (w.heap[m_rs]? = some (gmObj .i32 vBrk rs)), ?_⟩
   have o := zA (zA o am) bl
   have n := zA (zA n am) bl
   have e := zA (zA e am) bl
   have h := zA (zA h am) bl
   refine mt 0 [0, 1, 2, 3, 6, 8] rfl (pt an 0) ⟨e, o, n, h⟩ (yY b1 0 (pt an 0) zk zf (fun w2 h2 => zR h2.1 rfl)) (hq := (zC (zI (zC (zC (zI (zC zJ))))))) (mp 1 rfl (pt an 0) (.inr ⟨e, o, n, h⟩) zg (hq := (zC (zI (zC (zC (zI (zC zJ))))))) (mp 2 rfl (pt an 0) (.inr ⟨e, o, n, h⟩) zg (hq := (zC (zI (zC (zC (zI (zC zJ))))))) (mt 3 [3, 6, 8] rfl (.map (some m_rs)) ⟨e, o, n, h⟩ (yY an 0 (.map (some m_rs)) zk zf (fun w2 h2 => zR h2.2.1 rfl)) (hq := (zC (zI (zC (zC (zI (zC zJ))))))) (mp 4 rfl (pt bc 0) (.inr ⟨e, o, n, h⟩) zg (hq := (zC (zI (zC (zC (zI (zC zJ))))))) (mt 5 [5, 6, 8] rfl (I3 a.1) ⟨e, o, n, h⟩ (yY bc 0 (I3 a.1) zk zf (fun w2 h2 => zR h2.2.2.1 rfl)) (hq := (zC (zI (zC (zC (zI (zC zJ))))))) (mt 6 [6, 8] rfl (Value.agg #[(I3 ((lookB rs a.1).1)), (I3 ((lookB rs a.1).2.1)), (U8 ((lookB rs a.1).2.2))]) ⟨e, o, n, h⟩ (R_glook1 (k := .i32) (f := vBrk) (0, 0, 0) a.1 rs underlying66 underlying21 zk zk zk (fun w2 h2 => GmAt.of h2.2.2.2)) (hq := (zC (zI (zC (zC (zI (zC zJ))))))) (yP 7 zk ?_)))))))
   refine yZ 7 rfl ?_ rfl
   refine zN [(I3 0), (I3 0), (U8 0)] 26 ?_
   intro bb f5 aj
   have b0 := yE (zV h) aj
   have d := zA (zA (zD (zA d a0.below) ba bf) am) bl
   have bj := yE (zV d) aj
   have c := zA (zA (zD (zA c a0.below) ba br) am) bl
   have bd := yE (zV c) aj
   have s := (((s.tr a0.below).trans (ba.below cq)).tr am).tr bl
   have cd := aj.ge s.size
   have r := aj.here
   refine zU ?_
   have o := zA o aj.below
   have n := zA n aj.below
   have e := zA e aj.below
   have h := zA h aj.below
   refine ⟨rfl, .inr ⟨e, o, n, h⟩, yP 8 zk (yZ 8 rfl ?_ rfl)⟩
   refine wN [(I3 ((lookB rs a.1).1)), (I3 ((lookB rs a.1).2.1)), (U8 ((lookB rs a.1).2.2))] r ?_
   intro gv a3
   have o := zD o a3 (zP o r zi)
   have e := zD e a3 (zP e r zi)
   have b := zA (zA (zA b am) bl) aj.below
   have b := zD b a3 (zP b r zi)
   have g := zA (zA (zA g am) bl) aj.below
   have g := zD g a3 (zP g r zi)
   have n := zD n a3 (zP n r zi)
   have r := a3.here
   refine zU ?_
   refine ⟨rfl, .inl zk, yU zk (zB (yF (wF 11 13 zk zk zk ?_)))⟩
   intro fy ac
   refine ⟨fun w => (w.heap[b1]? = some (.cells [(pt an 0)].toArray 27 (0, 0))) ∧ (w.heap[an]? = some (.cells [(.map (some m_rs)), bm].toArray 69 (0, 0))) ∧ (w.heap[bc]? = some (.cells [(I3 a.1), (I3 a.2)].toArray 52 (0, 0))) ∧ (w.heap[m_rs]? = some (gmObj .i32 vBrk rs)), ?_⟩
   have o := zA o ac
   have n := zA n ac
   have e := zA e ac
   have h := zA (zD h a3 b0) ac
   refine mt 0 [0, 1, 2, 3, 6, 7, 8, 9, 11, 12] rfl (pt an 0) ⟨e, o, n, h⟩ (yY b1 0 (pt an 0) zk zf (fun w2 h2 => zR h2.1 rfl)) (hq := (zC (zI (zC (zC (zI (zC zJ))))))) (mp 1 rfl (pt an 0) (.inr ⟨e, o, n, h⟩) zg (hq := (zC (zI (zC (zC (zI (zC zJ))))))) (mp 2 rfl (pt an 0) (.inr ⟨e, o, n, h⟩) zg (hq := (zC (zI (zC (zC (zI (zC zJ))))))) (mt 3 [3, 6, 7, 8, 9, 11, 12] rfl (.map (some m_rs)) ⟨e, o, n, h⟩ (yY an 0 (.map (some m_rs)) zk zf (fun w2 h2 => zR h2.2.1 rfl)) (hq := (zC (zI (zC (zC (zI (zC zJ))))))) (mp 4 rfl (pt bc 1) (.inr ⟨e, o, n, h⟩) zg (hq := (zC (zI (zC (zC (zI (zC zJ))))))) (mt 5 [5, 6, 7, 8, 9, 11, 12] rfl (I3 a.2) ⟨e, o, n, h⟩ (yY bc 1 (I3 a.2) zk zf (fun w2 h2 => zR h2.2.2.1 rfl)) (hq := (zC (zI (zC (zC (zI (zC zJ))))))) (mt 6 [6, 7, 8, 9, 11, 12] rfl (.tuple #[(Value.agg #[(I3 ((lookB rs a.2).1)), (I3 ((lookB rs a.2).2.1)), (U8 ((lookB rs a.2).2.2))]), (.bool ((gget rs a.2).isSome))]) ⟨e, o, n, h⟩ (R_glook (k := .i32) (f := vBrk) (0, 0, 0) a.2 rs underlying66 underlying21 zk zk zk (fun w2 h2 => GmAt.of h2.2.2.2)) (hq := (zC (zI (zC (zC (zI (zC zJ))))))) (mp 7 rfl (.tuple #[(Value.agg #[(I3 ((lookB rs a.2).1)), (I3 ((lookB rs a.2).2.1)), (U8 ((lookB rs a.2).2.2))]), (.bool ((gget rs a.2).isSome))]) (.inr ⟨e, o, n, h⟩) zg (hq := (zC (zI (zC (zC (zI (zC zJ))))))) (mp 8 rfl (Value.agg #[(I3 ((lookB rs a.2).1)), (I3 ((lookB rs a.2).2.1)), (U8 ((lookB rs a.2).2.2))]) (.inr ⟨e, o, n, h⟩) zg (hq := (zC (zI (zC (zC (zI (zC zJ))))))) ?_))))))))
   refine M_all2 9 10 zk ?_ ?_
   ·skip
    refine yZ 9 rfl ?_ rfl
    refine zr (.bool ((gget rs a.2).isSome)) (zX ((gget rs a.2).isSome) ?_ ?_)
    ·intro fx
     refine zU ?_
     refine ⟨rfl, .inr ⟨e, o, n, h⟩, yP 10 zk (yZ 10 rfl ?_ rfl)⟩
     refine zN [(I3 0), (I3 0), (U8 0)] 26 ?_
     intro cl gn af
     have a2 := yE (zV h) af
     have d := zA (zD (zA d aj.below) a3 bj) ac
     have ah := yE (zV d) af
     have c := zA (zD (zA c aj.below) a3 bd) ac
     have aa := yE (zV c) af
     have r := zA r ac
     have ad := yE (zV r) af
     have s := ((s.tr aj.below).trans (a3.below cd)).tr ac
     have u := af.ge s.size
     have p := af.here
     refine zU ?_
     have o := zA o af.below
     have n := zA n af.below
     have e := zA e af.below
     have h := zA h af.below
     refine ⟨rfl, .inr ⟨e, o, n, h⟩, yP 11 zk (yZ 11 rfl ?_ rfl)⟩
     refine wN [(I3 ((lookB rs a.2).1)), (I3 ((lookB rs a.2).2.1)), (U8 ((lookB rs a.2).2.2))] p ?_
     intro gb ay
     have o := zD o ay (zP o p zi)
     have e := zD e ay (zP e p zi)
     have b := zA (zA b ac) af.below
     have b := zD b ay (zP b p zi)
     have g := zA (zA g ac) af.below
     have g := zD g ay (zP g p zi)
     have n := zD n ay (zP n p zi)
     have p := ay.here
     refine zU ?_
     refine ⟨rfl, .inl zk, ?_⟩
     have c := zD (zA c af.below) ay aa
     refine mp 12 rfl (.bool true) (.inl zk) zg (hq := (zC (zI (zC (zC (zI (zC zJ))))))) (yU zk (zB (yF (yN zk zk (yB a6 0 (pt z 0) zk zf (zR g rfl) (zZ (pt z 0) zf (zZ (pt z 1) zf (yB z 1 (.map (some a8)) zk zf (zR b rfl) (zZ (pt bc 1) zf (yB bc 1 (I3 a.2) zk zf (zR n rfl) (xR (k := .i32) (f := vI32) 0 a.2 tw underlying67 underlying21 zk (GmAt.of c) zk zk (zY (zZ (I3 ((gget tw a.2).getD 0)) zf (zZ (.bool ((gget tw a.2).isSome)) zf (yW ((gget tw a.2).isSome) ?_ ?_)))))))))))))))
     ·intro gw
      refine yR (yR (yJ ?_))
      intro f0 ci
      have r := zA (zD (zA r af.below) ay ad) ci
      have p := zA p ci
      refine zB (yF (yN zk zk (zY (xO true zk (zY (qw (zZ (pt cl 2) zf (qw (yB cl 2 (U8 ((lookB rs a.2).2.2)) zk zf (zR p rfl) (qw (zZ (pt bb 2) zf (qw (yB bb 2 (U8 ((lookB rs a.1).2.2)) zk zf (zR r rfl) (qw (wA .u8 ((lookB rs a.2).2.2) ((lookB rs a.1).2.2) ((lookB rs a.2).2.2 ≠ (lookB rs a.1).2.2) rfl (xV ((lookB rs a.2).2.2) ((lookB rs a.1).2.2)) zk zk ?_ ?_)))))))))))))))
      ·intro d7
       replace d7 : (lookB rs a.2).2.2 ≠ (lookB rs a.1).2.2 := by omega
       refine qF (zY (qs (qT (zY (qs (qs (qs (qs (qs (qs (qs (qT (yJ ?_)))))))))))))
       intro gj dq
       have s := (((s.tr af.below).trans (ay.below u)).tr ci).tr dq
       exact zB (zT (wR (zG (zH (zH (zH (nQ (zS (zK (zE (zE (zK (zE (yC [(.pointer none), (N6 j), (I6 83)] (hd := ak) ⟨qA rfl (congrArg (fun x : Nat => Value.int .i64 (x : Int)) (by exact (wE i2 zo (j2.hit za (bt_2 za za))).symm)) rfl, s⟩))))))))))))))
      intro d6
      replace d6 : (lookB rs a.2).2.2 = (lookB rs a.1).2.2 := by omega
      refine qF (zY (qw (zY (qF (zY (qs (qs (qs (qs (qs (qs (qs (qT (yJ ?_))))))))))))))
      intro gs dl
      have s := (((s.tr af.below).trans (ay.below u)).tr ci).tr dl
      exact zB (zT (wR (zG (zH (zH (zH (nQ (zS (zK (zE (zE (zK (zE (yC [(.pointer none), (N6 j), (I6 83)] (hd := ak) ⟨qA rfl (congrArg (fun x : Nat => Value.int .i64 (x : Int)) (by exact (wE i2 zo (j2.hit za (bt_3 za za))).symm)) rfl, s⟩))))))))))))))
     intro d8
     refine yR (yR (yJ ?_))
     intro et aw
     have r := zA (zD (zA r af.below) ay ad) aw
     have p := zA p aw
     refine zB (yF (yN zk zk (zY (xO true zk (zY (qw (zZ (pt cl 2) zf (qw (yB cl 2 (U8 ((lookB rs a.2).2.2)) zk zf (zR p rfl) (qw (zZ (pt bb 2) zf (qw (yB bb 2 (U8 ((lookB rs a.1).2.2)) zk zf (zR r rfl) (qw (wA .u8 ((lookB rs a.2).2.2) ((lookB rs a.1).2.2) ((lookB rs a.2).2.2 ≠ (lookB rs a.1).2.2) rfl (xV ((lookB rs a.2).2.2) ((lookB rs a.1).2.2)) zk zk ?_ ?_)))))))))))))))
     ·intro dm
      replace dm : (lookB rs a.2).2.2 ≠ (lookB rs a.1).2.2 := by omega
      refine qF (zY (qs (qT (zY (qs (qs (qs (qs (qs (qs (qs (qT (yJ ?_)))))))))))))
      intro em c8
      have s := (((s.tr af.below).trans (ay.below u)).tr aw).tr c8
      exact zB (zT (wR (zG (zH (zH (zH (nQ (zS (zK (zE (zE (zK (zE (yC [(.pointer none), (N6 j), (I6 83)] (hd := ak) ⟨qA rfl (congrArg (fun x : Nat => Value.int .i64 (x : Int)) (by exact (wE i2 zo (j2.hit za (bt_2 za za))).symm)) rfl, s⟩))))))))))))))
     intro d1
     replace d1 : (lookB rs a.2).2.2 = (lookB rs a.1).2.2 := by omega
     have c := zA c aw
     have b := zA b aw
     have g := zA g aw
     refine qF (zY (qw (zY (qF (zY (qw (zY (qw (zZ (pt bb 1) zf (qw (yB bb 1 (I3 ((lookB rs a.1).2.1)) zk zf (zR r rfl) (qw (Lq_call 54 [(I3 ((lookB rs a.1).2.1)), (pt a6 0)] (I3 (tw1 tw ((lookB rs a.1).2.1))) zg (fun wq hbq => c_twin ((lookB rs a.1).2.1) a6 z (.map (some b7)) (.map (some a8)) tw wq (zA g hbq) (zA b hbq) (GmAt.of (zA c hbq))) (qw (zZ (pt cl 1) zf (qw (yB cl 1 (I3 ((lookB rs a.2).2.1)) zk zf (zR p rfl) (qw (wA .i32 (tw1 tw ((lookB rs a.1).2.1)) ((lookB rs a.2).2.1) ((tw1 tw ((lookB rs a.1).2.1)) ≠ (lookB rs a.2).2.1) rfl (xV (tw1 tw ((lookB rs a.1).2.1)) ((lookB rs a.2).2.1)) zk zk ?_ ?_)))))))))))))))))))
     ·intro dy
      replace dy : (tw1 tw ((lookB rs a.1).2.1)) ≠ (lookB rs a.2).2.1 := by omega
      refine qF (yJ ?_)
      intro fo c2
      have s := (((s.tr af.below).trans (ay.below u)).tr aw).tr c2
      exact zB (zT (wR (zG (zH (zH (zH (nQ (zS (zK (zE (zE (zK (zE (yC [(.pointer none), (N6 j), (I6 83)] (hd := ak) ⟨qA rfl (congrArg (fun x : Nat => Value.int .i64 (x : Int)) (by exact (wE i2 zo (j2.hit za (bt_4 za za))).symm)) rfl, s⟩))))))))))))))
     intro dx
     replace dx : (tw1 tw ((lookB rs a.1).2.1)) = (lookB rs a.2).2.1 := by omega
     refine qF (yJ ?_)
     intro ew be
     refine zB (zF (zQ (zL (zB (zW (zad j 1 (zG (zU ?_))))))))
     have s := (((s.tr af.below).trans (ay.below u)).tr aw).tr be
     have o := zA (zA o aw) be
     have c := zA c be
     have d := zA (zA (zD (zA d af.below) ay ah) aw) be
     have e := zA (zA e aw) be
     have b := zA b be
     have g := zA g be
     have ap := a1.below s
     have h := zA (zA (zD h ay a2) aw) be
     exact zB ⟨_, zo, (j + 1), rfl, ak, zk, ap, o, h, e, d, c, b, g, s, zo, j2.step za (bt_ok za za za za za)⟩
    intro e0
    refine zU ?_
    refine ⟨rfl, .inr ⟨e, o, n, h⟩, yP 10 zk (yZ 10 rfl ?_ rfl)⟩
    refine zN [(I3 0), (I3 0), (U8 0)] 26 ?_
    intro fr ep aq
    have c := zA (zD (zA c aj.below) a3 bd) ac
    have aa := yE (zV c) aq
    have s := ((s.tr aj.below).trans (a3.below cd)).tr ac
    have u := aq.ge s.size
    have p := aq.here
    refine zU ?_
    have o := zA o aq.below
    have n := zA n aq.below
    have e := zA e aq.below
    have h := zA h aq.below
    refine ⟨rfl, .inr ⟨e, o, n, h⟩, yP 11 zk (yZ 11 rfl ?_ rfl)⟩
    refine wN [(I3 ((lookB rs a.2).1)), (I3 ((lookB rs a.2).2.1)), (U8 ((lookB rs a.2).2.2))] p ?_
    intro fk bp
    have b := zA (zA b ac) aq.below
    have b := zD b bp (zP b p zi)
    have g := zA (zA g ac) aq.below
    have g := zD g bp (zP g p zi)
    have n := zD n bp (zP n p zi)
    refine zU ?_
    refine ⟨rfl, .inl zk, ?_⟩
    have c := zD (zA c aq.below) bp aa
    refine mp 12 rfl (.bool false) (.inl zk) zg (hq := (zC (zI (zC (zC (zI (zC zJ))))))) (yU zk (zB (yF (yN zk zk (yB a6 0 (pt z 0) zk zf (zR g rfl) (zZ (pt z 0) zf (zZ (pt z 1) zf (yB z 1 (.map (some a8)) zk zf (zR b rfl) (zZ (pt bc 1) zf (yB bc 1 (I3 a.2) zk zf (zR n rfl) (xR (k := .i32) (f := vI32) 0 a.2 tw underlying67 underlying21 zk (GmAt.of c) zk zk (zY (zZ (I3 ((gget tw a.2).getD 0)) zf (zZ (.bool ((gget tw a.2).isSome)) zf (yW ((gget tw a.2).isSome) ?_ ?_)))))))))))))))
    ·intro fe
     refine yR (yR (yJ ?_))
     intro e2 c9
     refine zB (yF (yN zk zk (zY (xO false zk (zY (qs (qs (qs (qs (qs (qT (zY (qs (qT (zY (qs (qs (qs (qs (qs (qs (qs (qT (yJ ?_))))))))))))))))))))))))
     intro fd cz
     have s := (((s.tr aq.below).trans (bp.below u)).tr c9).tr cz
     exact zB (zT (wR (zG (zH (zH (zH (nQ (zS (zK (zE (zE (zK (zE (yC [(.pointer none), (N6 j), (I6 83)] (hd := ak) ⟨qA rfl (congrArg (fun x : Nat => Value.int .i64 (x : Int)) (by exact (wE i2 zo (j2.hit za (bt_1 za za))).symm)) rfl, s⟩))))))))))))))
    intro ef
    refine yR (yR (yJ ?_))
    intro ek da
    refine zB (yF (yN zk zk (zY (xO false zk (zY (qs (qs (qs (qs (qs (qT (zY (qs (qT (zY (qs (qs (qs (qs (qs (qs (qs (qT (yJ ?_))))))))))))))))))))))))
    intro e5 c4
    have s := (((s.tr aq.below).trans (bp.below u)).tr da).tr c4
    exact zB (zT (wR (zG (zH (zH (zH (nQ (zS (zK (zE (zE (zK (zE (yC [(.pointer none), (N6 j), (I6 83)] (hd := ak) ⟨qA rfl (congrArg (fun x : Nat => Value.int .i64 (x : Int)) (by exact (wE i2 zo (j2.hit za (bt_1 za za))).symm)) rfl, s⟩))))))))))))))
   skip
   refine yZ 10 rfl ?_ rfl
   refine zN [(I3 0), (I3 0), (U8 0)] 26 ?_
   intro a9 fj q
   have a2 := yE (zV h) q
   have d := zA (zD (zA d aj.below) a3 bj) ac
   have ah := yE (zV d) q
   have c := zA (zD (zA c aj.below) a3 bd) ac
   have aa := yE (zV c) q
   have r := zA r ac
   have ad := yE (zV r) q
   have s := ((s.tr aj.below).trans (a3.below cd)).tr ac
   have u := q.ge s.size
   have p := q.here
   refine zU ?_
   have o := zA o q.below
   have n := zA n q.below
   have e := zA e q.below
   have h := zA h q.below
   refine ⟨rfl, .inr ⟨e, o, n, h⟩, M_all2 9 11 zk ?_ ?_⟩
   ·skip
    refine yZ 9 rfl ?_ rfl
    refine zr (.bool ((gget rs a.2).isSome)) (zX ((gget rs a.2).isSome) ?_ ?_)
    ·intro en
     refine zU ?_
     refine ⟨rfl, .inr ⟨e, o, n, h⟩, yP 11 zk (yZ 11 rfl ?_ rfl)⟩
     refine wN [(I3 ((lookB rs a.2).1)), (I3 ((lookB rs a.2).2.1)), (U8 ((lookB rs a.2).2.2))] p ?_
     intro er ae
     have o := zD o ae (zP o p zi)
     have e := zD e ae (zP e p zi)
     have b := zA (zA b ac) q.below
     have b := zD b ae (zP b p zi)
     have g := zA (zA g ac) q.below
     have g := zD g ae (zP g p zi)
     have n := zD n ae (zP n p zi)
     have p := ae.here
     refine zU ?_
     refine ⟨rfl, .inl zk, ?_⟩
     have c := zD (zA c q.below) ae aa
     refine mp 12 rfl (.bool true) (.inl zk) zg (hq := (zC (zI (zC (zC (zI (zC zJ))))))) (yU zk (zB (yF (yN zk zk (yB a6 0 (pt z 0) zk zf (zR g rfl) (zZ (pt z 0) zf (zZ (pt z 1) zf (yB z 1 (.map (some a8)) zk zf (zR b rfl) (zZ (pt bc 1) zf (yB bc 1 (I3 a.2) zk zf (zR n rfl) (xR (k := .i32) (f := vI32) 0 a.2 tw underlying67 underlying21 zk (GmAt.of c) zk zk (zY (zZ (I3 ((gget tw a.2).getD 0)) zf (zZ (.bool ((gget tw a.2).isSome)) zf (yW ((gget tw a.2).isSome) ?_ ?_)))))))))))))))
     ·intro eh
      refine yR (yR (yJ ?_))
      intro e1 b2
      have r := zA (zD (zA r q.below) ae ad) b2
      have p := zA p b2
      refine zB (yF (yN zk zk (zY (xO true zk (zY (qw (zZ (pt a9 2) zf (qw (yB a9 2 (U8 ((lookB rs a.2).2.2)) zk zf (zR p rfl) (qw (zZ (pt bb 2) zf (qw (yB bb 2 (U8 ((lookB rs a.1).2.2)) zk zf (zR r rfl) (qw (wA .u8 ((lookB rs a.2).2.2) ((lookB rs a.1).2.2) ((lookB rs a.2).2.2 ≠ (lookB rs a.1).2.2) rfl (xV ((lookB rs a.2).2.2) ((lookB rs a.1).2.2)) zk zk ?_ ?_)))))))))))))))
      ·intro dn
       replace dn : (lookB rs a.2).2.2 ≠ (lookB rs a.1).2.2 := by omega
       refine qF (zY (qs (qT (zY (qs (qs (qs (qs (qs (qs (qs (qT (yJ ?_)))))))))))))
       intro fp c5
       have s := (((s.tr q.below).trans (ae.below u)).tr b2).tr c5
       exact zB (zT (wR (zG (zH (zH (zH (nQ (zS (zK (zE (zE (zK (zE (yC [(.pointer none), (N6 j), (I6 83)] (hd := ak) ⟨qA rfl (congrArg (fun x : Nat => Value.int .i64 (x : Int)) (by exact (wE i2 zo (j2.hit za (bt_2 za za))).symm)) rfl, s⟩))))))))))))))
      intro du
      replace du : (lookB rs a.2).2.2 = (lookB rs a.1).2.2 := by omega
      refine qF (zY (qw (zY (qF (zY (qs (qs (qs (qs (qs (qs (qs (qT (yJ ?_))))))))))))))
      intro e3 df
      have s := (((s.tr q.below).trans (ae.below u)).tr b2).tr df
      exact zB (zT (wR (zG (zH (zH (zH (nQ (zS (zK (zE (zE (zK (zE (yC [(.pointer none), (N6 j), (I6 83)] (hd := ak) ⟨qA rfl (congrArg (fun x : Nat => Value.int .i64 (x : Int)) (by exact (wE i2 zo (j2.hit za (bt_3 za za))).symm)) rfl, s⟩))))))))))))))
     intro ea
     refine yR (yR (yJ ?_))
     intro e4 av
     have r := zA (zD (zA r q.below) ae ad) av
     have p := zA p av
     refine zB (yF (yN zk zk (zY (xO true zk (zY (qw (zZ (pt a9 2) zf (qw (yB a9 2 (U8 ((lookB rs a.2).2.2)) zk zf (zR p rfl) (qw (zZ (pt bb 2) zf (qw (yB bb 2 (U8 ((lookB rs a.1).2.2)) zk zf (zR r rfl) (qw (wA .u8 ((lookB rs a.2).2.2) ((lookB rs a.1).2.2) ((lookB rs a.2).2.2 ≠ (lookB rs a.1).2.2) rfl (xV ((lookB rs a.2).2.2) ((lookB rs a.1).2.2)) zk zk ?_ ?_)))))))))))))))
     ·intro dp
      replace dp : (lookB rs a.2).2.2 ≠ (lookB rs a.1).2.2 := by omega
      refine qF (zY (qs (qT (zY (qs (qs (qs (qs (qs (qs (qs (qT (yJ ?_)))))))))))))
      intro fb c3
      have s := (((s.tr q.below).trans (ae.below u)).tr av).tr c3
      exact zB (zT (wR (zG (zH (zH (zH (nQ (zS (zK (zE (zE (zK (zE (yC [(.pointer none), (N6 j), (I6 83)] (hd := ak) ⟨qA rfl (congrArg (fun x : Nat => Value.int .i64 (x : Int)) (by exact (wE i2 zo (j2.hit za (bt_2 za za))).symm)) rfl, s⟩))))))))))))))
     intro dj
     replace dj : (lookB rs a.2).2.2 = (lookB rs a.1).2.2 := by omega
     have c := zA c av
     have b := zA b av
     have g := zA g av
     refine qF (zY (qw (zY (qF (zY (qw (zY (qw (zZ (pt bb 1) zf (qw (yB bb 1 (I3 ((lookB rs a.1).2.1)) zk zf (zR r rfl) (qw (Lq_call 54 [(I3 ((lookB rs a.1).2.1)), (pt a6 0)] (I3 (tw1 tw ((lookB rs a.1).2.1))) zg (fun wq hbq => c_twin ((lookB rs a.1).2.1) a6 z (.map (some b7)) (.map (some a8)) tw wq (zA g hbq) (zA b hbq) (GmAt.of (zA c hbq))) (qw (zZ (pt a9 1) zf (qw (yB a9 1 (I3 ((lookB rs a.2).2.1)) zk zf (zR p rfl) (qw (wA .i32 (tw1 tw ((lookB rs a.1).2.1)) ((lookB rs a.2).2.1) ((tw1 tw ((lookB rs a.1).2.1)) ≠ (lookB rs a.2).2.1) rfl (xV (tw1 tw ((lookB rs a.1).2.1)) ((lookB rs a.2).2.1)) zk zk ?_ ?_)))))))))))))))))))
     ·intro d0
      replace d0 : (tw1 tw ((lookB rs a.1).2.1)) ≠ (lookB rs a.2).2.1 := by omega
      refine qF (yJ ?_)
      intro ex de
      have s := (((s.tr q.below).trans (ae.below u)).tr av).tr de
      exact zB (zT (wR (zG (zH (zH (zH (nQ (zS (zK (zE (zE (zK (zE (yC [(.pointer none), (N6 j), (I6 83)] (hd := ak) ⟨qA rfl (congrArg (fun x : Nat => Value.int .i64 (x : Int)) (by exact (wE i2 zo (j2.hit za (bt_4 za za))).symm)) rfl, s⟩))))))))))))))
     intro di
     replace di : (tw1 tw ((lookB rs a.1).2.1)) = (lookB rs a.2).2.1 := by omega
     refine qF (yJ ?_)
     intro ez bh
     refine zB (zF (zQ (zL (zB (zW (zad j 1 (zG (zU ?_))))))))
     have s := (((s.tr q.below).trans (ae.below u)).tr av).tr bh
     have o := zA (zA o av) bh
     have c := zA c bh
     have d := zA (zA (zD (zA d q.below) ae ah) av) bh
     have e := zA (zA e av) bh
     have b := zA b bh
     have g := zA g bh
     have ap := a1.below s
     have h := zA (zA (zD h ae a2) av) bh
     exact zB ⟨_, zo, (j + 1), rfl, ak, zk, ap, o, h, e, d, c, b, g, s, zo, j2.step za (bt_ok za za za za za)⟩
    intro ee
    refine zU ?_
    refine ⟨rfl, .inr ⟨e, o, n, h⟩, yP 11 zk (yZ 11 rfl ?_ rfl)⟩
    refine wN [(I3 ((lookB rs a.2).1)), (I3 ((lookB rs a.2).2.1)), (U8 ((lookB rs a.2).2.2))] p ?_
    intro fc bq
    have b := zA (zA b ac) q.below
    have b := zD b bq (zP b p zi)
    have g := zA (zA g ac) q.below
    have g := zD g bq (zP g p zi)
    have n := zD n bq (zP n p zi)
    refine zU ?_
    refine ⟨rfl, .inl zk, ?_⟩
    have c := zD (zA c q.below) bq aa
    refine mp 12 rfl (.bool false) (.inl zk) zg (hq := (zC (zI (zC (zC (zI (zC zJ))))))) (yU zk (zB (yF (yN zk zk (yB a6 0 (pt z 0) zk zf (zR g rfl) (zZ (pt z 0) zf (zZ (pt z 1) zf (yB z 1 (.map (some a8)) zk zf (zR b rfl) (zZ (pt bc 1) zf (yB bc 1 (I3 a.2) zk zf (zR n rfl) (xR (k := .i32) (f := vI32) 0 a.2 tw underlying67 underlying21 zk (GmAt.of c) zk zk (zY (zZ (I3 ((gget tw a.2).getD 0)) zf (zZ (.bool ((gget tw a.2).isSome)) zf (yW ((gget tw a.2).isSome) ?_ ?_)))))))))))))))
    ·intro eg
     refine yR (yR (yJ ?_))
     intro d9 c1
     refine zB (yF (yN zk zk (zY (xO false zk (zY (qs (qs (qs (qs (qs (qT (zY (qs (qT (zY (qs (qs (qs (qs (qs (qs (qs (qT (yJ ?_))))))))))))))))))))))))
     intro fs cx
     have s := (((s.tr q.below).trans (bq.below u)).tr c1).tr cx
     exact zB (zT (wR (zG (zH (zH (zH (nQ (zS (zK (zE (zE (zK (zE (yC [(.pointer none), (N6 j), (I6 83)] (hd := ak) ⟨qA rfl (congrArg (fun x : Nat => Value.int .i64 (x : Int)) (by exact (wE i2 zo (j2.hit za (bt_1 za za))).symm)) rfl, s⟩))))))))))))))
    intro ed
    refine yR (yR (yJ ?_))
    intro es db
    refine zB (yF (yN zk zk (zY (xO false zk (zY (qs (qs (qs (qs (qs (qT (zY (qs (qT (zY (qs (qs (qs (qs (qs (qs (qs (qT (yJ ?_))))))))))))))))))))))))
    intro ei ct
    have s := (((s.tr q.below).trans (bq.below u)).tr db).tr ct
    exact zB (zT (wR (zG (zH (zH (zH (nQ (zS (zK (zE (zE (zK (zE (yC [(.pointer none), (N6 j), (I6 83)] (hd := ak) ⟨qA rfl (congrArg (fun x : Nat => Value.int .i64 (x : Int)) (by exact (wE i2 zo (j2.hit za (bt_1 za za))).symm)) rfl, s⟩))))))))))))))
   skip
   refine yZ 11 rfl ?_ rfl
   refine wN [(I3 ((lookB rs a.2).1)), (I3 ((lookB rs a.2).2.1)), (U8 ((lookB rs a.2).2.2))] p ?_
   intro fn ab
   have o := zD o ab (zP o p zi)
   have e := zD e ab (zP e p zi)
   have b := zA (zA b ac) q.below
   have b := zD b ab (zP b p zi)
   have g := zA (zA g ac) q.below
   have g := zD g ab (zP g p zi)
   have n := zD n ab (zP n p zi)
   have p := ab.here
   refine zU ?_
   refine ⟨rfl, .inl zk, yP 9 zk (yZ 9 rfl ?_ rfl)⟩
   refine zr (.bool ((gget rs a.2).isSome)) (zX ((gget rs a.2).isSome) ?_ ?_)
   ·intro ft
    refine zU ?_
    refine ⟨rfl, .inl zk, ?_⟩
    have c := zD (zA c q.below) ab aa
    refine mp 12 rfl (.bool true) (.inl zk) zg (hq := (zC (zI (zC (zC (zI (zC zJ))))))) (yU zk (zB (yF (yN zk zk (yB a6 0 (pt z 0) zk zf (zR g rfl) (zZ (pt z 0) zf (zZ (pt z 1) zf (yB z 1 (.map (some a8)) zk zf (zR b rfl) (zZ (pt bc 1) zf (yB bc 1 (I3 a.2) zk zf (zR n rfl) (xR (k := .i32) (f := vI32) 0 a.2 tw underlying67 underlying21 zk (GmAt.of c) zk zk (zY (zZ (I3 ((gget tw a.2).getD 0)) zf (zZ (.bool ((gget tw a.2).isSome)) zf (yW ((gget tw a.2).isSome) ?_ ?_)))))))))))))))
    ·intro ff
     refine yR (yR (yJ ?_))
     intro fl b6
     have r := zA (zD (zA r q.below) ab ad) b6
     have p := zA p b6
     refine zB (yF (yN zk zk (zY (xO true zk (zY (qw (zZ (pt a9 2) zf (qw (yB a9 2 (U8 ((lookB rs a.2).2.2)) zk zf (zR p rfl) (qw (zZ (pt bb 2) zf (qw (yB bb 2 (U8 ((lookB rs a.1).2.2)) zk zf (zR r rfl) (qw (wA .u8 ((lookB rs a.2).2.2) ((lookB rs a.1).2.2) ((lookB rs a.2).2.2 ≠ (lookB rs a.1).2.2) rfl (xV ((lookB rs a.2).2.2) ((lookB rs a.1).2.2)) zk zk ?_ ?_)))))))))))))))
     ·intro dt
      replace dt : (lookB rs a.2).2.2 ≠ (lookB rs a.1).2.2 := by omega
      refine qF (zY (qs (qT (zY (qs (qs (qs (qs (qs (qs (qs (qT (yJ ?_)))))))))))))
      intro eo dc
      have s := (((s.tr q.below).trans (ab.below u)).tr b6).tr dc
      exact zB (zT (wR (zG (zH (zH (zH (nQ (zS (zK (zE (zE (zK (zE (yC [(.pointer none), (N6 j), (I6 83)] (hd := ak) ⟨qA rfl (congrArg (fun x : Nat => Value.int .i64 (x : Int)) (by exact (wE i2 zo (j2.hit za (bt_2 za za))).symm)) rfl, s⟩))))))))))))))
     intro dv
     replace dv : (lookB rs a.2).2.2 = (lookB rs a.1).2.2 := by omega
     refine qF (zY (qw (zY (qF (zY (qs (qs (qs (qs (qs (qs (qs (qT (yJ ?_))))))))))))))
     intro fi cy
     have s := (((s.tr q.below).trans (ab.below u)).tr b6).tr cy
     exact zB (zT (wR (zG (zH (zH (zH (nQ (zS (zK (zE (zE (zK (zE (yC [(.pointer none), (N6 j), (I6 83)] (hd := ak) ⟨qA rfl (congrArg (fun x : Nat => Value.int .i64 (x : Int)) (by exact (wE i2 zo (j2.hit za (bt_3 za za))).symm)) rfl, s⟩))))))))))))))
    intro ey
    refine yR (yR (yJ ?_))
    intro fg ar
    have r := zA (zD (zA r q.below) ab ad) ar
    have p := zA p ar
    refine zB (yF (yN zk zk (zY (xO true zk (zY (qw (zZ (pt a9 2) zf (qw (yB a9 2 (U8 ((lookB rs a.2).2.2)) zk zf (zR p rfl) (qw (zZ (pt bb 2) zf (qw (yB bb 2 (U8 ((lookB rs a.1).2.2)) zk zf (zR r rfl) (qw (wA .u8 ((lookB rs a.2).2.2) ((lookB rs a.1).2.2) ((lookB rs a.2).2.2 ≠ (lookB rs a.1).2.2) rfl (xV ((lookB rs a.2).2.2) ((lookB rs a.1).2.2)) zk zk ?_ ?_)))))))))))))))
    ·intro dh
     replace dh : (lookB rs a.2).2.2 ≠ (lookB rs a.1).2.2 := by omega
     refine qF (zY (qs (qT (zY (qs (qs (qs (qs (qs (qs (qs (qT (yJ ?_)))))))))))))
     intro eb c7
     have s := (((s.tr q.below).trans (ab.below u)).tr ar).tr c7
     exact zB (zT (wR (zG (zH (zH (zH (nQ (zS (zK (zE (zE (zK (zE (yC [(.pointer none), (N6 j), (I6 83)] (hd := ak) ⟨qA rfl (congrArg (fun x : Nat => Value.int .i64 (x : Int)) (by exact (wE i2 zo (j2.hit za (bt_2 za za))).symm)) rfl, s⟩))))))))))))))
    intro d2
    replace d2 : (lookB rs a.2).2.2 = (lookB rs a.1).2.2 := by omega
    have c := zA c ar
    have b := zA b ar
    have g := zA g ar
    refine qF (zY (qw (zY (qF (zY (qw (zY (qw (zZ (pt bb 1) zf (qw (yB bb 1 (I3 ((lookB rs a.1).2.1)) zk zf (zR r rfl) (qw (Lq_call 54 [(I3 ((lookB rs a.1).2.1)), (pt a6 0)] (I3 (tw1 tw ((lookB rs a.1).2.1))) zg (fun wq hbq => c_twin ((lookB rs a.1).2.1) a6 z (.map (some b7)) (.map (some a8)) tw wq (zA g hbq) (zA b hbq) (GmAt.of (zA c hbq))) (qw (zZ (pt a9 1) zf (qw (yB a9 1 (I3 ((lookB rs a.2).2.1)) zk zf (zR p rfl) (qw (wA .i32 (tw1 tw ((lookB rs a.1).2.1)) ((lookB rs a.2).2.1) ((tw1 tw ((lookB rs a.1).2.1)) ≠ (lookB rs a.2).2.1) rfl (xV (tw1 tw ((lookB rs a.1).2.1)) ((lookB rs a.2).2.1)) zk zk ?_ ?_)))))))))))))))))))
    ·intro dr
     replace dr : (tw1 tw ((lookB rs a.1).2.1)) ≠ (lookB rs a.2).2.1 := by omega
     refine qF (yJ ?_)
     intro eu cv
     have s := (((s.tr q.below).trans (ab.below u)).tr ar).tr cv
     exact zB (zT (wR (zG (zH (zH (zH (nQ (zS (zK (zE (zE (zK (zE (yC [(.pointer none), (N6 j), (I6 83)] (hd := ak) ⟨qA rfl (congrArg (fun x : Nat => Value.int .i64 (x : Int)) (by exact (wE i2 zo (j2.hit za (bt_4 za za))).symm)) rfl, s⟩))))))))))))))
    intro dz
    replace dz : (tw1 tw ((lookB rs a.1).2.1)) = (lookB rs a.2).2.1 := by omega
    refine qF (yJ ?_)
    intro fq bi
    refine zB (zF (zQ (zL (zB (zW (zad j 1 (zG (zU ?_))))))))
    have s := (((s.tr q.below).trans (ab.below u)).tr ar).tr bi
    have o := zA (zA o ar) bi
    have c := zA c bi
    have d := zA (zA (zD (zA d q.below) ab ah) ar) bi
    have e := zA (zA e ar) bi
    have b := zA b bi
    have g := zA g bi
    have ap := a1.below s
    have h := zA (zA (zD h ab a2) ar) bi
    exact zB ⟨_, zo, (j + 1), rfl, ak, zk, ap, o, h, e, d, c, b, g, s, zo, j2.step za (bt_ok za za za za za)⟩
   intro e9
   refine zU ?_
   refine ⟨rfl, .inl zk, ?_⟩
   have c := zD (zA c q.below) ab aa
   refine mp 12 rfl (.bool false) (.inl zk) zg (hq := (zC (zI (zC (zC (zI (zC zJ))))))) (yU zk (zB (yF (yN zk zk (yB a6 0 (pt z 0) zk zf (zR g rfl) (zZ (pt z 0) zf (zZ (pt z 1) zf (yB z 1 (.map (some a8)) zk zf (zR b rfl) (zZ (pt bc 1) zf (yB bc 1 (I3 a.2) zk zf (zR n rfl) (xR (k := .i32) (f := vI32) 0 a.2 tw underlying67 underlying21 zk (GmAt.of c) zk zk (zY (zZ (I3 ((gget tw a.2).getD 0)) zf (zZ (.bool ((gget tw a.2).isSome)) zf (yW ((gget tw a.2).isSome) ?_ ?_)))))))))))))))
   ·intro e8
    refine yR (yR (yJ ?_))
    intro fh cw
    refine zB (yF (yN zk zk (zY (xO false zk (zY (qs (qs (qs (qs (qs (qT (zY (qs (qT (zY (qs (qs (qs (qs (qs (qs (qs (qT (yJ ?_))))))))))))))))))))))))
    intro ej cs
    have s := (((s.tr q.below).trans (ab.below u)).tr cw).tr cs
    exact zB (zT (wR (zG (zH (zH (zH (nQ (zS (zK (zE (zE (zK (zE (yC [(.pointer none), (N6 j), (I6 83)] (hd := ak) ⟨qA rfl (congrArg (fun x : Nat => Value.int .i64 (x : Int)) (by exact (wE i2 zo (j2.hit za (bt_1 za za))).symm)) rfl, s⟩))))))))))))))
   intro ev
   refine yR (yR (yJ ?_))
   intro e7 cu
   refine zB (yF (yN zk zk (zY (xO false zk (zY (qs (qs (qs (qs (qs (qT (zY (qs (qT (zY (qs (qs (qs (qs (qs (qs (qs (qT (yJ ?_))))))))))))))))))))))))
   intro el c6
   have s := (((s.tr q.below).trans (ab.below u)).tr cu).tr c6
   exact zB (zT (wR (zG (zH (zH (zH (nQ (zS (zK (zE (zE (zK (zE (yC [(.pointer none), (N6 j), (I6 83)] (hd := ak) ⟨qA rfl (congrArg (fun x : Nat => Value.int .i64 (x : Int)) (by exact (wE i2 zo (j2.hit za (bt_1 za za))).symm)) rfl, s⟩))))))))))))))
  intro ec
  refine wX false (nQ (zT (xG (yD (yQ (zB (zW (zad j 1 (zG (zU ?_))))))))))
  have s := ((s.tr a0.below).trans (ba.below cq)).tr am
  have o := zA o am
  have c := zA (zD (zA c a0.below) ba br) am
  have d := zA (zD (zA d a0.below) ba bf) am
  have e := zA e am
  have b := zA b am
  have g := zA g am
  have ap := a1.below s
  have h := zA h am
  exact zB ⟨_, zo, (j + 1), rfl, ak, zk, ap, o, h, e, d, c, b, g, s, zo, j2.step za (bt_no za)⟩
 intro e6
 refine nW (zF (xG (yD (yD (yQ (zB (wR (zO 0 g rfl (zH (zH (zH (nQ (zS (yC [(pt z 0), (I6 0), (I6 0)] (hd := ak) ?_))))))))))))))
 exfalso; exact hbad (tw_ok i2 zo (j2.end zo))
end Go.Proofs.YtddnhlobnembaaaGreatDoor
end

/- === Wcb8 === -/
section
/- Walks, written by my program walk.py out of the specification cb8.py: each theorem says what one function returns and that it leaves memory as it was. -/
namespace Go.Proofs.YtddnhlobnembaaaGreatDoor
open Go Go.RowKit Go.FK _root_.Go.Proofs.Tryz
set_option maxHeartbeats 4000000
set_option maxRecDepth 100000
theorem c_furrowlaw08_BracketsPairs (a9 : Value) (rows : List (Int × Int × Int)) (ba : Value) (twins : List (Int × Int)) (q : Int) (w : World) (n : Rd w encBrk a9 rows) (l : Rd w encTw ba twins) (hty : w.cell? ⟨0, 0, none⟩ = some (.iface 180 (.agg #[.pointer (some ⟨7, 39, none⟩)]))) (hlr : rows.length ≤ 9223372036854775807) (hlt : twins.length ≤ 9223372036854775807) :
  Calls Tryz.prog 8 #[a9, ba, (I3 q)] w (Ret fun v w' => v = (.bool true) ∧ Below w.heap.size w w') := by
 refine wG 164 func8 rfl ?_
 have p := Below.refl w.heap.size w
 have u := n
 have r := l
 refine wR (zH (nR (zG ?_)))
 by_cases gh : newB rows = none
 ·skip
  refine zc (c_New_ok a9 rows _ n za zo) ?_
  rintro _ w2 ⟨a2, a3, rfl, a, b4, b, b6, co⟩
  replace b4 := Nat.le_trans p.size b4
  replace b6 := Nat.le_trans p.size b6
  refine zG (zr (pt a2 0) (zr (I6 0) (zr (I6 0) (zH (zH (zH (nW (wR (zG (zr (.bool false) (nQ (zF (zQ (zB (wR (zG (zG ?_)))))))))))))))))
  by_cases g0 : twE (kv rows) twins = none
  ·skip
   have p := p.tr co
   have l := r.below p
   refine zc (c_Twins_ok a2 a3 (kv rows) (.map none) ba twins _ a b l za zo) ?_
   rintro _ w7 ⟨a4, a7, ax, rfl, j, b7, k, b3, c, b1, ga, b5⟩
   replace b7 := Nat.le_trans p.size b7
   replace b3 := Nat.le_trans p.size b3
   replace b1 := Nat.le_trans p.size b1
   refine zG (zr (pt a4 0) (zr (I6 0) (zr (I6 0) (zH (zH (zH (nW (wR (zG (zr (.bool true) (nQ (zT (zW (zG (zH (nW (wR (zG (zr (.bool false) (nQ (zF (zQ (zB (yF (wR (zH (nQ (yI ?_))))))))))))))))))))))))))))
   have p := p.tr b5
   have a := zA a b5
   have b := zA b b5
   have n := u.below p
   have l := r.below p
   refine xN (fun m s0 w0 => ∃ (i : Nat), (m = rows.length - i) ∧ (s0.ds = []) ∧ ([0, 2, 7, 12].map s0.f = [a9, (I3 q), (pt a4 0), (N6 i)]) ∧ (Rd w0 encBrk a9 rows) ∧ (Rd w0 encTw ba twins) ∧ (w0.heap[a2]? = some (.cells [(.map (some a3)), (.map none)].toArray 69 (0, 0))) ∧ (w0.heap[a3]? = some (gmObj .i32 vBrk (kv rows))) ∧ (w0.heap[a4]? = some (.cells [(.map (some a7)), (.map (some ax))].toArray 69 (0, 0))) ∧ (w0.heap[a7]? = some (gmObj .i32 vBrk (kv rows))) ∧ (w0.heap[ax]? = some (gmObj .i32 vI32 (twsM (kv rows) twins))) ∧ (Below w.heap.size w w0) ∧ (i ≤ rows.length)) _ ⟨0, rfl, zk, zk, n, l, a, b, j, k, c, p, (Nat.zero_le _)⟩ ?_
   rintro gx g6 gz ⟨i, hm, av, ch, n, l, a, b, j, k, c, p, i1⟩
   refine xK ch (yF (wR (zG (zG (zln underlying22 (n).len (nLt i ((rows).length) ?_ ?_))))))
   ·intro go
    refine nQ (zT (zQ (zB (yF (yI (wR (zG (zG ?_))))))))
    have hz := yL rows i zo; obtain ⟨z, b2⟩ := hz
    have g := pairs_ok (t := []) za (.inl rfl) (List.mem_of_getElem? b2)
    have e : twE (kv rows) twins = none → PairsP (kv rows) (twsM (kv rows) twins) z := fun h => pairs_ok za (.inr ⟨_, rfl, h⟩) (List.mem_of_getElem? b2)
    refine zEA n el22 i b2 [(I3 z.1), (I3 z.2.1), (U8 z.2.2)] rfl fun _ => (zN [(I3 0), (I3 0), (U8 0)] 26 ?_)
    intro bm g7 ag
    have au := yE (zV b) ag
    have bx := yE (zV k) ag
    have bu := yE (zV c) ag
    have s := ag.ge p.size
    have d := ag.here
    refine wN [(I3 z.1), (I3 z.2.1), (U8 z.2.2)] d ?_
    intro hh ak
    have a := zA a ag.below
    have a := zD a ak (zP a d zi)
    have j := zA j ag.below
    have j := zD j ak (zP j d zi)
    have d := ak.here
    have k := zD (zA k ag.below) ak bx
    have c := zD (zA c ag.below) ak bu
    refine nR (zG (zFO 0 d rfl (zc (xF a4 a7 (kv rows) (.map (some ax)) (twsM (kv rows) twins) z.1 _ j (GmAt.of k) (GmAt.of c)) ?_)))
    rintro _ g1 ⟨rfl, ab⟩
    have j := zA j ab
    have k := zA k ab
    have c := zA c ab
    refine zG (zr (I3 ((brkF (kv rows) z.1).1)) (zr (U8 ((brkF (kv rows) z.1).2)) (zH (zH (nR (zG (zG (zc (xF a4 a7 (kv rows) (.map (some ax)) (twsM (kv rows) twins) ((brkF (kv rows) z.1).1) _ j (GmAt.of k) (GmAt.of c)) ?_))))))))
    rintro _ gy ⟨rfl, aa⟩
    have j := zA j aa
    have k := zA k aa
    have c := zA c aa
    have d := zA (zA d ab) aa
    refine zG (zr (I3 ((brkF (kv rows) ((brkF (kv rows) z.1).1)).1)) (zr (U8 ((brkF (kv rows) ((brkF (kv rows) z.1).1)).2)) (zH (zH (nR (zG (zFO 0 d rfl (zc (c_Twin a4 a7 (kv rows) (.map (some ax)) (twsM (kv rows) twins) z.1 _ j (GmAt.of k) (GmAt.of c)) ?_))))))))
    rintro _ g5 ⟨rfl, ad⟩
    have j := zA j ad
    have k := zA k ad
    have c := zA c ad
    refine zH (nR (zG (zG (zc (xF a4 a7 (kv rows) (.map (some ax)) (twsM (kv rows) twins) (twnF (twsM (kv rows) twins) z.1) _ j (GmAt.of k) (GmAt.of c)) ?_))))
    rintro _ hg ⟨rfl, ae⟩
    have d := zA (zA d ad) ae
    refine zG (zr (I3 ((brkF (kv rows) (twnF (twsM (kv rows) twins) z.1)).1)) (zr (U8 ((brkF (kv rows) (twnF (twsM (kv rows) twins) z.1)).2)) (zH (zH (nW (wR (zG (zFO 1 d rfl (zNe .i32 ((brkF (kv rows) z.1).1) z.2.1 ?_ ?_)))))))))
    ·intro ct
     exfalso; first | exact ct g.p1 | exact ct (e za).p1
    intro gr
    refine zG (zw (zG (zw (zr (pt bm 2) (zw (zO 2 d rfl (zw (zNe .u8 ((brkF (kv rows) z.1).2) z.2.2 ?_ ?_))))))))
    ·intro cm
     exfalso; first | exact cm g.p2 | exact cm (e za).p2
    intro gs
    refine xC (zG (zw (zG (zw (zr (pt bm 0) (zw (zO 0 d rfl (zw (zNe .i32 ((brkF (kv rows) ((brkF (kv rows) z.1).1)).1) z.1 ?_ ?_)))))))))
    ·intro cl
     exfalso; first | exact cl g.p3 | exact cl (e za).p3
    intro gp
    refine xC (zG (zw (zG (zw (zG (zw (wC .u8 ((brkF (kv rows) ((brkF (kv rows) z.1).1)).2) ((brkF (kv rows) z.1).2) ?_ ?_)))))))
    ·intro cp
     exfalso; first | exact g.p4 cp | exact (e za).p4 cp
    intro gk
    refine xC (zG (zw (zG (zw (wC .u8 ((brkF (kv rows) ((brkF (kv rows) z.1).1)).2) 0 ?_ ?_)))))
    ·intro cs
     exfalso; first | exact g.p5 cs | exact (e za).p5 cs
    intro ha
    refine xC (zG (zw (zG (zw (zG (zw (zNe .u8 ((brkF (kv rows) (twnF (twsM (kv rows) twins) z.1)).2) ((brkF (kv rows) z.1).2) ?_ ?_)))))))
    ·intro cn
     exfalso; first | exact cn g.p6 | exact cn (e za).p6
    intro gv
    have j := zA j ae
    have k := zA k ae
    have c := zA c ae
    refine xC (zG (zw (zG (zw (zG (zw (zc (c_Twin a4 a7 (kv rows) (.map (some ax)) (twsM (kv rows) twins) (twnF (twsM (kv rows) twins) z.1) _ j (GmAt.of k) (GmAt.of c)) ?_)))))))
    rintro _ gn ⟨rfl, ac⟩
    refine zw (zG (zw (zNe .i32 (twnF (twsM (kv rows) twins) (twnF (twsM (kv rows) twins) z.1)) (twnF (twsM (kv rows) twins) z.1) ?_ ?_)))
    ·intro cu
     exfalso; first | exact cu g.p7 | exact cu (e za).p7
    intro hr
    have j := zA j ac
    have k := zA k ac
    have c := zA c ac
    refine xC (zG (zw (zG (zw (zG (zw (zG (zw (zc (c_Twin a4 a7 (kv rows) (.map (some ax)) (twsM (kv rows) twins) ((brkF (kv rows) z.1).1) _ j (GmAt.of k) (GmAt.of c)) ?_)))))))))
    rintro _ gm ⟨rfl, af⟩
    refine zw (zNe .i32 ((brkF (kv rows) (twnF (twsM (kv rows) twins) z.1)).1) (twnF (twsM (kv rows) twins) ((brkF (kv rows) z.1).1)) ?_ ?_)
    ·intro cr
     exfalso; first | exact cr g.p8 | exact cr (e za).p8
    intro hl
    have j := zA j af
    have k := zA k af
    have c := zA c af
    have d := zA (zA d ac) af
    refine xC (nQ (zF (zQ (zB (yF (wR (zG (zFO 0 d rfl (zFO 1 d rfl (zc (yT a4 a7 (kv rows) (.map (some ax)) (twsM (kv rows) twins) z.1 z.2.1 _ j (GmAt.of k) (GmAt.of c)) ?_))))))))))
    rintro _ gw ⟨rfl, y⟩
    refine zX (mtcF (kv rows) (twsM (kv rows) twins) z.1 z.2.1) ?_ ?_
    ·intro gl
     refine zG (wC .u8 ((brkF (kv rows) z.1).2) 1 ?_ ?_)
     ·intro hj
      have j := zA j y
      have k := zA k y
      have c := zA c y
      have d := zA d y
      refine zr (.bool false) (zG (zw (zG (zw (zr (pt bm 1) (zw (zO 1 d rfl (zw (zr (pt bm 0) (zw (zO 0 d rfl (zw (zc (yT a4 a7 (kv rows) (.map (some ax)) (twsM (kv rows) twins) z.2.1 z.1 _ j (GmAt.of k) (GmAt.of c)) ?_)))))))))))))
      rintro _ he ⟨rfl, aw⟩
      refine zX (mtcF (kv rows) (twsM (kv rows) twins) z.2.1 z.1) ?_ ?_
      ·intro hn
       refine zw (zG (zw (wC .u8 ((brkF (kv rows) z.1).2) 2 ?_ ?_)))
       ·intro gj
        have j := zA j aw
        have k := zA k aw
        have c := zA c aw
        refine zw (zr (.bool false) (xC (nQ (zF (zQ (zB (wR (zG (zG (zc (xF a4 a7 (kv rows) (.map (some ax)) (twsM (kv rows) twins) q _ j (GmAt.of k) (GmAt.of c)) ?_))))))))))
        rintro _ g4 ⟨rfl, a5⟩
        refine zG (zr (I3 ((brkF (kv rows) q).1)) (zr (U8 ((brkF (kv rows) q).2)) (zH (zH (nR (zG (wC .u8 ((brkF (kv rows) q).2) 0 ?_ ?_)))))))
        ·intro gu
         have j := zA j a5
         have k := zA k a5
         have c := zA c a5
         have d := zA (zA d aw) a5
         refine zG (zw (zG (zw (zr (pt bm 0) (zw (zO 0 d rfl (zw (zG (zw (zc (yT a4 a7 (kv rows) (.map (some ax)) (twsM (kv rows) twins) z.1 q _ j (GmAt.of k) (GmAt.of c)) ?_))))))))))
         rintro _ gb ⟨rfl, bl⟩
         refine zX (mtcF (kv rows) (twsM (kv rows) twins) z.1 q) ?_ ?_
         ·intro g8
          have p := (((((((((((p.tr ag.below).trans (ak.below s)).tr ab).tr aa).tr ad).tr ae).tr ac).tr af).tr y).tr aw).tr a5).tr bl
          exact zw (zG (zs (zs (zs (zs (zs (zw (xE (xE (nQ (zT (wR (zH (nQ (zS (zK (zE (zE (zK (zE (yC [(.bool false)] (hd := av) ⟨eb (by (exfalso; first | exact absurd (g.p9.1 za) za | exact yO za (g.p9.2 za) | exact absurd (g.p10.1 za) za | exact yO za (g.p10.2 za) | exact yO (g.p11 q za).1 za | exact yO (g.p11 q za).2 za | exact absurd ((e za).p9.1 za) za | exact yO za ((e za).p9.2 za) | exact absurd ((e za).p10.1 za) za | exact yO za ((e za).p10.2 za) | exact yO ((e za).p11 q za).1 za | exact yO ((e za).p11 q za).2 za)), p⟩)))))))))))))))))))))
         intro hs
         have j := zA j bl
         have k := zA k bl
         have c := zA c bl
         have d := zA d bl
         refine zw (zG (zw (zG (zw (zG (zw (zr (pt bm 0) (zw (zO 0 d rfl (zw (zc (yT a4 a7 (kv rows) (.map (some ax)) (twsM (kv rows) twins) q z.1 _ j (GmAt.of k) (GmAt.of c)) ?_)))))))))))
         rintro _ hp ⟨rfl, br⟩
         refine zX (mtcF (kv rows) (twsM (kv rows) twins) q z.1) ?_ ?_
         ·intro gc
          have p := ((((((((((((p.tr ag.below).trans (ak.below s)).tr ab).tr aa).tr ad).tr ae).tr ac).tr af).tr y).tr aw).tr a5).tr bl).tr br
          exact zw (xC (xE (nQ (zT (wR (zH (nQ (zS (zK (zE (zE (zK (zE (yC [(.bool false)] (hd := av) ⟨eb (by (exfalso; first | exact absurd (g.p9.1 za) za | exact yO za (g.p9.2 za) | exact absurd (g.p10.1 za) za | exact yO za (g.p10.2 za) | exact yO (g.p11 q za).1 za | exact yO (g.p11 q za).2 za | exact absurd ((e za).p9.1 za) za | exact yO za ((e za).p9.2 za) | exact absurd ((e za).p10.1 za) za | exact yO za ((e za).p10.2 za) | exact yO ((e za).p11 q za).1 za | exact yO ((e za).p11 q za).2 za)), p⟩))))))))))))))
         intro gf
         refine zw (xC (xE (nQ (zF (zQ (zL (zB (zW (zG (zad i 1 (zH (zU ?_))))))))))))
         have p := ((((((((((((p.tr ag.below).trans (ak.below s)).tr ab).tr aa).tr ad).tr ae).tr ac).tr af).tr y).tr aw).tr a5).tr bl).tr br
         have a := zA (zA (zA (zA (zA (zA (zA (zA (zA (zA (zA a ab) aa) ad) ae) ac) af) y) aw) a5) bl) br
         have j := zA j br
         have b := zA (zA (zA (zA (zA (zA (zA (zA (zA (zA (zA (zD (zA b ag.below) ak au) ab) aa) ad) ae) ac) af) y) aw) a5) bl) br
         have k := zA k br
         have c := zA c br
         have n := u.below p
         have l := r.below p
         exact zB ⟨_, zo, (i + 1), rfl, av, zk, n, l, a, b, j, k, c, p, zo⟩
        intro gi
        refine zG (zs (zs (zs (zs (zs (zs (zs (zs (zs (zs (zs (zs (xC (nQ (zF (zQ (zL (zB (zW (zG (zad i 1 (zH (zU ?_)))))))))))))))))))))))
        have p := ((((((((((p.tr ag.below).trans (ak.below s)).tr ab).tr aa).tr ad).tr ae).tr ac).tr af).tr y).tr aw).tr a5
        have a := zA (zA (zA (zA (zA (zA (zA (zA (zA a ab) aa) ad) ae) ac) af) y) aw) a5
        have j := zA j a5
        have b := zA (zA (zA (zA (zA (zA (zA (zA (zA (zD (zA b ag.below) ak au) ab) aa) ad) ae) ac) af) y) aw) a5
        have k := zA k a5
        have c := zA c a5
        have n := u.below p
        have l := r.below p
        exact zB ⟨_, zo, (i + 1), rfl, av, zk, n, l, a, b, j, k, c, p, zo⟩
       intro g3
       have p := (((((((((p.tr ag.below).trans (ak.below s)).tr ab).tr aa).tr ad).tr ae).tr ac).tr af).tr y).tr aw
       exact zw (zr (.bool true) (xC (nQ (zT (wR (zH (nQ (zS (zE (zK (zE (zE (zK (zE (yC [(.bool false)] (hd := av) ⟨eb (by (exfalso; first | exact absurd (g.p9.1 za) za | exact yO za (g.p9.2 za) | exact absurd (g.p10.1 za) za | exact yO za (g.p10.2 za) | exact yO (g.p11 q za).1 za | exact yO (g.p11 q za).2 za | exact absurd ((e za).p9.1 za) za | exact yO za ((e za).p9.2 za) | exact absurd ((e za).p10.1 za) za | exact yO za ((e za).p10.2 za) | exact yO ((e za).p11 q za).1 za | exact yO ((e za).p11 q za).2 za)), p⟩)))))))))))))))
      intro ho
      refine zw (zG (zw (wC .u8 ((brkF (kv rows) z.1).2) 2 ?_ ?_)))
      ·intro g9
       have p := (((((((((p.tr ag.below).trans (ak.below s)).tr ab).tr aa).tr ad).tr ae).tr ac).tr af).tr y).tr aw
       exact zw (zr (.bool true) (xC (nQ (zT (wR (zH (nQ (zS (zE (zK (zE (zE (zK (zE (yC [(.bool false)] (hd := av) ⟨eb (by (exfalso; first | exact absurd (g.p9.1 za) za | exact yO za (g.p9.2 za) | exact absurd (g.p10.1 za) za | exact yO za (g.p10.2 za) | exact yO (g.p11 q za).1 za | exact yO (g.p11 q za).2 za | exact absurd ((e za).p9.1 za) za | exact yO za ((e za).p9.2 za) | exact absurd ((e za).p10.1 za) za | exact yO za ((e za).p10.2 za) | exact yO ((e za).p11 q za).1 za | exact yO ((e za).p11 q za).2 za)), p⟩)))))))))))))))
      intro gd
      have j := zA j aw
      have k := zA k aw
      have c := zA c aw
      refine zw (zr (.bool false) (xC (nQ (zF (zQ (zB (wR (zG (zG (zc (xF a4 a7 (kv rows) (.map (some ax)) (twsM (kv rows) twins) q _ j (GmAt.of k) (GmAt.of c)) ?_))))))))))
      rintro _ hk ⟨rfl, a6⟩
      refine zG (zr (I3 ((brkF (kv rows) q).1)) (zr (U8 ((brkF (kv rows) q).2)) (zH (zH (nR (zG (wC .u8 ((brkF (kv rows) q).2) 0 ?_ ?_)))))))
      ·intro hf
       have j := zA j a6
       have k := zA k a6
       have c := zA c a6
       have d := zA (zA d aw) a6
       refine zG (zw (zG (zw (zr (pt bm 0) (zw (zO 0 d rfl (zw (zG (zw (zc (yT a4 a7 (kv rows) (.map (some ax)) (twsM (kv rows) twins) z.1 q _ j (GmAt.of k) (GmAt.of c)) ?_))))))))))
       rintro _ hc ⟨rfl, bk⟩
       refine zX (mtcF (kv rows) (twsM (kv rows) twins) z.1 q) ?_ ?_
       ·intro hi
        have p := (((((((((((p.tr ag.below).trans (ak.below s)).tr ab).tr aa).tr ad).tr ae).tr ac).tr af).tr y).tr aw).tr a6).tr bk
        exact zw (zG (zs (zs (zs (zs (zs (zw (xE (xE (nQ (zT (wR (zH (nQ (zS (zK (zE (zE (zK (zE (yC [(.bool false)] (hd := av) ⟨eb (by (exfalso; first | exact absurd (g.p9.1 za) za | exact yO za (g.p9.2 za) | exact absurd (g.p10.1 za) za | exact yO za (g.p10.2 za) | exact yO (g.p11 q za).1 za | exact yO (g.p11 q za).2 za | exact absurd ((e za).p9.1 za) za | exact yO za ((e za).p9.2 za) | exact absurd ((e za).p10.1 za) za | exact yO za ((e za).p10.2 za) | exact yO ((e za).p11 q za).1 za | exact yO ((e za).p11 q za).2 za)), p⟩)))))))))))))))))))))
       intro gq
       have j := zA j bk
       have k := zA k bk
       have c := zA c bk
       have d := zA d bk
       refine zw (zG (zw (zG (zw (zG (zw (zr (pt bm 0) (zw (zO 0 d rfl (zw (zc (yT a4 a7 (kv rows) (.map (some ax)) (twsM (kv rows) twins) q z.1 _ j (GmAt.of k) (GmAt.of c)) ?_)))))))))))
       rintro _ du ⟨rfl, bi⟩
       refine zX (mtcF (kv rows) (twsM (kv rows) twins) q z.1) ?_ ?_
       ·intro dd
        have p := ((((((((((((p.tr ag.below).trans (ak.below s)).tr ab).tr aa).tr ad).tr ae).tr ac).tr af).tr y).tr aw).tr a6).tr bk).tr bi
        exact zw (xC (xE (nQ (zT (wR (zH (nQ (zS (zK (zE (zE (zK (zE (yC [(.bool false)] (hd := av) ⟨eb (by (exfalso; first | exact absurd (g.p9.1 za) za | exact yO za (g.p9.2 za) | exact absurd (g.p10.1 za) za | exact yO za (g.p10.2 za) | exact yO (g.p11 q za).1 za | exact yO (g.p11 q za).2 za | exact absurd ((e za).p9.1 za) za | exact yO za ((e za).p9.2 za) | exact absurd ((e za).p10.1 za) za | exact yO za ((e za).p10.2 za) | exact yO ((e za).p11 q za).1 za | exact yO ((e za).p11 q za).2 za)), p⟩))))))))))))))
       intro fm
       refine zw (xC (xE (nQ (zF (zQ (zL (zB (zW (zG (zad i 1 (zH (zU ?_))))))))))))
       have p := ((((((((((((p.tr ag.below).trans (ak.below s)).tr ab).tr aa).tr ad).tr ae).tr ac).tr af).tr y).tr aw).tr a6).tr bk).tr bi
       have a := zA (zA (zA (zA (zA (zA (zA (zA (zA (zA (zA a ab) aa) ad) ae) ac) af) y) aw) a6) bk) bi
       have j := zA j bi
       have b := zA (zA (zA (zA (zA (zA (zA (zA (zA (zA (zA (zD (zA b ag.below) ak au) ab) aa) ad) ae) ac) af) y) aw) a6) bk) bi
       have k := zA k bi
       have c := zA c bi
       have n := u.below p
       have l := r.below p
       exact zB ⟨_, zo, (i + 1), rfl, av, zk, n, l, a, b, j, k, c, p, zo⟩
      intro e1
      refine zG (zs (zs (zs (zs (zs (zs (zs (zs (zs (zs (zs (zs (xC (nQ (zF (zQ (zL (zB (zW (zG (zad i 1 (zH (zU ?_)))))))))))))))))))))))
      have p := ((((((((((p.tr ag.below).trans (ak.below s)).tr ab).tr aa).tr ad).tr ae).tr ac).tr af).tr y).tr aw).tr a6
      have a := zA (zA (zA (zA (zA (zA (zA (zA (zA a ab) aa) ad) ae) ac) af) y) aw) a6
      have j := zA j a6
      have b := zA (zA (zA (zA (zA (zA (zA (zA (zA (zD (zA b ag.below) ak au) ab) aa) ad) ae) ac) af) y) aw) a6
      have k := zA k a6
      have c := zA c a6
      have n := u.below p
      have l := r.below p
      exact zB ⟨_, zo, (i + 1), rfl, av, zk, n, l, a, b, j, k, c, p, zo⟩
     intro fh
     have p := ((((((((p.tr ag.below).trans (ak.below s)).tr ab).tr aa).tr ad).tr ae).tr ac).tr af).tr y
     exact zr (.bool true) (zG (zs (zs (zs (zs (zs (zs (zs (zs (zs (xE (nQ (zT (wR (zH (nQ (zS (zE (zK (zE (zE (zK (zE (yC [(.bool false)] (hd := av) ⟨eb (by (exfalso; first | exact absurd (g.p9.1 za) za | exact yO za (g.p9.2 za) | exact absurd (g.p10.1 za) za | exact yO za (g.p10.2 za) | exact yO (g.p11 q za).1 za | exact yO (g.p11 q za).2 za | exact absurd ((e za).p9.1 za) za | exact yO za ((e za).p9.2 za) | exact absurd ((e za).p10.1 za) za | exact yO za ((e za).p10.2 za) | exact yO ((e za).p11 q za).1 za | exact yO ((e za).p11 q za).2 za)), p⟩))))))))))))))))))))))))
    intro en
    refine zG (wC .u8 ((brkF (kv rows) z.1).2) 1 ?_ ?_)
    ·intro ef
     have p := ((((((((p.tr ag.below).trans (ak.below s)).tr ab).tr aa).tr ad).tr ae).tr ac).tr af).tr y
     exact zr (.bool true) (zG (zs (zs (zs (zs (zs (zs (zs (zs (zs (xE (nQ (zT (wR (zH (nQ (zS (zE (zK (zE (zE (zK (zE (yC [(.bool false)] (hd := av) ⟨eb (by (exfalso; first | exact absurd (g.p9.1 za) za | exact yO za (g.p9.2 za) | exact absurd (g.p10.1 za) za | exact yO za (g.p10.2 za) | exact yO (g.p11 q za).1 za | exact yO (g.p11 q za).2 za | exact absurd ((e za).p9.1 za) za | exact yO za ((e za).p9.2 za) | exact absurd ((e za).p10.1 za) za | exact yO za ((e za).p10.2 za) | exact yO ((e za).p11 q za).1 za | exact yO ((e za).p11 q za).2 za)), p⟩))))))))))))))))))))))))
    intro ew
    have j := zA j y
    have k := zA k y
    have c := zA c y
    have d := zA d y
    refine zr (.bool false) (zG (zw (zG (zw (zr (pt bm 1) (zw (zO 1 d rfl (zw (zr (pt bm 0) (zw (zO 0 d rfl (zw (zc (yT a4 a7 (kv rows) (.map (some ax)) (twsM (kv rows) twins) z.2.1 z.1 _ j (GmAt.of k) (GmAt.of c)) ?_)))))))))))))
    rintro _ fr ⟨rfl, aj⟩
    refine zX (mtcF (kv rows) (twsM (kv rows) twins) z.2.1 z.1) ?_ ?_
    ·intro d9
     refine zw (zG (zw (wC .u8 ((brkF (kv rows) z.1).2) 2 ?_ ?_)))
     ·intro f6
      have j := zA j aj
      have k := zA k aj
      have c := zA c aj
      refine zw (zr (.bool false) (xC (nQ (zF (zQ (zB (wR (zG (zG (zc (xF a4 a7 (kv rows) (.map (some ax)) (twsM (kv rows) twins) q _ j (GmAt.of k) (GmAt.of c)) ?_))))))))))
      rintro _ dx ⟨rfl, a0⟩
      refine zG (zr (I3 ((brkF (kv rows) q).1)) (zr (U8 ((brkF (kv rows) q).2)) (zH (zH (nR (zG (wC .u8 ((brkF (kv rows) q).2) 0 ?_ ?_)))))))
      ·intro e4
       have j := zA j a0
       have k := zA k a0
       have c := zA c a0
       have d := zA (zA d aj) a0
       refine zG (zw (zG (zw (zr (pt bm 0) (zw (zO 0 d rfl (zw (zG (zw (zc (yT a4 a7 (kv rows) (.map (some ax)) (twsM (kv rows) twins) z.1 q _ j (GmAt.of k) (GmAt.of c)) ?_))))))))))
       rintro _ c8 ⟨rfl, bf⟩
       refine zX (mtcF (kv rows) (twsM (kv rows) twins) z.1 q) ?_ ?_
       ·intro ff
        have p := (((((((((((p.tr ag.below).trans (ak.below s)).tr ab).tr aa).tr ad).tr ae).tr ac).tr af).tr y).tr aj).tr a0).tr bf
        exact zw (zG (zs (zs (zs (zs (zs (zw (xE (xE (nQ (zT (wR (zH (nQ (zS (zK (zE (zE (zK (zE (yC [(.bool false)] (hd := av) ⟨eb (by (exfalso; first | exact absurd (g.p9.1 za) za | exact yO za (g.p9.2 za) | exact absurd (g.p10.1 za) za | exact yO za (g.p10.2 za) | exact yO (g.p11 q za).1 za | exact yO (g.p11 q za).2 za | exact absurd ((e za).p9.1 za) za | exact yO za ((e za).p9.2 za) | exact absurd ((e za).p10.1 za) za | exact yO za ((e za).p10.2 za) | exact yO ((e za).p11 q za).1 za | exact yO ((e za).p11 q za).2 za)), p⟩)))))))))))))))))))))
       intro cz
       have j := zA j bf
       have k := zA k bf
       have c := zA c bf
       have d := zA d bf
       refine zw (zG (zw (zG (zw (zG (zw (zr (pt bm 0) (zw (zO 0 d rfl (zw (zc (yT a4 a7 (kv rows) (.map (some ax)) (twsM (kv rows) twins) q z.1 _ j (GmAt.of k) (GmAt.of c)) ?_)))))))))))
       rintro _ di ⟨rfl, bj⟩
       refine zX (mtcF (kv rows) (twsM (kv rows) twins) q z.1) ?_ ?_
       ·intro cy
        have p := ((((((((((((p.tr ag.below).trans (ak.below s)).tr ab).tr aa).tr ad).tr ae).tr ac).tr af).tr y).tr aj).tr a0).tr bf).tr bj
        exact zw (xC (xE (nQ (zT (wR (zH (nQ (zS (zK (zE (zE (zK (zE (yC [(.bool false)] (hd := av) ⟨eb (by (exfalso; first | exact absurd (g.p9.1 za) za | exact yO za (g.p9.2 za) | exact absurd (g.p10.1 za) za | exact yO za (g.p10.2 za) | exact yO (g.p11 q za).1 za | exact yO (g.p11 q za).2 za | exact absurd ((e za).p9.1 za) za | exact yO za ((e za).p9.2 za) | exact absurd ((e za).p10.1 za) za | exact yO za ((e za).p10.2 za) | exact yO ((e za).p11 q za).1 za | exact yO ((e za).p11 q za).2 za)), p⟩))))))))))))))
       intro ep
       refine zw (xC (xE (nQ (zF (zQ (zL (zB (zW (zG (zad i 1 (zH (zU ?_))))))))))))
       have p := ((((((((((((p.tr ag.below).trans (ak.below s)).tr ab).tr aa).tr ad).tr ae).tr ac).tr af).tr y).tr aj).tr a0).tr bf).tr bj
       have a := zA (zA (zA (zA (zA (zA (zA (zA (zA (zA (zA a ab) aa) ad) ae) ac) af) y) aj) a0) bf) bj
       have j := zA j bj
       have b := zA (zA (zA (zA (zA (zA (zA (zA (zA (zA (zA (zD (zA b ag.below) ak au) ab) aa) ad) ae) ac) af) y) aj) a0) bf) bj
       have k := zA k bj
       have c := zA c bj
       have n := u.below p
       have l := r.below p
       exact zB ⟨_, zo, (i + 1), rfl, av, zk, n, l, a, b, j, k, c, p, zo⟩
      intro fn
      refine zG (zs (zs (zs (zs (zs (zs (zs (zs (zs (zs (zs (zs (xC (nQ (zF (zQ (zL (zB (zW (zG (zad i 1 (zH (zU ?_)))))))))))))))))))))))
      have p := ((((((((((p.tr ag.below).trans (ak.below s)).tr ab).tr aa).tr ad).tr ae).tr ac).tr af).tr y).tr aj).tr a0
      have a := zA (zA (zA (zA (zA (zA (zA (zA (zA a ab) aa) ad) ae) ac) af) y) aj) a0
      have j := zA j a0
      have b := zA (zA (zA (zA (zA (zA (zA (zA (zA (zD (zA b ag.below) ak au) ab) aa) ad) ae) ac) af) y) aj) a0
      have k := zA k a0
      have c := zA c a0
      have n := u.below p
      have l := r.below p
      exact zB ⟨_, zo, (i + 1), rfl, av, zk, n, l, a, b, j, k, c, p, zo⟩
     intro eh
     have p := (((((((((p.tr ag.below).trans (ak.below s)).tr ab).tr aa).tr ad).tr ae).tr ac).tr af).tr y).tr aj
     exact zw (zr (.bool true) (xC (nQ (zT (wR (zH (nQ (zS (zE (zK (zE (zE (zK (zE (yC [(.bool false)] (hd := av) ⟨eb (by (exfalso; first | exact absurd (g.p9.1 za) za | exact yO za (g.p9.2 za) | exact absurd (g.p10.1 za) za | exact yO za (g.p10.2 za) | exact yO (g.p11 q za).1 za | exact yO (g.p11 q za).2 za | exact absurd ((e za).p9.1 za) za | exact yO za ((e za).p9.2 za) | exact absurd ((e za).p10.1 za) za | exact yO za ((e za).p10.2 za) | exact yO ((e za).p11 q za).1 za | exact yO ((e za).p11 q za).2 za)), p⟩)))))))))))))))
    intro fq
    refine zw (zG (zw (wC .u8 ((brkF (kv rows) z.1).2) 2 ?_ ?_)))
    ·intro dp
     have p := (((((((((p.tr ag.below).trans (ak.below s)).tr ab).tr aa).tr ad).tr ae).tr ac).tr af).tr y).tr aj
     exact zw (zr (.bool true) (xC (nQ (zT (wR (zH (nQ (zS (zE (zK (zE (zE (zK (zE (yC [(.bool false)] (hd := av) ⟨eb (by (exfalso; first | exact absurd (g.p9.1 za) za | exact yO za (g.p9.2 za) | exact absurd (g.p10.1 za) za | exact yO za (g.p10.2 za) | exact yO (g.p11 q za).1 za | exact yO (g.p11 q za).2 za | exact absurd ((e za).p9.1 za) za | exact yO za ((e za).p9.2 za) | exact absurd ((e za).p10.1 za) za | exact yO za ((e za).p10.2 za) | exact yO ((e za).p11 q za).1 za | exact yO ((e za).p11 q za).2 za)), p⟩)))))))))))))))
    intro fe
    have j := zA j aj
    have k := zA k aj
    have c := zA c aj
    refine zw (zr (.bool false) (xC (nQ (zF (zQ (zB (wR (zG (zG (zc (xF a4 a7 (kv rows) (.map (some ax)) (twsM (kv rows) twins) q _ j (GmAt.of k) (GmAt.of c)) ?_))))))))))
    rintro _ eo ⟨rfl, a1⟩
    refine zG (zr (I3 ((brkF (kv rows) q).1)) (zr (U8 ((brkF (kv rows) q).2)) (zH (zH (nR (zG (wC .u8 ((brkF (kv rows) q).2) 0 ?_ ?_)))))))
    ·intro ej
     have j := zA j a1
     have k := zA k a1
     have c := zA c a1
     have d := zA (zA d aj) a1
     refine zG (zw (zG (zw (zr (pt bm 0) (zw (zO 0 d rfl (zw (zG (zw (zc (yT a4 a7 (kv rows) (.map (some ax)) (twsM (kv rows) twins) z.1 q _ j (GmAt.of k) (GmAt.of c)) ?_))))))))))
     rintro _ f9 ⟨rfl, bc⟩
     refine zX (mtcF (kv rows) (twsM (kv rows) twins) z.1 q) ?_ ?_
     ·intro dn
      have p := (((((((((((p.tr ag.below).trans (ak.below s)).tr ab).tr aa).tr ad).tr ae).tr ac).tr af).tr y).tr aj).tr a1).tr bc
      exact zw (zG (zs (zs (zs (zs (zs (zw (xE (xE (nQ (zT (wR (zH (nQ (zS (zK (zE (zE (zK (zE (yC [(.bool false)] (hd := av) ⟨eb (by (exfalso; first | exact absurd (g.p9.1 za) za | exact yO za (g.p9.2 za) | exact absurd (g.p10.1 za) za | exact yO za (g.p10.2 za) | exact yO (g.p11 q za).1 za | exact yO (g.p11 q za).2 za | exact absurd ((e za).p9.1 za) za | exact yO za ((e za).p9.2 za) | exact absurd ((e za).p10.1 za) za | exact yO za ((e za).p10.2 za) | exact yO ((e za).p11 q za).1 za | exact yO ((e za).p11 q za).2 za)), p⟩)))))))))))))))))))))
     intro dm
     have j := zA j bc
     have k := zA k bc
     have c := zA c bc
     have d := zA d bc
     refine zw (zG (zw (zG (zw (zG (zw (zr (pt bm 0) (zw (zO 0 d rfl (zw (zc (yT a4 a7 (kv rows) (.map (some ax)) (twsM (kv rows) twins) q z.1 _ j (GmAt.of k) (GmAt.of c)) ?_)))))))))))
     rintro _ dv ⟨rfl, bh⟩
     refine zX (mtcF (kv rows) (twsM (kv rows) twins) q z.1) ?_ ?_
     ·intro fa
      have p := ((((((((((((p.tr ag.below).trans (ak.below s)).tr ab).tr aa).tr ad).tr ae).tr ac).tr af).tr y).tr aj).tr a1).tr bc).tr bh
      exact zw (xC (xE (nQ (zT (wR (zH (nQ (zS (zK (zE (zE (zK (zE (yC [(.bool false)] (hd := av) ⟨eb (by (exfalso; first | exact absurd (g.p9.1 za) za | exact yO za (g.p9.2 za) | exact absurd (g.p10.1 za) za | exact yO za (g.p10.2 za) | exact yO (g.p11 q za).1 za | exact yO (g.p11 q za).2 za | exact absurd ((e za).p9.1 za) za | exact yO za ((e za).p9.2 za) | exact absurd ((e za).p10.1 za) za | exact yO za ((e za).p10.2 za) | exact yO ((e za).p11 q za).1 za | exact yO ((e za).p11 q za).2 za)), p⟩))))))))))))))
     intro dg
     refine zw (xC (xE (nQ (zF (zQ (zL (zB (zW (zG (zad i 1 (zH (zU ?_))))))))))))
     have p := ((((((((((((p.tr ag.below).trans (ak.below s)).tr ab).tr aa).tr ad).tr ae).tr ac).tr af).tr y).tr aj).tr a1).tr bc).tr bh
     have a := zA (zA (zA (zA (zA (zA (zA (zA (zA (zA (zA a ab) aa) ad) ae) ac) af) y) aj) a1) bc) bh
     have j := zA j bh
     have b := zA (zA (zA (zA (zA (zA (zA (zA (zA (zA (zA (zD (zA b ag.below) ak au) ab) aa) ad) ae) ac) af) y) aj) a1) bc) bh
     have k := zA k bh
     have c := zA c bh
     have n := u.below p
     have l := r.below p
     exact zB ⟨_, zo, (i + 1), rfl, av, zk, n, l, a, b, j, k, c, p, zo⟩
    intro ec
    refine zG (zs (zs (zs (zs (zs (zs (zs (zs (zs (zs (zs (zs (xC (nQ (zF (zQ (zL (zB (zW (zG (zad i 1 (zH (zU ?_)))))))))))))))))))))))
    have p := ((((((((((p.tr ag.below).trans (ak.below s)).tr ab).tr aa).tr ad).tr ae).tr ac).tr af).tr y).tr aj).tr a1
    have a := zA (zA (zA (zA (zA (zA (zA (zA (zA a ab) aa) ad) ae) ac) af) y) aj) a1
    have j := zA j a1
    have b := zA (zA (zA (zA (zA (zA (zA (zA (zA (zD (zA b ag.below) ak au) ab) aa) ad) ae) ac) af) y) aj) a1
    have k := zA k a1
    have c := zA c a1
    have n := u.below p
    have l := r.below p
    exact zB ⟨_, zo, (i + 1), rfl, av, zk, n, l, a, b, j, k, c, p, zo⟩
   intro c9
   refine nQ (zF (xG (yD (yD (yQ (zB (wR (zc (c_awake8  _ (xJ hty p)) ?_))))))))
   rintro _ ek ⟨rfl, cj⟩
   have p := p.tr cj
   exact zH (nQ (zS (yC [(.bool true)] (hd := av) ⟨rfl, p⟩)))
  skip
  have p := p.tr co
  have l := r.below p
  refine zc (c_Twins_bad a2 a3 (kv rows) (.map none) ba twins _ a b l za zo) ?_
  rintro _ em ⟨rfl, bz⟩
  refine zG (zr (.pointer none) (zr (N6 (twI (kv rows) twins)) (zr (I6 83) (zH (zH (zH (nW (wR (zG (zr (.bool false) (nQ (zF (zQ (zB (yF (wR (zG (zr (.bool false) (nQ (zF (zQ (zB (yF (wR (zH (nQ (yI ?_)))))))))))))))))))))))))))
  have p := p.tr bz
  have a := zA a bz
  have b := zA b bz
  have n := u.below p
  have l := r.below p
  refine xN (fun m s0 w0 => ∃ (i : Nat), (m = rows.length - i) ∧ (s0.ds = []) ∧ ([0, 2, 7, 12].map s0.f = [a9, (I3 q), (pt a2 0), (N6 i)]) ∧ (Rd w0 encBrk a9 rows) ∧ (Rd w0 encTw ba twins) ∧ (w0.heap[a2]? = some (.cells [(.map (some a3)), (.map none)].toArray 69 (0, 0))) ∧ (w0.heap[a3]? = some (gmObj .i32 vBrk (kv rows))) ∧ (Below w.heap.size w w0) ∧ (i ≤ rows.length)) _ ⟨0, rfl, zk, zk, n, l, a, b, p, (Nat.zero_le _)⟩ ?_
  rintro dy fi e7 ⟨i, hm, av, ch, n, l, a, b, p, i1⟩
  refine xK ch (yF (wR (zG (zG (zln underlying22 (n).len (nLt i ((rows).length) ?_ ?_))))))
  ·intro d2
   refine nQ (zT (zQ (zB (yF (yI (wR (zG (zG ?_))))))))
   have hz := yL rows i zo; obtain ⟨o, b0⟩ := hz
   have g := pairs_ok (t := []) za (.inl rfl) (List.mem_of_getElem? b0)
   have e : twE (kv rows) twins = none → PairsP (kv rows) (twsM (kv rows) twins) o := fun h => pairs_ok za (.inr ⟨_, rfl, h⟩) (List.mem_of_getElem? b0)
   refine zEA n el22 i b0 [(I3 o.1), (I3 o.2.1), (U8 o.2.2)] rfl fun _ => (zN [(I3 0), (I3 0), (U8 0)] 26 ?_)
   intro a8 dr ai
   have au := yE (zV b) ai
   have s := ai.ge p.size
   have d := ai.here
   refine wN [(I3 o.1), (I3 o.2.1), (U8 o.2.2)] d ?_
   intro ee an
   have a := zA a ai.below
   have a := zD a an (zP a d zi)
   have d := an.here
   have b := zD (zA b ai.below) an au
   refine nR (zG (zFO 0 d rfl (zc (xF a2 a3 (kv rows) (.map none) [] o.1 _ a (GmAt.of b) (.inl ⟨rfl, rfl⟩)) ?_)))
   rintro _ ea ⟨rfl, al⟩
   have a := zA a al
   have b := zA b al
   refine zG (zr (I3 ((brkF (kv rows) o.1).1)) (zr (U8 ((brkF (kv rows) o.1).2)) (zH (zH (nR (zG (zG (zc (xF a2 a3 (kv rows) (.map none) [] ((brkF (kv rows) o.1).1) _ a (GmAt.of b) (.inl ⟨rfl, rfl⟩)) ?_))))))))
   rintro _ ft ⟨rfl, aq⟩
   have a := zA a aq
   have b := zA b aq
   have d := zA (zA d al) aq
   refine zG (zr (I3 ((brkF (kv rows) ((brkF (kv rows) o.1).1)).1)) (zr (U8 ((brkF (kv rows) ((brkF (kv rows) o.1).1)).2)) (zH (zH (nR (zG (zFO 0 d rfl (zc (c_Twin a2 a3 (kv rows) (.map none) [] o.1 _ a (GmAt.of b) (.inl ⟨rfl, rfl⟩)) ?_))))))))
   rintro _ dt ⟨rfl, ar⟩
   have a := zA a ar
   have b := zA b ar
   refine zH (nR (zG (zG (zc (xF a2 a3 (kv rows) (.map none) [] (twnF [] o.1) _ a (GmAt.of b) (.inl ⟨rfl, rfl⟩)) ?_))))
   rintro _ fl ⟨rfl, am⟩
   have d := zA (zA d ar) am
   refine zG (zr (I3 ((brkF (kv rows) (twnF [] o.1)).1)) (zr (U8 ((brkF (kv rows) (twnF [] o.1)).2)) (zH (zH (nW (wR (zG (zFO 1 d rfl (zNe .i32 ((brkF (kv rows) o.1).1) o.2.1 ?_ ?_)))))))))
   ·intro cf
    exfalso; first | exact cf g.p1 | exact cf (e za).p1
   intro fw
   refine zG (zw (zG (zw (zr (pt a8 2) (zw (zO 2 d rfl (zw (zNe .u8 ((brkF (kv rows) o.1).2) o.2.2 ?_ ?_))))))))
   ·intro b9
    exfalso; first | exact b9 g.p2 | exact b9 (e za).p2
   intro e0
   refine xC (zG (zw (zG (zw (zr (pt a8 0) (zw (zO 0 d rfl (zw (zNe .i32 ((brkF (kv rows) ((brkF (kv rows) o.1).1)).1) o.1 ?_ ?_)))))))))
   ·intro b8
    exfalso; first | exact b8 g.p3 | exact b8 (e za).p3
   intro fk
   refine xC (zG (zw (zG (zw (zG (zw (wC .u8 ((brkF (kv rows) ((brkF (kv rows) o.1).1)).2) ((brkF (kv rows) o.1).2) ?_ ?_)))))))
   ·intro cb
    exfalso; first | exact g.p4 cb | exact (e za).p4 cb
   intro f7
   refine xC (zG (zw (zG (zw (wC .u8 ((brkF (kv rows) ((brkF (kv rows) o.1).1)).2) 0 ?_ ?_)))))
   ·intro cc
    exfalso; first | exact g.p5 cc | exact (e za).p5 cc
   intro e8
   refine xC (zG (zw (zG (zw (zG (zw (zNe .u8 ((brkF (kv rows) (twnF [] o.1)).2) ((brkF (kv rows) o.1).2) ?_ ?_)))))))
   ·intro cd
    exfalso; first | exact cd g.p6 | exact cd (e za).p6
   intro dh
   have a := zA a am
   have b := zA b am
   refine xC (zG (zw (zG (zw (zG (zw (zc (c_Twin a2 a3 (kv rows) (.map none) [] (twnF [] o.1) _ a (GmAt.of b) (.inl ⟨rfl, rfl⟩)) ?_)))))))
   rintro _ fd ⟨rfl, ap⟩
   refine zw (zG (zw (zNe .i32 (twnF [] (twnF [] o.1)) (twnF [] o.1) ?_ ?_)))
   ·intro ca
    exfalso; first | exact ca g.p7 | exact ca (e za).p7
   intro dl
   have a := zA a ap
   have b := zA b ap
   refine xC (zG (zw (zG (zw (zG (zw (zG (zw (zc (c_Twin a2 a3 (kv rows) (.map none) [] ((brkF (kv rows) o.1).1) _ a (GmAt.of b) (.inl ⟨rfl, rfl⟩)) ?_)))))))))
   rintro _ dq ⟨rfl, ao⟩
   refine zw (zNe .i32 ((brkF (kv rows) (twnF [] o.1)).1) (twnF [] ((brkF (kv rows) o.1).1)) ?_ ?_)
   ·intro ce
    exfalso; first | exact ce g.p8 | exact ce (e za).p8
   intro c5
   have a := zA a ao
   have b := zA b ao
   have d := zA (zA d ap) ao
   refine xC (nQ (zF (zQ (zB (yF (wR (zG (zFO 0 d rfl (zFO 1 d rfl (zc (yT a2 a3 (kv rows) (.map none) [] o.1 o.2.1 _ a (GmAt.of b) (.inl ⟨rfl, rfl⟩)) ?_))))))))))
   rintro _ e3 ⟨rfl, ah⟩
   refine zX (mtcF (kv rows) [] o.1 o.2.1) ?_ ?_
   ·intro fp
    refine zG (wC .u8 ((brkF (kv rows) o.1).2) 1 ?_ ?_)
    ·intro f5
     have a := zA a ah
     have b := zA b ah
     have d := zA d ah
     refine zr (.bool false) (zG (zw (zG (zw (zr (pt a8 1) (zw (zO 1 d rfl (zw (zr (pt a8 0) (zw (zO 0 d rfl (zw (zc (yT a2 a3 (kv rows) (.map none) [] o.2.1 o.1 _ a (GmAt.of b) (.inl ⟨rfl, rfl⟩)) ?_)))))))))))))
     rintro _ et ⟨rfl, az⟩
     refine zX (mtcF (kv rows) [] o.2.1 o.1) ?_ ?_
     ·intro dj
      refine zw (zG (zw (wC .u8 ((brkF (kv rows) o.1).2) 2 ?_ ?_)))
      ·intro f4
       have a := zA a az
       have b := zA b az
       refine zw (zr (.bool false) (xC (nQ (zF (zQ (zB (wR (zG (zG (zc (xF a2 a3 (kv rows) (.map none) [] q _ a (GmAt.of b) (.inl ⟨rfl, rfl⟩)) ?_))))))))))
       rintro _ e5 ⟨rfl, bd⟩
       refine zG (zr (I3 ((brkF (kv rows) q).1)) (zr (U8 ((brkF (kv rows) q).2)) (zH (zH (nR (zG (wC .u8 ((brkF (kv rows) q).2) 0 ?_ ?_)))))))
       ·intro d6
        have a := zA a bd
        have b := zA b bd
        have d := zA (zA d az) bd
        refine zG (zw (zG (zw (zr (pt a8 0) (zw (zO 0 d rfl (zw (zG (zw (zc (yT a2 a3 (kv rows) (.map none) [] o.1 q _ a (GmAt.of b) (.inl ⟨rfl, rfl⟩)) ?_))))))))))
        rintro _ c0 ⟨rfl, bo⟩
        refine zX (mtcF (kv rows) [] o.1 q) ?_ ?_
        ·intro d7
         have p := (((((((((((p.tr ai.below).trans (an.below s)).tr al).tr aq).tr ar).tr am).tr ap).tr ao).tr ah).tr az).tr bd).tr bo
         exact zw (zG (zs (zs (zs (zs (zs (zw (xE (xE (nQ (zT (wR (zH (nQ (zS (zK (zE (zE (zK (zE (yC [(.bool false)] (hd := av) ⟨eb (by (exfalso; first | exact absurd (g.p9.1 za) za | exact yO za (g.p9.2 za) | exact absurd (g.p10.1 za) za | exact yO za (g.p10.2 za) | exact yO (g.p11 q za).1 za | exact yO (g.p11 q za).2 za | exact absurd ((e za).p9.1 za) za | exact yO za ((e za).p9.2 za) | exact absurd ((e za).p10.1 za) za | exact yO za ((e za).p10.2 za) | exact yO ((e za).p11 q za).1 za | exact yO ((e za).p11 q za).2 za)), p⟩)))))))))))))))))))))
        intro dz
        have a := zA a bo
        have b := zA b bo
        have d := zA d bo
        refine zw (zG (zw (zG (zw (zG (zw (zr (pt a8 0) (zw (zO 0 d rfl (zw (zc (yT a2 a3 (kv rows) (.map none) [] q o.1 _ a (GmAt.of b) (.inl ⟨rfl, rfl⟩)) ?_)))))))))))
        rintro _ cw ⟨rfl, bv⟩
        refine zX (mtcF (kv rows) [] q o.1) ?_ ?_
        ·intro cx
         have p := ((((((((((((p.tr ai.below).trans (an.below s)).tr al).tr aq).tr ar).tr am).tr ap).tr ao).tr ah).tr az).tr bd).tr bo).tr bv
         exact zw (xC (xE (nQ (zT (wR (zH (nQ (zS (zK (zE (zE (zK (zE (yC [(.bool false)] (hd := av) ⟨eb (by (exfalso; first | exact absurd (g.p9.1 za) za | exact yO za (g.p9.2 za) | exact absurd (g.p10.1 za) za | exact yO za (g.p10.2 za) | exact yO (g.p11 q za).1 za | exact yO (g.p11 q za).2 za | exact absurd ((e za).p9.1 za) za | exact yO za ((e za).p9.2 za) | exact absurd ((e za).p10.1 za) za | exact yO za ((e za).p10.2 za) | exact yO ((e za).p11 q za).1 za | exact yO ((e za).p11 q za).2 za)), p⟩))))))))))))))
        intro fy
        refine zw (xC (xE (nQ (zF (zQ (zL (zB (zW (zG (zad i 1 (zH (zU ?_))))))))))))
        have p := ((((((((((((p.tr ai.below).trans (an.below s)).tr al).tr aq).tr ar).tr am).tr ap).tr ao).tr ah).tr az).tr bd).tr bo).tr bv
        have a := zA a bv
        have b := zA b bv
        have n := u.below p
        have l := r.below p
        exact zB ⟨_, zo, (i + 1), rfl, av, zk, n, l, a, b, p, zo⟩
       intro f2
       refine zG (zs (zs (zs (zs (zs (zs (zs (zs (zs (zs (zs (zs (xC (nQ (zF (zQ (zL (zB (zW (zG (zad i 1 (zH (zU ?_)))))))))))))))))))))))
       have p := ((((((((((p.tr ai.below).trans (an.below s)).tr al).tr aq).tr ar).tr am).tr ap).tr ao).tr ah).tr az).tr bd
       have a := zA a bd
       have b := zA b bd
       have n := u.below p
       have l := r.below p
       exact zB ⟨_, zo, (i + 1), rfl, av, zk, n, l, a, b, p, zo⟩
      intro ey
      have p := (((((((((p.tr ai.below).trans (an.below s)).tr al).tr aq).tr ar).tr am).tr ap).tr ao).tr ah).tr az
      exact zw (zr (.bool true) (xC (nQ (zT (wR (zH (nQ (zS (zE (zK (zE (zE (zK (zE (yC [(.bool false)] (hd := av) ⟨eb (by (exfalso; first | exact absurd (g.p9.1 za) za | exact yO za (g.p9.2 za) | exact absurd (g.p10.1 za) za | exact yO za (g.p10.2 za) | exact yO (g.p11 q za).1 za | exact yO (g.p11 q za).2 za | exact absurd ((e za).p9.1 za) za | exact yO za ((e za).p9.2 za) | exact absurd ((e za).p10.1 za) za | exact yO za ((e za).p10.2 za) | exact yO ((e za).p11 q za).1 za | exact yO ((e za).p11 q za).2 za)), p⟩)))))))))))))))
     intro eg
     refine zw (zG (zw (wC .u8 ((brkF (kv rows) o.1).2) 2 ?_ ?_)))
     ·intro ei
      have p := (((((((((p.tr ai.below).trans (an.below s)).tr al).tr aq).tr ar).tr am).tr ap).tr ao).tr ah).tr az
      exact zw (zr (.bool true) (xC (nQ (zT (wR (zH (nQ (zS (zE (zK (zE (zE (zK (zE (yC [(.bool false)] (hd := av) ⟨eb (by (exfalso; first | exact absurd (g.p9.1 za) za | exact yO za (g.p9.2 za) | exact absurd (g.p10.1 za) za | exact yO za (g.p10.2 za) | exact yO (g.p11 q za).1 za | exact yO (g.p11 q za).2 za | exact absurd ((e za).p9.1 za) za | exact yO za ((e za).p9.2 za) | exact absurd ((e za).p10.1 za) za | exact yO za ((e za).p10.2 za) | exact yO ((e za).p11 q za).1 za | exact yO ((e za).p11 q za).2 za)), p⟩)))))))))))))))
     intro d5
     have a := zA a az
     have b := zA b az
     refine zw (zr (.bool false) (xC (nQ (zF (zQ (zB (wR (zG (zG (zc (xF a2 a3 (kv rows) (.map none) [] q _ a (GmAt.of b) (.inl ⟨rfl, rfl⟩)) ?_))))))))))
     rintro _ fz ⟨rfl, bb⟩
     refine zG (zr (I3 ((brkF (kv rows) q).1)) (zr (U8 ((brkF (kv rows) q).2)) (zH (zH (nR (zG (wC .u8 ((brkF (kv rows) q).2) 0 ?_ ?_)))))))
     ·intro el
      have a := zA a bb
      have b := zA b bb
      have d := zA (zA d az) bb
      refine zG (zw (zG (zw (zr (pt a8 0) (zw (zO 0 d rfl (zw (zG (zw (zc (yT a2 a3 (kv rows) (.map none) [] o.1 q _ a (GmAt.of b) (.inl ⟨rfl, rfl⟩)) ?_))))))))))
      rintro _ e9 ⟨rfl, bn⟩
      refine zX (mtcF (kv rows) [] o.1 q) ?_ ?_
      ·intro fb
       have p := (((((((((((p.tr ai.below).trans (an.below s)).tr al).tr aq).tr ar).tr am).tr ap).tr ao).tr ah).tr az).tr bb).tr bn
       exact zw (zG (zs (zs (zs (zs (zs (zw (xE (xE (nQ (zT (wR (zH (nQ (zS (zK (zE (zE (zK (zE (yC [(.bool false)] (hd := av) ⟨eb (by (exfalso; first | exact absurd (g.p9.1 za) za | exact yO za (g.p9.2 za) | exact absurd (g.p10.1 za) za | exact yO za (g.p10.2 za) | exact yO (g.p11 q za).1 za | exact yO (g.p11 q za).2 za | exact absurd ((e za).p9.1 za) za | exact yO za ((e za).p9.2 za) | exact absurd ((e za).p10.1 za) za | exact yO za ((e za).p10.2 za) | exact yO ((e za).p11 q za).1 za | exact yO ((e za).p11 q za).2 za)), p⟩)))))))))))))))))))))
      intro c2
      have a := zA a bn
      have b := zA b bn
      have d := zA d bn
      refine zw (zG (zw (zG (zw (zG (zw (zr (pt a8 0) (zw (zO 0 d rfl (zw (zc (yT a2 a3 (kv rows) (.map none) [] q o.1 _ a (GmAt.of b) (.inl ⟨rfl, rfl⟩)) ?_)))))))))))
      rintro _ fs ⟨rfl, bs⟩
      refine zX (mtcF (kv rows) [] q o.1) ?_ ?_
      ·intro f8
       have p := ((((((((((((p.tr ai.below).trans (an.below s)).tr al).tr aq).tr ar).tr am).tr ap).tr ao).tr ah).tr az).tr bb).tr bn).tr bs
       exact zw (xC (xE (nQ (zT (wR (zH (nQ (zS (zK (zE (zE (zK (zE (yC [(.bool false)] (hd := av) ⟨eb (by (exfalso; first | exact absurd (g.p9.1 za) za | exact yO za (g.p9.2 za) | exact absurd (g.p10.1 za) za | exact yO za (g.p10.2 za) | exact yO (g.p11 q za).1 za | exact yO (g.p11 q za).2 za | exact absurd ((e za).p9.1 za) za | exact yO za ((e za).p9.2 za) | exact absurd ((e za).p10.1 za) za | exact yO za ((e za).p10.2 za) | exact yO ((e za).p11 q za).1 za | exact yO ((e za).p11 q za).2 za)), p⟩))))))))))))))
      intro fc
      refine zw (xC (xE (nQ (zF (zQ (zL (zB (zW (zG (zad i 1 (zH (zU ?_))))))))))))
      have p := ((((((((((((p.tr ai.below).trans (an.below s)).tr al).tr aq).tr ar).tr am).tr ap).tr ao).tr ah).tr az).tr bb).tr bn).tr bs
      have a := zA a bs
      have b := zA b bs
      have n := u.below p
      have l := r.below p
      exact zB ⟨_, zo, (i + 1), rfl, av, zk, n, l, a, b, p, zo⟩
     intro e2
     refine zG (zs (zs (zs (zs (zs (zs (zs (zs (zs (zs (zs (zs (xC (nQ (zF (zQ (zL (zB (zW (zG (zad i 1 (zH (zU ?_)))))))))))))))))))))))
     have p := ((((((((((p.tr ai.below).trans (an.below s)).tr al).tr aq).tr ar).tr am).tr ap).tr ao).tr ah).tr az).tr bb
     have a := zA a bb
     have b := zA b bb
     have n := u.below p
     have l := r.below p
     exact zB ⟨_, zo, (i + 1), rfl, av, zk, n, l, a, b, p, zo⟩
    intro er
    have p := ((((((((p.tr ai.below).trans (an.below s)).tr al).tr aq).tr ar).tr am).tr ap).tr ao).tr ah
    exact zr (.bool true) (zG (zs (zs (zs (zs (zs (zs (zs (zs (zs (xE (nQ (zT (wR (zH (nQ (zS (zE (zK (zE (zE (zK (zE (yC [(.bool false)] (hd := av) ⟨eb (by (exfalso; first | exact absurd (g.p9.1 za) za | exact yO za (g.p9.2 za) | exact absurd (g.p10.1 za) za | exact yO za (g.p10.2 za) | exact yO (g.p11 q za).1 za | exact yO (g.p11 q za).2 za | exact absurd ((e za).p9.1 za) za | exact yO za ((e za).p9.2 za) | exact absurd ((e za).p10.1 za) za | exact yO za ((e za).p10.2 za) | exact yO ((e za).p11 q za).1 za | exact yO ((e za).p11 q za).2 za)), p⟩))))))))))))))))))))))))
   intro da
   refine zG (wC .u8 ((brkF (kv rows) o.1).2) 1 ?_ ?_)
   ·intro fj
    have p := ((((((((p.tr ai.below).trans (an.below s)).tr al).tr aq).tr ar).tr am).tr ap).tr ao).tr ah
    exact zr (.bool true) (zG (zs (zs (zs (zs (zs (zs (zs (zs (zs (xE (nQ (zT (wR (zH (nQ (zS (zE (zK (zE (zE (zK (zE (yC [(.bool false)] (hd := av) ⟨eb (by (exfalso; first | exact absurd (g.p9.1 za) za | exact yO za (g.p9.2 za) | exact absurd (g.p10.1 za) za | exact yO za (g.p10.2 za) | exact yO (g.p11 q za).1 za | exact yO (g.p11 q za).2 za | exact absurd ((e za).p9.1 za) za | exact yO za ((e za).p9.2 za) | exact absurd ((e za).p10.1 za) za | exact yO za ((e za).p10.2 za) | exact yO ((e za).p11 q za).1 za | exact yO ((e za).p11 q za).2 za)), p⟩))))))))))))))))))))))))
   intro ez
   have a := zA a ah
   have b := zA b ah
   have d := zA d ah
   refine zr (.bool false) (zG (zw (zG (zw (zr (pt a8 1) (zw (zO 1 d rfl (zw (zr (pt a8 0) (zw (zO 0 d rfl (zw (zc (yT a2 a3 (kv rows) (.map none) [] o.2.1 o.1 _ a (GmAt.of b) (.inl ⟨rfl, rfl⟩)) ?_)))))))))))))
   rintro _ fv ⟨rfl, ay⟩
   refine zX (mtcF (kv rows) [] o.2.1 o.1) ?_ ?_
   ·intro eu
    refine zw (zG (zw (wC .u8 ((brkF (kv rows) o.1).2) 2 ?_ ?_)))
    ·intro d1
     have a := zA a ay
     have b := zA b ay
     refine zw (zr (.bool false) (xC (nQ (zF (zQ (zB (wR (zG (zG (zc (xF a2 a3 (kv rows) (.map none) [] q _ a (GmAt.of b) (.inl ⟨rfl, rfl⟩)) ?_))))))))))
     rintro _ d3 ⟨rfl, be⟩
     refine zG (zr (I3 ((brkF (kv rows) q).1)) (zr (U8 ((brkF (kv rows) q).2)) (zH (zH (nR (zG (wC .u8 ((brkF (kv rows) q).2) 0 ?_ ?_)))))))
     ·intro f0
      have a := zA a be
      have b := zA b be
      have d := zA (zA d ay) be
      refine zG (zw (zG (zw (zr (pt a8 0) (zw (zO 0 d rfl (zw (zG (zw (zc (yT a2 a3 (kv rows) (.map none) [] o.1 q _ a (GmAt.of b) (.inl ⟨rfl, rfl⟩)) ?_))))))))))
      rintro _ de ⟨rfl, bp⟩
      refine zX (mtcF (kv rows) [] o.1 q) ?_ ?_
      ·intro es
       have p := (((((((((((p.tr ai.below).trans (an.below s)).tr al).tr aq).tr ar).tr am).tr ap).tr ao).tr ah).tr ay).tr be).tr bp
       exact zw (zG (zs (zs (zs (zs (zs (zw (xE (xE (nQ (zT (wR (zH (nQ (zS (zK (zE (zE (zK (zE (yC [(.bool false)] (hd := av) ⟨eb (by (exfalso; first | exact absurd (g.p9.1 za) za | exact yO za (g.p9.2 za) | exact absurd (g.p10.1 za) za | exact yO za (g.p10.2 za) | exact yO (g.p11 q za).1 za | exact yO (g.p11 q za).2 za | exact absurd ((e za).p9.1 za) za | exact yO za ((e za).p9.2 za) | exact absurd ((e za).p10.1 za) za | exact yO za ((e za).p10.2 za) | exact yO ((e za).p11 q za).1 za | exact yO ((e za).p11 q za).2 za)), p⟩)))))))))))))))))))))
      intro dc
      have a := zA a bp
      have b := zA b bp
      have d := zA d bp
      refine zw (zG (zw (zG (zw (zG (zw (zr (pt a8 0) (zw (zO 0 d rfl (zw (zc (yT a2 a3 (kv rows) (.map none) [] q o.1 _ a (GmAt.of b) (.inl ⟨rfl, rfl⟩)) ?_)))))))))))
      rintro _ e6 ⟨rfl, bw⟩
      refine zX (mtcF (kv rows) [] q o.1) ?_ ?_
      ·intro df
       have p := ((((((((((((p.tr ai.below).trans (an.below s)).tr al).tr aq).tr ar).tr am).tr ap).tr ao).tr ah).tr ay).tr be).tr bp).tr bw
       exact zw (xC (xE (nQ (zT (wR (zH (nQ (zS (zK (zE (zE (zK (zE (yC [(.bool false)] (hd := av) ⟨eb (by (exfalso; first | exact absurd (g.p9.1 za) za | exact yO za (g.p9.2 za) | exact absurd (g.p10.1 za) za | exact yO za (g.p10.2 za) | exact yO (g.p11 q za).1 za | exact yO (g.p11 q za).2 za | exact absurd ((e za).p9.1 za) za | exact yO za ((e za).p9.2 za) | exact absurd ((e za).p10.1 za) za | exact yO za ((e za).p10.2 za) | exact yO ((e za).p11 q za).1 za | exact yO ((e za).p11 q za).2 za)), p⟩))))))))))))))
      intro c3
      refine zw (xC (xE (nQ (zF (zQ (zL (zB (zW (zG (zad i 1 (zH (zU ?_))))))))))))
      have p := ((((((((((((p.tr ai.below).trans (an.below s)).tr al).tr aq).tr ar).tr am).tr ap).tr ao).tr ah).tr ay).tr be).tr bp).tr bw
      have a := zA a bw
      have b := zA b bw
      have n := u.below p
      have l := r.below p
      exact zB ⟨_, zo, (i + 1), rfl, av, zk, n, l, a, b, p, zo⟩
     intro d8
     refine zG (zs (zs (zs (zs (zs (zs (zs (zs (zs (zs (zs (zs (xC (nQ (zF (zQ (zL (zB (zW (zG (zad i 1 (zH (zU ?_)))))))))))))))))))))))
     have p := ((((((((((p.tr ai.below).trans (an.below s)).tr al).tr aq).tr ar).tr am).tr ap).tr ao).tr ah).tr ay).tr be
     have a := zA a be
     have b := zA b be
     have n := u.below p
     have l := r.below p
     exact zB ⟨_, zo, (i + 1), rfl, av, zk, n, l, a, b, p, zo⟩
    intro c4
    have p := (((((((((p.tr ai.below).trans (an.below s)).tr al).tr aq).tr ar).tr am).tr ap).tr ao).tr ah).tr ay
    exact zw (zr (.bool true) (xC (nQ (zT (wR (zH (nQ (zS (zE (zK (zE (zE (zK (zE (yC [(.bool false)] (hd := av) ⟨eb (by (exfalso; first | exact absurd (g.p9.1 za) za | exact yO za (g.p9.2 za) | exact absurd (g.p10.1 za) za | exact yO za (g.p10.2 za) | exact yO (g.p11 q za).1 za | exact yO (g.p11 q za).2 za | exact absurd ((e za).p9.1 za) za | exact yO za ((e za).p9.2 za) | exact absurd ((e za).p10.1 za) za | exact yO za ((e za).p10.2 za) | exact yO ((e za).p11 q za).1 za | exact yO ((e za).p11 q za).2 za)), p⟩)))))))))))))))
   intro fg
   refine zw (zG (zw (wC .u8 ((brkF (kv rows) o.1).2) 2 ?_ ?_)))
   ·intro f3
    have p := (((((((((p.tr ai.below).trans (an.below s)).tr al).tr aq).tr ar).tr am).tr ap).tr ao).tr ah).tr ay
    exact zw (zr (.bool true) (xC (nQ (zT (wR (zH (nQ (zS (zE (zK (zE (zE (zK (zE (yC [(.bool false)] (hd := av) ⟨eb (by (exfalso; first | exact absurd (g.p9.1 za) za | exact yO za (g.p9.2 za) | exact absurd (g.p10.1 za) za | exact yO za (g.p10.2 za) | exact yO (g.p11 q za).1 za | exact yO (g.p11 q za).2 za | exact absurd ((e za).p9.1 za) za | exact yO za ((e za).p9.2 za) | exact absurd ((e za).p10.1 za) za | exact yO za ((e za).p10.2 za) | exact yO ((e za).p11 q za).1 za | exact yO ((e za).p11 q za).2 za)), p⟩)))))))))))))))
   intro c6
   have a := zA a ay
   have b := zA b ay
   refine zw (zr (.bool false) (xC (nQ (zF (zQ (zB (wR (zG (zG (zc (xF a2 a3 (kv rows) (.map none) [] q _ a (GmAt.of b) (.inl ⟨rfl, rfl⟩)) ?_))))))))))
   rintro _ d4 ⟨rfl, bg⟩
   refine zG (zr (I3 ((brkF (kv rows) q).1)) (zr (U8 ((brkF (kv rows) q).2)) (zH (zH (nR (zG (wC .u8 ((brkF (kv rows) q).2) 0 ?_ ?_)))))))
   ·intro db
    have a := zA a bg
    have b := zA b bg
    have d := zA (zA d ay) bg
    refine zG (zw (zG (zw (zr (pt a8 0) (zw (zO 0 d rfl (zw (zG (zw (zc (yT a2 a3 (kv rows) (.map none) [] o.1 q _ a (GmAt.of b) (.inl ⟨rfl, rfl⟩)) ?_))))))))))
    rintro _ dw ⟨rfl, bq⟩
    refine zX (mtcF (kv rows) [] o.1 q) ?_ ?_
    ·intro c1
     have p := (((((((((((p.tr ai.below).trans (an.below s)).tr al).tr aq).tr ar).tr am).tr ap).tr ao).tr ah).tr ay).tr bg).tr bq
     exact zw (zG (zs (zs (zs (zs (zs (zw (xE (xE (nQ (zT (wR (zH (nQ (zS (zK (zE (zE (zK (zE (yC [(.bool false)] (hd := av) ⟨eb (by (exfalso; first | exact absurd (g.p9.1 za) za | exact yO za (g.p9.2 za) | exact absurd (g.p10.1 za) za | exact yO za (g.p10.2 za) | exact yO (g.p11 q za).1 za | exact yO (g.p11 q za).2 za | exact absurd ((e za).p9.1 za) za | exact yO za ((e za).p9.2 za) | exact absurd ((e za).p10.1 za) za | exact yO za ((e za).p10.2 za) | exact yO ((e za).p11 q za).1 za | exact yO ((e za).p11 q za).2 za)), p⟩)))))))))))))))))))))
    intro d0
    have a := zA a bq
    have b := zA b bq
    have d := zA d bq
    refine zw (zG (zw (zG (zw (zG (zw (zr (pt a8 0) (zw (zO 0 d rfl (zw (zc (yT a2 a3 (kv rows) (.map none) [] q o.1 _ a (GmAt.of b) (.inl ⟨rfl, rfl⟩)) ?_)))))))))))
    rintro _ ev ⟨rfl, bt⟩
    refine zX (mtcF (kv rows) [] q o.1) ?_ ?_
    ·intro ed
     have p := ((((((((((((p.tr ai.below).trans (an.below s)).tr al).tr aq).tr ar).tr am).tr ap).tr ao).tr ah).tr ay).tr bg).tr bq).tr bt
     exact zw (xC (xE (nQ (zT (wR (zH (nQ (zS (zK (zE (zE (zK (zE (yC [(.bool false)] (hd := av) ⟨eb (by (exfalso; first | exact absurd (g.p9.1 za) za | exact yO za (g.p9.2 za) | exact absurd (g.p10.1 za) za | exact yO za (g.p10.2 za) | exact yO (g.p11 q za).1 za | exact yO (g.p11 q za).2 za | exact absurd ((e za).p9.1 za) za | exact yO za ((e za).p9.2 za) | exact absurd ((e za).p10.1 za) za | exact yO za ((e za).p10.2 za) | exact yO ((e za).p11 q za).1 za | exact yO ((e za).p11 q za).2 za)), p⟩))))))))))))))
    intro dk
    refine zw (xC (xE (nQ (zF (zQ (zL (zB (zW (zG (zad i 1 (zH (zU ?_))))))))))))
    have p := ((((((((((((p.tr ai.below).trans (an.below s)).tr al).tr aq).tr ar).tr am).tr ap).tr ao).tr ah).tr ay).tr bg).tr bq).tr bt
    have a := zA a bt
    have b := zA b bt
    have n := u.below p
    have l := r.below p
    exact zB ⟨_, zo, (i + 1), rfl, av, zk, n, l, a, b, p, zo⟩
   intro f1
   refine zG (zs (zs (zs (zs (zs (zs (zs (zs (zs (zs (zs (zs (xC (nQ (zF (zQ (zL (zB (zW (zG (zad i 1 (zH (zU ?_)))))))))))))))))))))))
   have p := ((((((((((p.tr ai.below).trans (an.below s)).tr al).tr aq).tr ar).tr am).tr ap).tr ao).tr ah).tr ay).tr bg
   have a := zA a bg
   have b := zA b bg
   have n := u.below p
   have l := r.below p
   exact zB ⟨_, zo, (i + 1), rfl, av, zk, n, l, a, b, p, zo⟩
  intro fo
  refine nQ (zF (xG (yD (yD (yQ (zB (wR (zc (c_awake8  _ (xJ hty p)) ?_))))))))
  rintro _ ex ⟨rfl, cg⟩
  have p := p.tr cg
  exact zH (nQ (zS (yC [(.bool true)] (hd := av) ⟨rfl, p⟩)))
 skip
 refine zc (c_New_bad a9 rows _ n za zo) ?_
 rintro _ c7 ⟨rfl, ck⟩
 refine zG (zr (.pointer none) (zr (N6 (newI rows)) (zr (I6 (newE rows)) (zH (zH (zH (nW (wR (zG (zNe .i64 (newE rows) 0 ?_ ?_))))))))))
 ·intro fu
  have p := p.tr ck
  refine nQ (zT (wR (zc (c_awake8  _ (xJ hty p)) ?_)))
  rintro _ fx ⟨rfl, ci⟩
  have p := p.tr ci
  exact zH (nQ (zS (zE (yC [(.bool true)] ⟨rfl, p⟩))))
 intro cq
 exfalso; exact newE_ne za cq
end Go.Proofs.YtddnhlobnembaaaGreatDoor
end

/- === FKbe === -/
section
/- FKbe: how long a slice that is handed in can be. My own text. -/
namespace Go.FK
open Go Go.RowKit Go.ChangeShapes Go.WideShapes
theorem open_len {P : Program} {t e b0 base : Nat} {H : Type} {en : TypeId × Value → H} {w : World} {spare : Nat → Bool} {held : Bool} {v : Value} {d : DataW H} {ps : List MemPlace} {α : Type} {enc : α → List Value} {xs : List α}
  (ht : P.underlying t = some (.slice e)) (hok : Value.okWide P w .any b0 t v) (h : DataW.Trod en P w base spare held t v d ps) (hr : Rd w enc v xs) : xs.length ≤ 9223372036854775807 := by
 obtain ⟨a, len, cap, rfl⟩ := okWide_slice ht hok
 obtain ⟨f, i, c, _⟩ := hr
 injection c with _ e3 _
 subst e3
 obtain ⟨fuel, hf⟩ := h
 rcases DataW.trod_slice ht hf with ⟨b, _⟩ | ⟨a', len', cap', elems, rest, m, _, b, _, hb, hl, hm, _⟩
 ·simp [Value.cells] at b
  rw [b.2.1]; simp
 ·simp [Value.cells] at b
  have g : cap' ≤ 9223372036854775807 := hm
  omega
end Go.FK
end

/- === Wcb9 === -/
section
/- Walks, written by my program walk.py out of the specification cb9.py: each theorem says what one function returns and that it leaves memory as it was. -/
namespace Go.Proofs.YtddnhlobnembaaaGreatDoor
open Go Go.RowKit Go.FK _root_.Go.Proofs.Tryz
set_option maxHeartbeats 4000000
set_option maxRecDepth 100000
set_option maxRecDepth 100000
theorem kn_ne {α : Type} {o : Option α} {x : α} (h : o = some x) : o ≠ none := by rw [h]; exact Option.some_ne_none x
theorem kn_a : newB (List.take 1 ([(40, 41, 1), (41, 40, 2)] : List Brk)) = some (0, 82) := by kernel_rfl
theorem kn_b : newB ([(40, 40, 1)] : List Brk) = some (0, 80) := by kernel_rfl
theorem kn_c : newB ([(40, 41, 1), (40, 41, 1)] : List Brk) = some (1, 81) := by kernel_rfl
theorem kn_all : newB ([(40, 41, 1), (41, 40, 2), (9001, 9002, 1), (9002, 9001, 2), (12296, 12297, 1), (12297, 12296, 2)] : List Brk) = none := by kernel_rfl
theorem kn_t1 : (parF ([48, 48, 50, 56, 59, 32, 48, 48, 50, 57, 59, 32, 111, 32, 35, 32, 76, 69, 70, 84, 10, 48, 48, 50, 57, 59, 48, 48, 50, 56, 59, 99] : List UInt8)).2.2 = 0 := by kernel_rfl
theorem kn_t2 : parF ([48, 48, 50, 56, 59, 32, 48, 48, 50, 57, 10] : List UInt8) = (([], []), 1, 80) := by kernel_rfl
theorem kn_t3 : parF ([35, 32, 120, 10, 48, 48, 50, 56, 59, 32, 48, 48, 50, 57, 59, 32, 120, 10] : List UInt8) = (([], []), 2, 51) := by kernel_rfl
theorem kn_w1 : twE (kv ([(40, 41, 1), (41, 40, 2), (9001, 9002, 1), (9002, 9001, 2), (12296, 12297, 1), (12297, 12296, 2)] : List Brk)) ([(9001, 12296), (9002, 12297)] : List (Int × Int)) = none := by kernel_rfl
theorem kn_w2 : twE (kv ([(40, 41, 1), (41, 40, 2), (9001, 9002, 1), (9002, 9001, 2), (12296, 12297, 1), (12297, 12296, 2)] : List Brk)) ([(9001, 12296)] : List (Int × Int)) = some 0 := by kernel_rfl
theorem c_furrowlaw08_BracketsKnown (w : World) (hty : w.cell? ⟨0, 0, none⟩ = some (.iface 180 (.agg #[.pointer (some ⟨7, 39, none⟩)]))) :
  Calls Tryz.prog 9 #[] w (Ret fun v w' => v = (.bool true) ∧ Below w.heap.size w w') := by
 refine wG 204 func9 rfl ?_
 have a := Below.refl w.heap.size w
 refine wR (zH (nR (zc (c_round  _ ) ?_)))
 rintro q1 w2 ⟨_, rfl, ad, fj⟩
 have ad := ad.base a.size
 refine L_slto el22 q1 ([(40, 41, 1), (41, 40, 2)] : List Brk) 1 ad zj (by first | omega | decide | (simp; done)) zk ⟨.i64, zk⟩ ?_
 intro v5 em
 refine zc (calls_as (c_New_bad v5 (List.take 1 ([(40, 41, 1), (41, 40, 2)] : List Brk)) _ em (by first | omega | decide | (simp; done)) (by exact kn_ne kn_a)) (zk : _ = fun v w' => v = (.tuple #[(.pointer none), (I6 0), (I6 82)]) ∧ Below w2.heap.size w2 w')) ?_
 rintro _ w7 ⟨rfl, d8⟩
 refine zG (zr (.pointer none) (zr (I6 0) (zr (I6 82) (zH (zH (zH (nR (zr (Value.agg #[(I3 40), (I3 40), (U8 1)]) (zM 1 [(I3 40), (I3 40), (U8 1)] 26 ?_)))))))))
 intro dx dd bx
 have a := (a.tr fj).tr d8
 have db := bx.ge a.size
 have z : Row dd w.heap.size 26 3 encBrk (.slice (some ⟨dx, 0, none⟩) 1 1) ([(40, 40, 1)] : List (Int × Int × Int)) := Row.made ([(40, 40, 1)] : List (Int × Int × Int)) bx db rfl rfl (by first | decide | (simp; done))
 refine zc (calls_as (c_New_bad (.slice (some ⟨dx, 0, none⟩) 1 1) ([(40, 40, 1)] : List (Int × Int × Int)) _ z.rd (by first | omega | decide | (simp; done)) (by exact kn_ne kn_b)) (zk : _ = fun v w' => v = (.tuple #[(.pointer none), (I6 0), (I6 80)]) ∧ Below dd.heap.size dd w')) ?_
 rintro _ gz ⟨rfl, cb⟩
 refine zG (zr (.pointer none) (zr (I6 0) (zr (I6 80) (zH (zH (zH (nW ?_)))))))
 have a := (a.tr bx.below).tr cb
 refine W_invL 6 15 9 [43, 44, 45, 46, 47, 48] [(fun v A => Row A w.heap.size 26 3 encBrk v ([(40, 41, 1), (41, 40, 2)] : List Brk)), (fun v A => PtAt v (encBrk ((40, 41, 1) : Brk)) A), (fun v _ => v = (Value.agg #[(I3 40), (I3 41), (U8 1)])), (fun v A => Row A w.heap.size 26 3 encBrk v ([(40, 41, 1), (41, 40, 2)] : List Brk)), (fun v A => PtAt v (encBrk ((40, 41, 1) : Brk)) A), (fun v _ => v = (Value.agg #[(I3 40), (I3 41), (U8 1)]))] zk zk zk zk zk zk zk zk ⟨(fun v A B h a => Row.below h a), (fun v A B h a => PtAt.below h a), (fun v A B h a => h), (fun v A B h a => Row.below h a), (fun v A B h a => PtAt.below h a), (fun v A B h a => h), trivial⟩ ?_ ?_
 ·intro g2 m
  refine ⟨?_, ?_, ?_, ?_, ?_, ?_, trivial⟩
  ·skip
   intro gx ex e9 fy fw ga Z24 d3
   have es := m.trans (e9.mono m.size)
   have n := Below.refl ex.heap.size ex
   refine zc (c_round  _ ) ?_
   rintro gv g1 ⟨_, rfl, bt, dy⟩
   have a := a.tr es
   have bt := bt.base a.size
   replace n := n.trans (dy.mono n.size)
   refine zU ?_
   exact ⟨rfl, d3 _ _ n rfl (fun t ht => (yK ht)) (by show Row _ _ _ _ _ (Fm.f _ _) _; rw [show dOf _ 0 = 43 from rfl, put_here]; exact bt)⟩
  ·skip
   intro c1 df e0 f9 f7 dq Z37 ez
   have gk := m.trans (e0.mono m.size)
   obtain ⟨c0, a5⟩ : ∃ v, c1.f 43 = v := ⟨_, rfl⟩
   have ef : Row df w.heap.size 26 3 encBrk c0 ([(40, 41, 1), (41, 40, 2)] : List Brk) := by have q := dq 0 zk; rw [show dOf _ 0 = 43 from rfl, a5] at q; exact q
   have e2 : (c1.put (some 43) c0) = c1 := by rw [yM a5]
   rw [← e2]
   have n := Below.refl df.heap.size df
   have d7 : ([(40, 41, 1), (41, 40, 2)] : List Brk)[0]? = some (((40, 41, 1) : Brk)) := rfl
   have hz := (ef.rd).at (k := 3) zj d7
   obtain ⟨e4, b9, ev, d2⟩ := hz
   refine L_ixaddr (k := .i64) c0 0 _ e4 b9 el22 ev (by first | omega | decide | (simp; done)) zk zk (zU ?_)
   exact ⟨rfl, ez _ _ n (xB.trans (congrArg Fm.ds e2)) (fun t ht => (yK ht).trans (congrArg (fun q => q.f t) e2)) (show PtAt (Fm.f _ _) _ _ from ⟨_, _, (zk : (_ : Value) = (pt e4 (b9 + 0 * 3))), d2⟩)⟩
  ·skip
   intro cy c8 dt gh fx ei Z54 fa
   have f3 := m.trans (dt.mono m.size)
   obtain ⟨e5, b8, bv, ew⟩ := (show PtAt (cy.f 44) _ c8 from ei 1 zk)
   have e2 : (cy.put (some 44) (pt e5 b8)) = cy := by rw [yM bv]
   rw [← e2]
   have n := Below.refl c8.heap.size c8
   refine L_loadA e5 b8 [(I3 40), (I3 41), (U8 1)] zk zk zk ew (zU ?_)
   exact ⟨rfl, fa _ _ n (xB.trans (congrArg Fm.ds e2)) (fun t ht => (yK ht).trans (congrArg (fun q => q.f t) e2)) (show Fm.f _ _ = _ from by kernel_rfl)⟩
  ·skip
   intro gy e8 ey fo fq gr Z66 ej
   have er := m.trans (ey.mono m.size)
   have n := Below.refl e8.heap.size e8
   refine zc (c_round  _ ) ?_
   rintro gw g0 ⟨_, rfl, bn, d9⟩
   have a := a.tr er
   have bn := bn.base a.size
   replace n := n.trans (d9.mono n.size)
   refine zU ?_
   exact ⟨rfl, ej _ _ n rfl (fun t ht => (yK ht)) (by show Row _ _ _ _ _ (Fm.f _ _) _; rw [show dOf _ 3 = 46 from rfl, put_here]; exact bn)⟩
  ·skip
   intro dk da en fs gp eu Z79 e7
   have f4 := m.trans (en.mono m.size)
   obtain ⟨dl, a7⟩ : ∃ v, dk.f 46 = v := ⟨_, rfl⟩
   have d1 : Row da w.heap.size 26 3 encBrk dl ([(40, 41, 1), (41, 40, 2)] : List Brk) := by have q := eu 3 zk; rw [show dOf _ 3 = 46 from rfl, a7] at q; exact q
   have e2 : (dk.put (some 46) dl) = dk := by rw [yM a7]
   rw [← e2]
   have n := Below.refl da.heap.size da
   have ee : ([(40, 41, 1), (41, 40, 2)] : List Brk)[0]? = some (((40, 41, 1) : Brk)) := rfl
   have hz := (d1.rd).at (k := 3) zj ee
   obtain ⟨e1, b6, d4, fd⟩ := hz
   refine L_ixaddr (k := .i64) dl 0 _ e1 b6 el22 d4 (by first | omega | decide | (simp; done)) zk zk (zU ?_)
   exact ⟨rfl, e7 _ _ n (xB.trans (congrArg Fm.ds e2)) (fun t ht => (yK ht).trans (congrArg (fun q => q.f t) e2)) (show PtAt (Fm.f _ _) _ _ from ⟨_, _, (zk : (_ : Value) = (pt e1 (b6 + 0 * 3))), fd⟩)⟩
  skip
  intro c9 dg et gf gu ec Z96 e6
  have ft := m.trans (et.mono m.size)
  obtain ⟨e3, b0, bw, di⟩ := (show PtAt (c9.f 47) _ dg from ec 4 zk)
  have e2 : (c9.put (some 47) (pt e3 b0)) = c9 := by rw [yM bw]
  rw [← e2]
  have n := Below.refl dg.heap.size dg
  refine L_loadA e3 b0 [(I3 40), (I3 41), (U8 1)] zk zk zk di (zU ?_)
  exact ⟨rfl, e6 _ _ n (xB.trans (congrArg Fm.ds e2)) (fun t ht => (yK ht).trans (congrArg (fun q => q.f t) e2)) (show Fm.f _ _ = _ from by kernel_rfl)⟩
 skip
 intro f6 a6 bu b5 cz dn c5 ax
 have bq := b5.trans (cz.mono b5.size)
 obtain ⟨cv, a5⟩ : ∃ v, a6.f 43 = v := ⟨_, rfl⟩
 have ah : Row bu w.heap.size 26 3 encBrk cv ([(40, 41, 1), (41, 40, 2)] : List Brk) := by have q := ax 0 zo; rw [show dOf _ 0 = 43 from rfl, a5] at q; exact q
 obtain ⟨d6, cm, bv, fh⟩ := (show PtAt (a6.f 44) _ bu from ax 1 zo)
 have cp : a6.f 45 = (Value.agg #[(I3 40), (I3 41), (U8 1)]) := ax 2 zo
 obtain ⟨co, a7⟩ : ∃ v, a6.f 46 = v := ⟨_, rfl⟩
 have ap : Row bu w.heap.size 26 3 encBrk co ([(40, 41, 1), (41, 40, 2)] : List Brk) := by have q := ax 3 zo; rw [show dOf _ 3 = 46 from rfl, a7] at q; exact q
 obtain ⟨dw, ce, bw, ff⟩ := (show PtAt (a6.f 47) _ bu from ax 4 zo)
 have cn : a6.f 48 = (Value.agg #[(I3 40), (I3 41), (U8 1)]) := ax 5 zo
 have cw := frm_eq [43, 44, 45, 46, 47, 48] [cv, (pt d6 cm), (Value.agg #[(I3 40), (I3 41), (U8 1)]), co, (pt dw ce), (Value.agg #[(I3 40), (I3 41), (U8 1)])] rfl dn c5 ⟨a5, bv, cp, a7, bw, cn, trivial⟩
 rw [cw]
 clear cw a5 bv cp a7 bw cn
 refine I_all1 6 zk (I_op 6 rfl ?_ rfl)
 refine zM 2 [(I3 40), (I3 41), (U8 1), (I3 40), (I3 41), (U8 1)] 26 ?_
 intro ct b2 u
 have a := a.tr bq
 have ck := u.ge a.size
 have l : Row b2 w.heap.size 26 3 encBrk (.slice (some ⟨ct, 0, none⟩) 2 2) ([(40, 41, 1), (40, 41, 1)] : List (Int × Int × Int)) := Row.made ([(40, 41, 1), (40, 41, 1)] : List (Int × Int × Int)) u ck rfl rfl (by first | decide | (simp; done))
 refine zU ?_
 refine ⟨rfl, I_all1 7 zk (I_op 7 rfl ?_ rfl)⟩
 refine zc (calls_as (c_New_bad (.slice (some ⟨ct, 0, none⟩) 2 2) ([(40, 41, 1), (40, 41, 1)] : List (Int × Int × Int)) _ l.rd (by first | omega | decide | (simp; done)) (by exact kn_ne kn_c)) (zk : _ = fun v w' => v = (.tuple #[(.pointer none), (I6 1), (I6 81)]) ∧ Below b2.heap.size b2 w')) ?_
 rintro _ fz ⟨rfl, aq⟩
 refine zU ?_
 refine ⟨rfl, ip 8 rfl (.tuple #[(.pointer none), (I6 1), (I6 81)]) (ip 9 rfl (.pointer none) (ip 10 rfl (I6 1) (ip 11 rfl (I6 81) (ip 12 rfl (.pointer none) (ip 13 rfl (I6 1) (ip 14 rfl (I6 81) (I_done zk ?_)))))))⟩
 have a := (a.tr u.below).tr aq
 refine zB (yF (wR (zG (zr (.bool false) (zG (zw (zG (zw (zr (.bool false) (xC (zG (zw (zG (zw (zr (.bool false) (xC (zG (zw (zG (zw (zr (.bool false) (xC (zG (zw (zG (zw (zr (.bool false) (xC (zG (zw (zG (zw (zr (.bool false) (xC (nQ (zF (zQ (zB (wR (zc (c_Parse_ok ([102] : List UInt8) ([48, 48, 50, 56, 59, 32, 48, 48, 50, 57, 59, 32, 111, 32, 35, 32, 76, 69, 70, 84, 10, 48, 48, 50, 57, 59, 48, 48, 50, 56, 59, 99] : List UInt8) _ (xJ hty a) (by first | omega | decide | (simp; done)) (by exact kn_t1)) ?_))))))))))))))))))))))))))))))))))))))))
 rintro _ cc ⟨c4, fk, rfl, d5, ba, dz, bj, ao⟩
 replace ba := Nat.le_trans a.size ba
 replace bj := Nat.le_trans a.size bj
 have a := a.tr ao
 refine zG (zr (pt c4 0) (zr .nilIface (zH (zH (nR (zc (calls_as (c_Parse_bad ([102] : List UInt8) ([48, 48, 50, 56, 59, 32, 48, 48, 50, 57, 10] : List UInt8) _ (xJ hty a) (by first | omega | decide | (simp; done)) (by (rw [kn_t2]; decide))) (zk : _ = fun v w' => ∃ (cb0 : Nat), v = (.tuple #[(.pointer none), (.iface 83 (pt cb0 0))]) ∧ w'.heap[cb0]? = some (.cells [(S [102]), (I6 1), (I6 80)].toArray 85 (0, 0)) ∧ cc.heap.size ≤ cb0 ∧ Below cc.heap.size cc w')) ?_))))))
 rintro _ b1 ⟨ca, rfl, a4, bb, al⟩
 replace bb := Nat.le_trans a.size bb
 have a := a.tr al
 refine zG (zr (.pointer none) (zr (.iface 83 (pt ca 0)) (zH (zH (nR (zc (calls_as (c_Parse_bad ([] : List UInt8) ([35, 32, 120, 10, 48, 48, 50, 56, 59, 32, 48, 48, 50, 57, 59, 32, 120, 10] : List UInt8) _ (xJ hty a) (by first | omega | decide | (simp; done)) (by (rw [kn_t3]; decide))) (zk : _ = fun v w' => ∃ (cb0 : Nat), v = (.tuple #[(.pointer none), (.iface 83 (pt cb0 0))]) ∧ w'.heap[cb0]? = some (.cells [(S []), (I6 2), (I6 51)].toArray 85 (0, 0)) ∧ b1.heap.size ≤ cb0 ∧ Below b1.heap.size b1 w')) ?_))))))
 rintro _ gd ⟨b4, rfl, a1, bk, y⟩
 replace bk := Nat.le_trans a.size bk
 have a4 := zA a4 y
 refine zG (zr (.pointer none) (zr (.iface 83 (pt b4 0)) (zH (zH (nW (wR (zG (zr (.bool false) (zG (zw (zG (zw (zr (.bool false) (xC (zG (zw (zG (zw (zr (.bool false) (xC (zG (zw (zG (zw (zr (.bool false) (xC (zG (zw (zG (zw (zc (c_Fault_Error ca ([102] : List UInt8) 1 80 _ a4 (by first | omega | decide | (simp; done)) (by first | omega | decide | (simp; done)) (by first | omega | decide | (simp; done))) ?_)))))))))))))))))))))))))))))))
 rintro _ go ⟨rfl, s⟩
 refine zw (L_sne (fltD ([102] : List UInt8) 1 80) ([102, 58, 49, 58, 32, 101, 114, 114, 111, 114, 32, 56, 48] : List UInt8) rfl zk zk ?_ ?_)
 ·intro ep
  exfalso; exact ep zk
 intro fn
 have a1 := zA a1 s
 refine xC (zG (zw (zG (zw (zc (c_Fault_Error b4 ([] : List UInt8) 2 51 _ a1 (by first | omega | decide | (simp; done)) (by first | omega | decide | (simp; done)) (by first | omega | decide | (simp; done))) ?_)))))
 rintro _ gi ⟨rfl, av⟩
 refine zw (L_sne (fltD ([] : List UInt8) 2 51) ([108, 105, 110, 101, 32, 50, 58, 32, 101, 114, 114, 111, 114, 32, 53, 49] : List UInt8) rfl zk zk ?_ ?_)
 ·intro ek
  exfalso; exact ek zk
 intro fv
 refine xC (nQ (zF (zQ (zB (wR (zc (c_round  _ ) ?_))))))
 rintro b7 f1 ⟨_, rfl, d, ai⟩
 have ad := ((((((((((ad.below d8).below bx.below).below cb).below bq).below u.below).below aq).below ao).below al).below y).below s).below av
 have az := ap_call d ad; have a0 := ap_comm az
 have z := ((((((((z.below cb).below bq).below u.below).below aq).below ao).below al).below y).below s).below av
 have ay := ap_call d z; have au := ap_comm ay
 have ah := ((((((ah.below u.below).below aq).below ao).below al).below y).below s).below av
 have aj := ap_call d ah; have an := ap_comm aj
 have ap := ((((((ap.below u.below).below aq).below ao).below al).below y).below s).below av
 have ag := ap_call d ap; have aw := ap_comm ag
 have l := (((((l.below aq).below ao).below al).below y).below s).below av
 have ab := ap_call d l; have ac := ap_comm ab
 have a := ((a.tr y).tr s).tr av
 have d := d.base a.size
 refine zr (Value.agg #[(I3 9001), (I3 9002), (U8 1)]) (zr (Value.agg #[(I3 9002), (I3 9001), (U8 2)]) (zr (Value.agg #[(I3 12296), (I3 12297), (U8 1)]) (zr (Value.agg #[(I3 12297), (I3 12296), (U8 2)]) (zM 4 [(I3 9001), (I3 9002), (U8 1), (I3 9002), (I3 9001), (U8 2), (I3 12296), (I3 12297), (U8 1), (I3 12297), (I3 12296), (U8 2)] 26 ?_))))
 intro b3 eg j
 have a := a.tr ai
 have cd := j.ge a.size
 have ae : Value.ownBlock b7 = none ∨ Value.ownBlock b7 ≠ Value.ownBlock (.slice (some ⟨b3, 0, none⟩) 4 4) := .inr (d.new_ne j)
 have aa := ap_comm ae
 have bz : Row eg w.heap.size 26 3 encBrk (.slice (some ⟨b3, 0, none⟩) 4 4) ([(9001, 9002, 1), (9002, 9001, 2), (12296, 12297, 1), (12297, 12296, 2)] : List (Int × Int × Int)) := Row.made ([(9001, 9002, 1), (9002, 9001, 2), (12296, 12297, 1), (12297, 12296, 2)] : List (Int × Int × Int)) j cd rfl rfl (by first | decide | (simp; done))
 have a := a.tr j.below
 have d := d.below j.below
 refine L_appAll el22 w.heap.size b7 (.slice (some ⟨b3, 0, none⟩) 4 4) ([(40, 41, 1), (41, 40, 2)] : List Brk) ([(9001, 9002, 1), (9002, 9001, 2), (12296, 12297, 1), (12297, 12296, 2)] : List (Int × Int × Int)) a.size d bz.rd (by first | omega | decide | (simp; done)) zj zj zk zk zk ?_
 intro du gn c2 dh r 
 have ad := (ad.below ai).below j.below
 have dp := ap_app2 ad r a0
 have z := (z.below ai).below j.below
 have dj := ap_app2 z r au
 have ah := (ah.below ai).below j.below
 have dm := ap_app2 ah r an
 have ap := (ap.below ai).below j.below
 have c7 := ap_app2 ap r aw
 have l := (l.below ai).below j.below
 have cs := ap_app2 l r ac
 have cx := ap_app2 bz r aa
 have a := a.tg a.size dh d
 have d := c2
 refine zc (c_New_ok du (([(40, 41, 1), (41, 40, 2)] : List Brk) ++ ([(9001, 9002, 1), (9002, 9001, 2), (12296, 12297, 1), (12297, 12296, 2)] : List (Int × Int × Int))) _ d.rd (by first | omega | decide | (simp; done)) (by exact kn_all)) ?_
 rintro _ fr ⟨a3, a9, rfl, b, bc, c, bl, c6⟩
 replace bc := Nat.le_trans a.size bc
 replace bl := Nat.le_trans a.size bl
 refine zG (zr (pt a3 0) (zr (I6 0) (zr (I6 0) (zH (zH (zH (nW (wR (zG (zr (.bool false) (zG (zw (zG (zw (zr (.bool false) (xC (nQ (zF (zQ (zB (wR (zG (zr (Value.agg #[(I3 9001), (I3 12296)]) (zr (Value.agg #[(I3 9002), (I3 12297)]) (zM 2 [(I3 9001), (I3 12296), (I3 9002), (I3 12297)] 52 ?_)))))))))))))))))))))))))
 intro cu eb a2
 have a := a.tr c6
 have cj := a2.ge a.size
 have cl : Row eb w.heap.size 52 2 encTw (.slice (some ⟨cu, 0, none⟩) 2 2) ([(9001, 12296), (9002, 12297)] : List (Int × Int)) := Row.made ([(9001, 12296), (9002, 12297)] : List (Int × Int)) a2 cj rfl rfl (by first | decide | (simp; done))
 have b := zA b a2.below
 have c := zA c a2.below
 refine zc (c_Twins_ok a3 a9 (kv (([(40, 41, 1), (41, 40, 2)] : List Brk) ++ ([(9001, 9002, 1), (9002, 9001, 2), (12296, 12297, 1), (12297, 12296, 2)] : List (Int × Int × Int)))) (.map none) (.slice (some ⟨cu, 0, none⟩) 2 2) ([(9001, 12296), (9002, 12297)] : List (Int × Int)) _ b c cl.rd (by first | omega | decide | (simp; done)) (by exact kn_w1)) ?_
 rintro _ gg ⟨a8, bo, bm, rfl, g, bf, i, bg, e, bi, fl, br⟩
 have a := a.tr a2.below
 replace bf := Nat.le_trans a.size bf
 replace bg := Nat.le_trans a.size bg
 replace bi := Nat.le_trans a.size bi
 refine zG (zr (pt a8 0) (zr (I6 0) (zr (I6 0) (zH (zH (zH (nR (zG (zr (Value.agg #[(I3 9001), (I3 12296)]) (zM 1 [(I3 9001), (I3 12296)] 52 ?_))))))))))
 intro cr d0 p
 have a := a.tr br
 have cf := p.ge a.size
 have ci : Row d0 w.heap.size 52 2 encTw (.slice (some ⟨cr, 0, none⟩) 1 1) ([(9001, 12296)] : List (Int × Int)) := Row.made ([(9001, 12296)] : List (Int × Int)) p cf rfl rfl (by first | decide | (simp; done))
 have b := zA (zA b br) p.below
 have c := zA (zA c br) p.below
 refine zc (c_Twins_bad a3 a9 (kv (([(40, 41, 1), (41, 40, 2)] : List Brk) ++ ([(9001, 9002, 1), (9002, 9001, 2), (12296, 12297, 1), (12297, 12296, 2)] : List (Int × Int × Int)))) (.map none) (.slice (some ⟨cr, 0, none⟩) 1 1) ([(9001, 12296)] : List (Int × Int)) _ b c ci.rd (by first | omega | decide | (simp; done)) (by exact kn_ne kn_w2)) ?_
 rintro _ fu ⟨rfl, af⟩
 refine zG (zr (.pointer none) (zr (N6 (twI (kv (([(40, 41, 1), (41, 40, 2)] : List Brk) ++ ([(9001, 9002, 1), (9002, 9001, 2), (12296, 12297, 1), (12297, 12296, 2)] : List (Int × Int × Int)))) ([(9001, 12296)] : List (Int × Int)))) (zr (I6 83) (zH (zH (zH (nR (zG (zr (Value.agg #[(I3 65), (I3 66)]) (zM 1 [(I3 65), (I3 66)] 52 ?_))))))))))
 intro cq dr o
 have a := (a.tr p.below).tr af
 have ch := o.ge a.size
 have cg : Row dr w.heap.size 52 2 encTw (.slice (some ⟨cq, 0, none⟩) 1 1) ([(65, 66)] : List (Int × Int)) := Row.made ([(65, 66)] : List (Int × Int)) o ch rfl rfl (by first | decide | (simp; done))
 have b := zA (zA b af) o.below
 have c := zA (zA c af) o.below
 refine zc (c_Twins_ok a3 a9 (kv (([(40, 41, 1), (41, 40, 2)] : List Brk) ++ ([(9001, 9002, 1), (9002, 9001, 2), (12296, 12297, 1), (12297, 12296, 2)] : List (Int × Int × Int)))) (.map none) (.slice (some ⟨cq, 0, none⟩) 1 1) ([(65, 66)] : List (Int × Int)) _ b c cg.rd (by first | omega | decide | (simp; done)) (by exact kn_w1)) ?_
 rintro _ gj ⟨c3, fi, fm, rfl, el, bh, ed, be, eh, bd, fe, ak⟩
 have a := a.tr o.below
 replace bh := Nat.le_trans a.size bh
 replace be := Nat.le_trans a.size be
 replace bd := Nat.le_trans a.size bd
 refine zG (zr (pt c3 0) (zr (I6 0) (zr (I6 0) (zH (zH (zH (nW (wR (zG (zr (.bool false) (zG (zw (zG (zw (zr (.bool false) (xC (zG (zw (zG (zw (nNe (twI (kv (([(40, 41, 1), (41, 40, 2)] : List Brk) ++ ([(9001, 9002, 1), (9002, 9001, 2), (12296, 12297, 1), (12297, 12296, 2)] : List (Int × Int × Int)))) ([(9001, 12296)] : List (Int × Int))) 0 ?_ ?_)))))))))))))))))))))
 ·intro fc
  exfalso; exact fc zk
 intro gb
 have g := zA (zA (zA (zA g p.below) af) o.below) ak
 have i := zA (zA (zA (zA i p.below) af) o.below) ak
 have e := zA (zA (zA (zA e p.below) af) o.below) ak
 refine xC (zG (zw (zG (zw (zr (.bool false) (xC (zG (zw (zG (zw (zr (.bool false) (xC (zG (zw (zG (zw (zr (.bool false) (xC (nQ (zF (zQ (zB (wR (zG (zc (c_Twin a8 bo (kv (([(40, 41, 1), (41, 40, 2)] : List Brk) ++ ([(9001, 9002, 1), (9002, 9001, 2), (12296, 12297, 1), (12297, 12296, 2)] : List (Int × Int × Int)))) (.map (some bm)) (twsM (kv (([(40, 41, 1), (41, 40, 2)] : List Brk) ++ ([(9001, 9002, 1), (9002, 9001, 2), (12296, 12297, 1), (12297, 12296, 2)] : List (Int × Int × Int)))) ([(9001, 12296), (9002, 12297)] : List (Int × Int))) 9001 _ g (GmAt.of i) (GmAt.of e)) ?_)))))))))))))))))))))))))
 rintro _ gs ⟨rfl, am⟩
 refine wC .i32 (twnF (twsM (kv (([(40, 41, 1), (41, 40, 2)] : List Brk) ++ ([(9001, 9002, 1), (9002, 9001, 2), (12296, 12297, 1), (12297, 12296, 2)] : List (Int × Int × Int)))) ([(9001, 12296), (9002, 12297)] : List (Int × Int))) 9001) 12296 ?_ ?_
 ·intro gm
  have g := zA g am
  have i := zA i am
  have e := zA e am
  refine zG (zw (zG (zw (zc (yT a8 bo (kv (([(40, 41, 1), (41, 40, 2)] : List Brk) ++ ([(9001, 9002, 1), (9002, 9001, 2), (12296, 12297, 1), (12297, 12296, 2)] : List (Int × Int × Int)))) (.map (some bm)) (twsM (kv (([(40, 41, 1), (41, 40, 2)] : List Brk) ++ ([(9001, 9002, 1), (9002, 9001, 2), (12296, 12297, 1), (12297, 12296, 2)] : List (Int × Int × Int)))) ([(9001, 12296), (9002, 12297)] : List (Int × Int))) 9001 12297 _ g (GmAt.of i) (GmAt.of e)) ?_))))
  rintro _ f8 ⟨rfl, ar⟩
  refine zX (mtcF (kv (([(40, 41, 1), (41, 40, 2)] : List Brk) ++ ([(9001, 9002, 1), (9002, 9001, 2), (12296, 12297, 1), (12297, 12296, 2)] : List (Int × Int × Int)))) (twsM (kv (([(40, 41, 1), (41, 40, 2)] : List Brk) ++ ([(9001, 9002, 1), (9002, 9001, 2), (12296, 12297, 1), (12297, 12296, 2)] : List (Int × Int × Int)))) ([(9001, 12296), (9002, 12297)] : List (Int × Int))) 9001 12297) ?_ ?_
  ·intro f2
   have g := zA g ar
   have i := zA i ar
   have e := zA e ar
   refine xE (zG (zw (zG (zw (zc (yT a8 bo (kv (([(40, 41, 1), (41, 40, 2)] : List Brk) ++ ([(9001, 9002, 1), (9002, 9001, 2), (12296, 12297, 1), (12297, 12296, 2)] : List (Int × Int × Int)))) (.map (some bm)) (twsM (kv (([(40, 41, 1), (41, 40, 2)] : List Brk) ++ ([(9001, 9002, 1), (9002, 9001, 2), (12296, 12297, 1), (12297, 12296, 2)] : List (Int × Int × Int)))) ([(9001, 12296), (9002, 12297)] : List (Int × Int))) 12296 9002 _ g (GmAt.of i) (GmAt.of e)) ?_)))))
   rintro _ f5 ⟨rfl, bp⟩
   refine zX (mtcF (kv (([(40, 41, 1), (41, 40, 2)] : List Brk) ++ ([(9001, 9002, 1), (9002, 9001, 2), (12296, 12297, 1), (12297, 12296, 2)] : List (Int × Int × Int)))) (twsM (kv (([(40, 41, 1), (41, 40, 2)] : List Brk) ++ ([(9001, 9002, 1), (9002, 9001, 2), (12296, 12297, 1), (12297, 12296, 2)] : List (Int × Int × Int)))) ([(9001, 12296), (9002, 12297)] : List (Int × Int))) 12296 9002) ?_ ?_
   ·intro gl
    have b := zA (zA (zA (zA b ak) am) ar) bp
    have c := zA (zA (zA (zA c ak) am) ar) bp
    refine xE (zG (zw (zG (zw (zc (yT a3 a9 (kv (([(40, 41, 1), (41, 40, 2)] : List Brk) ++ ([(9001, 9002, 1), (9002, 9001, 2), (12296, 12297, 1), (12297, 12296, 2)] : List (Int × Int × Int)))) (.map none) [] 9001 12297 _ b (GmAt.of c) (.inl ⟨rfl, rfl⟩)) ?_)))))
    rintro _ f0 ⟨rfl, dc⟩
    refine zX (mtcF (kv (([(40, 41, 1), (41, 40, 2)] : List Brk) ++ ([(9001, 9002, 1), (9002, 9001, 2), (12296, 12297, 1), (12297, 12296, 2)] : List (Int × Int × Int)))) [] 9001 12297) ?_ ?_
    ·intro eo
     exfalso; exact absurd (eo.symm.trans zk) (by decide : ¬ true = false)
    intro gq
    have a := ((((a.tr ak).tr am).tr ar).tr bp).tr dc
    refine zw (wX false (xE (zG (xE (zG (xE (zG (xE (zG (xE (zG (zw (zc (c_awake8  _ (xJ hty a)) ?_)))))))))))))
    rintro _ fp ⟨rfl, de⟩
    have a := a.tr de
    exact xE (zH (nQ (zS (yC [(.bool true)] ⟨rfl, a⟩))))
   intro dv
   exfalso; exact absurd (dv.symm.trans zk) (by decide : ¬ false = true)
  intro ea
  exfalso; exact absurd (ea.symm.trans zk) (by decide : ¬ false = true)
 intro fb
 exfalso; exact fb zk
end Go.Proofs.YtddnhlobnembaaaGreatDoor
end
