/- Joined by my program pack2.py out of my own texts: Wcb7 Wrb6 Wrb7. -/
import Derived.Test.YtddnhlobnembaaaGreatDoorProg
import Derived.Tactics2
import Derived.Test.YtddnhlobnembaaaGreatDoorNT1
import Derived.Test.YtddnhlobnembaaaGreatDoorNT2
import Derived.Test.YtddnhlobnembaaaGreatDoorNT3
import Derived.Test.YtddnhlobnembaaaGreatDoorNT4
import Derived.Test.YtddnhlobnembaaaGreatDoorNT5
set_option linter.unusedVariables false
set_option linter.unusedSimpArgs false
/- === Wcb7 === -/
section
/- Walks, written by my program walk.py out of the specification cb7.py: each theorem says what one function returns and that it leaves memory as it was. -/
namespace Go.Proofs.YtddnhlobnembaaaGreatDoor
open Go Go.RowKit Go.FK _root_.Go.Proofs.Tryz
set_option maxHeartbeats 4000000
set_option maxRecDepth 100000
theorem c_counts (ta : Int) (ts : Int) (j : Nat) (e : Nat) (m_rs : Nat) (rs : List (Int × (Int × Int × Int))) (l : Value) (w : World) (d : w.heap[j]? = some (.cells [(pt e 0)].toArray 27 (0, 0))) (c : w.heap[e]? = some (.cells [(.map (some m_rs)), l].toArray 69 (0, 0))) (b : w.heap[m_rs]? = some (gmObj .i32 vBrk rs)) :
  Calls Tryz.prog 53 #[(Value.agg #[(I3 ta), (I3 ts)]), (pt j 0)] w (Ret fun v w' => v = (.bool ((gget rs ta).isSome)) ∧ Below w.heap.size w w') := by
 refine wO 17 func53 rfl ?_
 have m := Below.refl w.heap.size w
 refine wR (zN [(I3 ta), (I3 ts)] 52 ?_)
 intro r q h
 have s := h.ge m.size
 have a := h.here
 refine zK (nW (xD 11 13 zk zk zk ?_))
 intro u i
 refine ⟨fun w => (w.heap[j]? = some (.cells [(pt e 0)].toArray 27 (0, 0))) ∧ (w.heap[e]? = some (.cells [(.map (some m_rs)), l].toArray 69 (0, 0))) ∧ (w.heap[r]? = some (.cells [(I3 ta), (I3 ts)].toArray 52 (0, 0))) ∧ (w.heap[m_rs]? = some (gmObj .i32 vBrk rs)), ?_⟩
 have c := zB (zB c h.below) i
 have d := zB (zB d h.below) i
 have a := zB a i
 have b := zB (zB b h.below) i
 refine mt 0 [0, 1, 2, 3, 6, 7, 8, 9, 11, 12] rfl (pt e 0) ⟨d, c, a, b⟩ (yQ j 0 (pt e 0) zk zf (fun q h2 => zQ h2.1 rfl)) (hq := (zA zG)) (mp 1 rfl (pt e 0) (.inr ⟨d, c, a, b⟩) zg (hq := (zA zG)) (mp 2 rfl (pt e 0) (.inr ⟨d, c, a, b⟩) zg (hq := (zA zG)) (mt 3 [3, 6, 7, 8, 9, 11, 12] rfl (.map (some m_rs)) ⟨d, c, a, b⟩ (yQ e 0 (.map (some m_rs)) zk zf (fun q h2 => zQ h2.2.1 rfl)) (hq := (zA zG)) (mp 4 rfl (pt r 0) (.inr ⟨d, c, a, b⟩) zg (hq := (zA zG)) (mt 5 [5, 6, 7, 8, 9, 11, 12] rfl (I3 ta) ⟨d, c, a, b⟩ (yQ r 0 (I3 ta) zk zf (fun q h2 => zQ h2.2.2.1 rfl)) (hq := (zA zG)) (mt 6 [6, 7, 8, 9, 11, 12] rfl (.tuple #[(Value.agg #[(I3 ((lookB rs ta).1)), (I3 ((lookB rs ta).2.1)), (U8 ((lookB rs ta).2.2))]), (.bool ((gget rs ta).isSome))]) ⟨d, c, a, b⟩ (R_glook (k := .i32) (f := vBrk) (0, 0, 0) ta rs underlying66 underlying21 zk zk zk (fun q h2 => GmAt.of h2.2.2.2)) (hq := (zA zG)) (mp 7 rfl (.tuple #[(Value.agg #[(I3 ((lookB rs ta).1)), (I3 ((lookB rs ta).2.1)), (U8 ((lookB rs ta).2.2))]), (.bool ((gget rs ta).isSome))]) (.inr ⟨d, c, a, b⟩) zg (hq := (zA zG)) (mp 8 rfl (Value.agg #[(I3 ((lookB rs ta).1)), (I3 ((lookB rs ta).2.1)), (U8 ((lookB rs ta).2.2))]) (.inr ⟨d, c, a, b⟩) zg (hq := (zA zG)) (mp 9 rfl (.bool ((gget rs ta).isSome)) (.inr ⟨d, c, a, b⟩) zg (hq := (zA zG)) (yH 10 zk ?_))))))))))
 refine yR 10 rfl ?_ rfl
 refine zN [(I3 0), (I3 0), (U8 0)] 26 ?_
 intro y t g
 have m := (m.tr h.below).tr i
 have n := g.ge m.size
 have o := g.here
 refine zS ?_
 have c := zB c g.below
 have d := zB d g.below
 have a := zB a g.below
 have b := zB b g.below
 refine ⟨rfl, .inr ⟨d, c, a, b⟩, yH 11 zk (yR 11 rfl ?_ rfl)⟩
 refine wE [(I3 ((lookB rs ta).1)), (I3 ((lookB rs ta).2.1)), (U8 ((lookB rs ta).2.2))] o ?_
 intro z p
 refine zS ?_
 refine ⟨rfl, .inl zk, ?_⟩
 have m := (m.tr g.below).trans (p.below n)
 exact mp 12 rfl (.bool ((gget rs ta).isSome)) (.inl zk) zg (hq := (zA zG)) (yT zk (zD (wR (zJ (zK (nQ (yA (yK [(.bool ((gget rs ta).isSome))] ⟨rfl, m⟩))))))))
theorem c_twin (r : Int) (c : Nat) (b : Nat) (d : Value) (a : Value) (tw : List (Int × Int)) (w : World) (g : w.heap[c]? = some (.cells [(pt b 0)].toArray 27 (0, 0))) (h : w.heap[b]? = some (.cells [d, a].toArray 69 (0, 0))) (e : GmAt .i32 vI32 w a tw) :
  Calls Tryz.prog 54 #[(I3 r), (pt c 0)] w (Ret fun v w' => v = (I3 (tw1 tw r)) ∧ Below w.heap.size w w') := by
 refine wO 18 func54 rfl ?_
 have i := Below.refl w.heap.size w
 refine wR (zK (nW (wR (zO 0 g rfl (zr (pt b 0) (zFO 1 h rfl (zJ (L_glook (k := .i32) (f := vI32) 0 r tw underlying67 underlying21 zk e zk zk (zJ (zr (I3 ((gget tw r).getD 0)) (zr (.bool ((gget tw r).isSome)) (yN ((gget tw r).isSome) ?_ ?_))))))))))))
 ·intro l
  exact zK (zK (nR (zJ (nQ (zT (wR (zJ (zK (nQ (yA (zI (yK [(I3 ((gget tw r).getD 0))] ⟨e3 (by (rw [tw1_y za]; done)), i⟩))))))))))))
 intro j
 exact zK (zK (nR (zJ (nQ (zF (zW (zD (wR (zJ (zK (nQ (yA (yK [(I3 r)] ⟨e3 (by (rw [tw1_n za]; done)), i⟩)))))))))))))
theorem c_Twins_ok (ao : Nat) (m_rs : Nat) (rs : List (Int × (Int × Int × Int))) (bo : Value) (cb : Value) (l : List (Int × Int)) (w : World) (o : w.heap[ao]? = some (.cells [(.map (some m_rs)), bo].toArray 69 (0, 0))) (h : w.heap[m_rs]? = some (gmObj .i32 vBrk rs)) (an : Rd w encTw cb l) (hl : l.length ≤ 9223372036854775807) (hok : twE rs l = none) :
  Calls Tryz.prog 21 #[(pt ao 0), cb] w (Ret fun v w' => ∃ (cb0 mb0 mt0 : Nat), v = (.tuple #[(pt cb0 0), (I6 0), (I6 0)]) ∧ w'.heap[cb0]? = some (.cells [(.map (some mb0)), (.map (some mt0))].toArray 69 (0, 0)) ∧ w.heap.size ≤ cb0 ∧ w'.heap[mb0]? = some (gmObj .i32 vBrk rs) ∧ w.heap.size ≤ mb0 ∧ w'.heap[mt0]? = some (gmObj .i32 vI32 (twsM rs l)) ∧ w.heap.size ≤ mt0 ∧ NE mb0 mt0 ∧ Below w.heap.size w w') := by
 refine wO 128 func21 rfl ?_
 have hb := Below.refl w.heap.size w
 have ax := an
 refine wR (zN [(pt ao 0)] 27 ?_)
 intro b1 w2 cn
 have fp := cn.ge hb.size
 have e := cn.here
 have o := zB o cn.below
 have h := zB h cn.below
 refine zK (zK (zK (nW (wR (zO 0 e rfl (zc (c_there_g ao m_rs rs bo _ o h) ?_))))))
 rintro _ w4 ⟨rfl, cs⟩
 have o := zB o cs
 have e := zB e cs
 refine qW true (nQ (zF (zW (zD (wR (zO 0 e rfl (zr (pt ao 0) (zFO 0 o rfl (L_inline 52 [(.map (some m_rs))] zk zk (wO 9 func52 rfl ?_))))))))))
 have h := zB h cs
 refine wR (zK (nW (wR (zJ (zr (.bool false) (nQ (zF (zW (zD (wR (zJ (zr (.iface 66 (.map (some m_rs))) (L_mclone (k := .i32) (fm := vBrk) (t := 66) func94 zk zk zk zk m_rs rs h zk ?_)))))))))))))
 intro b7 w8 cl
 have hb := (hb.tr cn.below).tr cs
 have cj := cl.ge hb.size
 have d := cl.here
 refine L_unmap (.map (some b7)) underlying66 zk (zK (nQ (yA (yK [(.map (some b7))] ?_))))
 show L _ _ _ _ _ _ (Fm.put _ _ (.map (some b7))) _
 refine L_gmk (T := 67) .i32 vI32 ?_
 intro a2 f6 bk
 have o := zB o cl.below
 have ci := yS (yE o) bk
 have h := zB h cl.below
 have b2 := yS (yE h) bk
 have e := zB e cl.below
 have cd := yS (yE e) bk
 have bh := yS (yE d) bk
 have hb := hb.tr cl.below
 have co := bk.ge hb.size
 have c := bk.here
 refine zr (Value.agg #[(.map (some b7)), (.map (some a2))]) (zN [(.map (some b7)), (.map (some a2))] 69 ?_)
 intro u f8 bp
 have b9 := yS (yE c) bp
 have b6 := NE.symm b9
 have hb := hb.tr bk.below
 have cu := bp.ge hb.size
 have b := bp.here
 refine zN [(.pointer none)] 27 ?_
 intro a6 f2 a8
 have h := zB (zB h bk.below) bp.below
 have b8 := yS (yE h) a8
 have e := zB (zB e bk.below) bp.below
 have ck := yS (yE e) a8
 have d := zB (zB d bk.below) bp.below
 have bw := yS (yE d) a8
 have c := zB c bp.below
 have bv := yS (yE c) a8
 have cc := NE.symm bv
 have hb := hb.tr bp.below
 have cz := a8.ge hb.size
 have g := a8.here
 refine z1 0 (pt u 0) [(pt u 0)] g ?_
 intro f7 bs
 have o := zB (zB (zB o bk.below) bp.below) a8.below
 have o := zH o bs (zP o g zi)
 have b := zB b a8.below
 have b := zH b bs (zP b g zi)
 have g := bs.here
 have hb := (hb.tr a8.below).trans (bs.below cz)
 have an := ax.below hb
 refine nR (zr (.func (.func 53) #[] #[(pt b1 0)]) (zK (nW (wR (zJ (zln underlying50 (an).len (zJ (nQ (yF ?_)))))))))
 have c := zH (zB c a8.below) bs bv
 have d := zH (zB d a8.below) bs bw
 have e := zH (zB e a8.below) bs ck
 have h := zH (zB h a8.below) bs b8
 refine xG (fun m s0 w0 => ∃ (i : Nat) (tw : List (Int × Int)), (m = l.length - i) ∧ (s0.ds = []) ∧ ([1, 2, 4, 5, 6, 7, 8, 33, 34, 35].map s0.f = [cb, (pt b1 0), (.pointer none), (I6 0), (I6 0), (pt a6 0), (.func (.func 53) #[] #[(pt b1 0)]), cb, (N6 ((l).length)), (N6 i)]) ∧ (Rd w0 encTw cb l) ∧ (w0.heap[ao]? = some (.cells [(.map (some m_rs)), bo].toArray 69 (0, 0))) ∧ (w0.heap[m_rs]? = some (gmObj .i32 vBrk rs)) ∧ (w0.heap[b1]? = some (.cells [(pt ao 0)].toArray 27 (0, 0))) ∧ (w0.heap[b7]? = some (gmObj .i32 vBrk rs)) ∧ (w0.heap[a2]? = some (gmObj .i32 vI32 tw)) ∧ (w0.heap[u]? = some (.cells [(.map (some b7)), (.map (some a2))].toArray 69 (0, 0))) ∧ (w0.heap[a6]? = some (.cells [(pt u 0)].toArray 27 (0, 0))) ∧ (Below w.heap.size w w0) ∧ (i ≤ l.length) ∧ (tw = twsM rs (l.take i))) _ ⟨0, [], rfl, zk, zk, an, o, h, e, d, c, b, g, hb, (Nat.zero_le _), rfl⟩ ?_
 rintro gz f1 gp ⟨i, tw, hm, ah, cv, an, o, h, e, d, c, b, g, hb, i1, z⟩
 refine yZ cv (wR (nLt i ((l).length) ?_ ?_))
 ·intro f3
  refine nW (zT (zW (zD (yC (yF (wR ?_))))))
  have hz := yB l i zo; obtain ⟨aq, de⟩ := hz
  refine zEA an xV i de [(I3 aq.1), (I3 aq.2)] rfl fun _ => (zN [(I3 0), (I3 0)] 52 ?_)
  intro ce gm ae
  have bq := yS (yE h) ae
  have ag := yS (yE d) ae
  have b5 := yS (yE c) ae
  have b0 := ae.ge hb.size
  have s := ae.here
  refine wE [(I3 aq.1), (I3 aq.2)] s ?_
  intro ga au
  have o := zB o ae.below
  have o := zH o au (zP o s zi)
  have e := zB e ae.below
  have e := zH e au (zP e s zi)
  have b := zB b ae.below
  have b := zH b au (zP b s zi)
  have g := zB g ae.below
  have g := zH g au (zP g s zi)
  have s := au.here
  have c := zH (zB c ae.below) au b5
  refine nW (yP zk zk (zX a6 0 (pt u 0) zk zf (zQ g rfl) (yD (pt u 0) zf (yD (pt u 1) zf (zX u 1 (.map (some a2)) zk zf (zQ b rfl) (yD (pt ce 0) zf (zX ce 0 (I3 aq.1) zk zf (zQ s rfl) (wV (k := .i32) (f := vI32) 0 aq.1 tw underlying67 underlying21 zk (GmAt.of c) zk zk (zU (yD (I3 ((gget tw aq.1).getD 0)) zf (yD (.bool ((gget tw aq.1).isSome)) zf (yL ((gget tw aq.1).isSome) ?_ ?_))))))))))))
  ·intro go
   refine xH (xH (yG ?_))
   intro gh a1
   have o := zB o a1
   have s := zB s a1
   have e := zB e a1
   have h := zB (zH (zB h ae.below) au bq) a1
   refine zD (wR (zJ (zOW s (zc (c_counts aq.1 aq.2 b1 ao m_rs rs bo _ e o h) ?_))))
   rintro _ gg ⟨rfl, aw⟩
   refine yN ((gget rs aq.1).isSome) ?_ ?_
   ·intro gn
    refine zJ (zw (zJ (zw (qW true (xS (nQ (zF (zW (zL (zD (zY (xR i 1 (zJ (zS ?_))))))))))))))
    have hb := (((hb.tr ae.below).trans (au.below b0)).tr a1).tr aw
    have o := zB o aw
    have c := zB (zB c a1) aw
    have d := zB (zB (zH (zB d ae.below) au ag) a1) aw
    have e := zB e aw
    have b := zB (zB b a1) aw
    have g := zB (zB g a1) aw
    have an := ax.below hb
    have h := zB h aw
    exact zD ⟨_, zo, (i + 1), tw, rfl, ah, zk, an, o, h, e, d, c, b, g, hb, zo, tws_had z za za⟩
   intro fx
   refine zJ (zs (zs (xY (nQ (zF (zW (zL (zD (zY (xR i 1 (zJ (zS ?_))))))))))))
   have hb := (((hb.tr ae.below).trans (au.below b0)).tr a1).tr aw
   have o := zB o aw
   have c := zB (zB c a1) aw
   have d := zB (zB (zH (zB d ae.below) au ag) a1) aw
   have e := zB e aw
   have b := zB (zB b a1) aw
   have g := zB (zB g a1) aw
   have an := ax.below hb
   have h := zB h aw
   exact zD ⟨_, zo, (i + 1), tw, rfl, ah, zk, an, o, h, e, d, c, b, g, hb, zo, tws_no z za za⟩
  intro fy
  refine xH (xH (yG ?_))
  intro fv a0
  have o := zB o a0
  have s := zB s a0
  have e := zB e a0
  have h := zB (zH (zB h ae.below) au bq) a0
  refine zD (wR (zJ (zOW s (zc (c_counts aq.1 aq.2 b1 ao m_rs rs bo _ e o h) ?_))))
  rintro _ gq ⟨rfl, am⟩
  refine yN ((gget rs aq.1).isSome) ?_ ?_
  ·intro gl
   refine zJ (zw (zJ (zw (qW false (xS (nQ (zT (xD 8 9 zk zk zk ?_))))))))
   intro gw bm
   refine ⟨fun w => (w.heap[a6]? = some (.cells [(pt u 0)].toArray 27 (0, 0))) ∧ (w.heap[u]? = some (.cells [(.map (some b7)), (.map (some a2))].toArray 69 (0, 0))) ∧ (w.heap[ce]? = some (.cells [(I3 aq.1), (I3 aq.2)].toArray 52 (0, 0))), ?_⟩
   have s := zB (zB s am) bm
   have b := zB (zB (zB b a0) am) bm
   have g := zB (zB (zB g a0) am) bm
   refine mt 0 [0, 1, 2, 3, 8] rfl (pt u 0) ⟨g, b, s⟩ (yQ a6 0 (pt u 0) zk zf (fun w2 h2 => zQ h2.1 rfl)) (hq := (zC (zA (zA (zC (zA zG)))))) (mp 1 rfl (pt u 0) (.inr ⟨g, b, s⟩) zg (hq := (zC (zA (zA (zC (zA zG)))))) (mp 2 rfl (pt u 1) (.inr ⟨g, b, s⟩) zg (hq := (zC (zA (zA (zC (zA zG)))))) (mt 3 [3, 8] rfl (.map (some a2)) ⟨g, b, s⟩ (yQ u 1 (.map (some a2)) zk zf (fun w2 h2 => zQ h2.2.1 rfl)) (hq := (zC (zA (zA (zC (zA zG)))))) (mp 4 rfl (pt ce 0) (.inr ⟨g, b, s⟩) zg (hq := (zC (zA (zA (zC (zA zG)))))) (mt 5 [5, 8] rfl (I3 aq.1) ⟨g, b, s⟩ (yQ ce 0 (I3 aq.1) zk zf (fun w2 h2 => zQ h2.2.2 rfl)) (hq := (zC (zA (zA (zC (zA zG)))))) (mp 6 rfl (pt ce 1) (.inr ⟨g, b, s⟩) zg (hq := (zC (zA (zA (zC (zA zG)))))) (mt 7 [7, 8] rfl (I3 aq.2) ⟨g, b, s⟩ (yQ ce 1 (I3 aq.2) zk zf (fun w2 h2 => zQ h2.2.2 rfl)) (hq := (zC (zA (zA (zC (zA zG)))))) (yH 8 zk ?_))))))))
   refine yR 8 rfl ?_ rfl
   have c := zB (zB (zB c a0) am) bm
   refine L_glay (k := .i32) (f := vI32) a2 aq.1 aq.2 tw underlying67 underlying21 c zk zk zk (by first | exact isn za | (omega)) ?_
   intro fw br
   have c := br.here
   refine zS ?_
   refine ⟨rfl, .inl zk, yT zk (zL (zD (zY (xR i 1 (zJ (zS ?_))))))⟩
   have hb := (((((hb.tr ae.below).trans (au.below b0)).tr a0).tr am).tr bm).trans (br.below co)
   have o := zH (zB (zB o am) bm) br ci
   have d := zH (zB (zB (zB (zH (zB d ae.below) au ag) a0) am) bm) br bh
   have e := zH (zB (zB e am) bm) br cd
   have b := zH b br b6
   have g := zH g br cc
   have an := ax.below hb
   have h := zH (zB (zB h am) bm) br b2
   exact zD ⟨_, zo, (i + 1), (tw ++ [(aq.1, aq.2)]), rfl, ah, zk, an, o, h, e, d, c, b, g, hb, zo, tws_add z za za za⟩
  intro gc
  refine zJ (zs (zs (xY (nQ (zF (zW (zL (zD (zY (xR i 1 (zJ (zS ?_))))))))))))
  have hb := (((hb.tr ae.below).trans (au.below b0)).tr a0).tr am
  have o := zB o am
  have c := zB (zB c a0) am
  have d := zB (zB (zH (zB d ae.below) au ag) a0) am
  have e := zB e am
  have b := zB (zB b a0) am
  have g := zB (zB g a0) am
  have an := ax.below hb
  have h := zB h am
  exact zD ⟨_, zo, (i + 1), tw, rfl, ah, zk, an, o, h, e, d, c, b, g, hb, zo, tws_no z za za⟩
 intro gf
 refine nW (zF (yU (zV (zV (yI (zD (wR (zr (.func (.func 54) #[] #[(pt a6 0)]) (zK (nW (wR (zJ (zln underlying50 (an).len (zJ (nQ (yF (xG (fun m s0 w0 => ∃ (j : Nat), (m = l.length - j) ∧ (s0.ds = []) ∧ ([2, 7, 8, 13, 66, 67, 68].map s0.f = [(pt b1 0), (pt a6 0), (.func (.func 53) #[] #[(pt b1 0)]), (.func (.func 54) #[] #[(pt a6 0)]), cb, (N6 ((l).length)), (N6 j)]) ∧ (Rd w0 encTw cb l) ∧ (w0.heap[ao]? = some (.cells [(.map (some m_rs)), bo].toArray 69 (0, 0))) ∧ (w0.heap[m_rs]? = some (gmObj .i32 vBrk rs)) ∧ (w0.heap[b1]? = some (.cells [(pt ao 0)].toArray 27 (0, 0))) ∧ (w0.heap[b7]? = some (gmObj .i32 vBrk rs)) ∧ (w0.heap[a2]? = some (gmObj .i32 vI32 tw)) ∧ (w0.heap[u]? = some (.cells [(.map (some b7)), (.map (some a2))].toArray 69 (0, 0))) ∧ (w0.heap[a6]? = some (.cells [(pt u 0)].toArray 27 (0, 0))) ∧ (Below w.heap.size w w0) ∧ (j ≤ l.length) ∧ (BadI rs tw l j)) _ ⟨0, rfl, ah, zk, an, o, h, e, d, c, b, g, hb, (Nat.zero_le _), BadI.zero⟩ ?_)))))))))))))))))
 rintro g3 gs gb ⟨j, hm, ah, cv, an, o, h, e, d, c, b, g, hb, j1, j2⟩
 refine yZ cv (wR (nLt j ((l).length) ?_ ?_))
 ·intro gu
  refine nW (zT (zW (zD (yC (yF (wR (zJ ?_)))))))
  have hz := yB l j zo; obtain ⟨a, cy⟩ := hz
  refine zEA an xV j cy [(I3 a.1), (I3 a.2)] rfl fun _ => (zN [(I3 0), (I3 0)] 52 ?_)
  intro bc gj av
  have b4 := yS (yE h) av
  have be := yS (yE d) av
  have bt := yS (yE c) av
  have cq := av.ge hb.size
  have n := av.here
  refine zK (wE [(I3 a.1), (I3 a.2)] n ?_)
  intro gk bb
  have o := zB o av.below
  have o := zH o bb (zP o n zi)
  have e := zB e av.below
  have e := zH e bb (zP e n zi)
  have b := zB b av.below
  have b := zH b bb (zP b n zi)
  have g := zB g av.below
  have g := zH g bb (zP g n zi)
  have n := bb.here
  have h := zH (zB h av.below) bb b4
  refine nW (wR (zJ (zOW n (zc (c_counts a.1 a.2 b1 ao m_rs rs bo _ e o h) ?_))))
  rintro _ gy ⟨rfl, ap⟩
  refine yN ((gget rs a.1).isSome) ?_ ?_
  ·intro f4
   refine qW true (nQ (zF (zW (zD (yC (xD 8 9 zk zk zk ?_))))))
   intro g2 bn
   refine ⟨fun w => (w.heap[b1]? = some (.cells [(pt ao 0)].toArray 27 (0, 0))) ∧ (w.heap[ao]? = some (.cells [(.map (some m_rs)), bo].toArray 69 (0, 0))) ∧ (w.heap[bc]? = some (.cells [(I3 a.1), (I3 a.2)].toArray 52 (0, 0))) ∧ (w.heap[m_rs]? = some (gmObj .i32 vBrk rs)), ?_⟩
   have o := zB (zB o ap) bn
   have n := zB (zB n ap) bn
   have e := zB (zB e ap) bn
   have h := zB (zB h ap) bn
   refine mt 0 [0, 1, 2, 3, 6, 8] rfl (pt ao 0) ⟨e, o, n, h⟩ (yQ b1 0 (pt ao 0) zk zf (fun w2 h2 => zQ h2.1 rfl)) (hq := (zA (zC (zA (zA (zC (zA zG))))))) (mp 1 rfl (pt ao 0) (.inr ⟨e, o, n, h⟩) zg (hq := (zA (zC (zA (zA (zC (zA zG))))))) (mp 2 rfl (pt ao 0) (.inr ⟨e, o, n, h⟩) zg (hq := (zA (zC (zA (zA (zC (zA zG))))))) (mt 3 [3, 6, 8] rfl (.map (some m_rs)) ⟨e, o, n, h⟩ (yQ ao 0 (.map (some m_rs)) zk zf (fun w2 h2 => zQ h2.2.1 rfl)) (hq := (zA (zC (zA (zA (zC (zA zG))))))) (mp 4 rfl (pt bc 0) (.inr ⟨e, o, n, h⟩) zg (hq := (zA (zC (zA (zA (zC (zA zG))))))) (mt 5 [5, 6, 8] rfl (I3 a.1) ⟨e, o, n, h⟩ (yQ bc 0 (I3 a.1) zk zf (fun w2 h2 => zQ h2.2.2.1 rfl)) (hq := (zA (zC (zA (zA (zC (zA zG))))))) (mt 6 [6, 8] rfl (Value.agg #[(I3 ((lookB rs a.1).1)), (I3 ((lookB rs a.1).2.1)), (U8 ((lookB rs a.1).2.2))]) ⟨e, o, n, h⟩ (R_glook1 (k := .i32) (f := vBrk) (0, 0, 0) a.1 rs underlying66 underlying21 zk zk zk (fun w2 h2 => GmAt.of h2.2.2.2)) (hq := (zA (zC (zA (zA (zC (zA zG))))))) (yH 7 zk ?_)))))))
   refine yR 7 rfl ?_ rfl
   refine zN [(I3 0), (I3 0), (U8 0)] 26 ?_
   intro bd f0 aj
   have b3 := yS (yE h) aj
   have d := zB (zB (zH (zB d av.below) bb be) ap) bn
   have bj := yS (yE d) aj
   have c := zB (zB (zH (zB c av.below) bb bt) ap) bn
   have bg := yS (yE c) aj
   have hb := (((hb.tr av.below).trans (bb.below cq)).tr ap).tr bn
   have ca := aj.ge hb.size
   have q := aj.here
   refine zS ?_
   have o := zB o aj.below
   have n := zB n aj.below
   have e := zB e aj.below
   have h := zB h aj.below
   refine ⟨rfl, .inr ⟨e, o, n, h⟩, yH 8 zk (yR 8 rfl ?_ rfl)⟩
   refine wE [(I3 ((lookB rs a.1).1)), (I3 ((lookB rs a.1).2.1)), (U8 ((lookB rs a.1).2.2))] q ?_
   intro g0 az
   have o := zH o az (zP o q zi)
   have e := zH e az (zP e q zi)
   have b := zB (zB (zB b ap) bn) aj.below
   have b := zH b az (zP b q zi)
   have g := zB (zB (zB g ap) bn) aj.below
   have g := zH g az (zP g q zi)
   have n := zH n az (zP n q zi)
   have q := az.here
   refine zS ?_
   refine ⟨rfl, .inl zk, yT zk (zD (yC (xD 11 13 zk zk zk ?_)))⟩
   intro f5 ab
   refine ⟨fun w => (w.heap[b1]? = some (.cells [(pt ao 0)].toArray 27 (0, 0))) ∧ (w.heap[ao]? = some (.cells [(.map (some m_rs)), bo].toArray 69 (0, 0))) ∧ (w.heap[bc]? = some (.cells [(I3 a.1), (I3 a.2)].toArray 52 (0, 0))) ∧ (w.heap[m_rs]? = some (gmObj .i32 vBrk rs)), ?_⟩
   have o := zB o ab
   have n := zB n ab
   have e := zB e ab
   have h := zB (zH h az b3) ab
   refine mt 0 [0, 1, 2, 3, 6, 7, 8, 9, 11, 12] rfl (pt ao 0) ⟨e, o, n, h⟩ (yQ b1 0 (pt ao 0) zk zf (fun w2 h2 => zQ h2.1 rfl)) (hq := (zA (zC (zA (zA (zC (zA zG))))))) (mp 1 rfl (pt ao 0) (.inr ⟨e, o, n, h⟩) zg (hq := (zA (zC (zA (zA (zC (zA zG))))))) (mp 2 rfl (pt ao 0) (.inr ⟨e, o, n, h⟩) zg (hq := (zA (zC (zA (zA (zC (zA zG))))))) (mt 3 [3, 6, 7, 8, 9, 11, 12] rfl (.map (some m_rs)) ⟨e, o, n, h⟩ (yQ ao 0 (.map (some m_rs)) zk zf (fun w2 h2 => zQ h2.2.1 rfl)) (hq := (zA (zC (zA (zA (zC (zA zG))))))) (mp 4 rfl (pt bc 1) (.inr ⟨e, o, n, h⟩) zg (hq := (zA (zC (zA (zA (zC (zA zG))))))) (mt 5 [5, 6, 7, 8, 9, 11, 12] rfl (I3 a.2) ⟨e, o, n, h⟩ (yQ bc 1 (I3 a.2) zk zf (fun w2 h2 => zQ h2.2.2.1 rfl)) (hq := (zA (zC (zA (zA (zC (zA zG))))))) (mt 6 [6, 7, 8, 9, 11, 12] rfl (.tuple #[(Value.agg #[(I3 ((lookB rs a.2).1)), (I3 ((lookB rs a.2).2.1)), (U8 ((lookB rs a.2).2.2))]), (.bool ((gget rs a.2).isSome))]) ⟨e, o, n, h⟩ (R_glook (k := .i32) (f := vBrk) (0, 0, 0) a.2 rs underlying66 underlying21 zk zk zk (fun w2 h2 => GmAt.of h2.2.2.2)) (hq := (zA (zC (zA (zA (zC (zA zG))))))) (mp 7 rfl (.tuple #[(Value.agg #[(I3 ((lookB rs a.2).1)), (I3 ((lookB rs a.2).2.1)), (U8 ((lookB rs a.2).2.2))]), (.bool ((gget rs a.2).isSome))]) (.inr ⟨e, o, n, h⟩) zg (hq := (zA (zC (zA (zA (zC (zA zG))))))) (mp 8 rfl (Value.agg #[(I3 ((lookB rs a.2).1)), (I3 ((lookB rs a.2).2.1)), (U8 ((lookB rs a.2).2.2))]) (.inr ⟨e, o, n, h⟩) zg (hq := (zA (zC (zA (zA (zC (zA zG))))))) ?_))))))))
   refine wG 9 10 zk ?_ ?_
   ·skip
    refine yR 9 rfl ?_ rfl
    refine zr (.bool ((gget rs a.2).isSome)) (yN ((gget rs a.2).isSome) ?_ ?_)
    ·intro fz
     refine zS ?_
     refine ⟨rfl, .inr ⟨e, o, n, h⟩, yH 10 zk (yR 10 rfl ?_ rfl)⟩
     refine zN [(I3 0), (I3 0), (U8 0)] 26 ?_
     intro ch gd al
     have ay := yS (yE h) al
     have d := zB (zH (zB d aj.below) az bj) ab
     have ai := yS (yE d) al
     have c := zB (zH (zB c aj.below) az bg) ab
     have y := yS (yE c) al
     have q := zB q ab
     have ac := yS (yE q) al
     have hb := ((hb.tr aj.below).trans (az.below ca)).tr ab
     have bu := al.ge hb.size
     have p := al.here
     refine zS ?_
     have o := zB o al.below
     have n := zB n al.below
     have e := zB e al.below
     have h := zB h al.below
     refine ⟨rfl, .inr ⟨e, o, n, h⟩, yH 11 zk (yR 11 rfl ?_ rfl)⟩
     refine wE [(I3 ((lookB rs a.2).1)), (I3 ((lookB rs a.2).2.1)), (U8 ((lookB rs a.2).2.2))] p ?_
     intro g4 ba
     have o := zH o ba (zP o p zi)
     have e := zH e ba (zP e p zi)
     have b := zB (zB b ab) al.below
     have b := zH b ba (zP b p zi)
     have g := zB (zB g ab) al.below
     have g := zH g ba (zP g p zi)
     have n := zH n ba (zP n p zi)
     have p := ba.here
     refine zS ?_
     refine ⟨rfl, .inl zk, ?_⟩
     have c := zH (zB c al.below) ba y
     refine mp 12 rfl (.bool true) (.inl zk) zg (hq := (zA (zC (zA (zA (zC (zA zG))))))) (yT zk (zD (yC (yP zk zk (zX a6 0 (pt u 0) zk zf (zQ g rfl) (yD (pt u 0) zf (yD (pt u 1) zf (zX u 1 (.map (some a2)) zk zf (zQ b rfl) (yD (pt bc 1) zf (zX bc 1 (I3 a.2) zk zf (zQ n rfl) (wV (k := .i32) (f := vI32) 0 a.2 tw underlying67 underlying21 zk (GmAt.of c) zk zk (zU (yD (I3 ((gget tw a.2).getD 0)) zf (yD (.bool ((gget tw a.2).isSome)) zf (yL ((gget tw a.2).isSome) ?_ ?_)))))))))))))))
     ·intro g1
      refine xH (xH (yG ?_))
      intro f9 ct
      have q := zB (zH (zB q al.below) ba ac) ct
      have p := zB p ct
      refine zD (yC (yP zk zk (zU (xF true zk (zU (qw (yD (pt ch 2) zf (qw (zX ch 2 (U8 ((lookB rs a.2).2.2)) zk zf (zQ p rfl) (qw (yD (pt bd 2) zf (qw (zX bd 2 (U8 ((lookB rs a.1).2.2)) zk zf (zQ q rfl) (qw (xB .u8 ((lookB rs a.2).2.2) ((lookB rs a.1).2.2) ((lookB rs a.2).2.2 ≠ (lookB rs a.1).2.2) rfl (xN ((lookB rs a.2).2.2) ((lookB rs a.1).2.2)) zk zk ?_ ?_)))))))))))))))
      ·intro dp
       replace dp : (lookB rs a.2).2.2 ≠ (lookB rs a.1).2.2 := by omega
       refine qF (zU (qs (qT (zU (qs (qs (qs (qs (qs (qs (qs (qT (yG ?_)))))))))))))
       intro gv e9
       refine zD (zT (wR (zJ (zK (zK (zK (nQ (yA (zR (zI (zI (zR (zI (yK [(.pointer none), (N6 j), (I6 83)] (hd := ah) ?_))))))))))))))
       exfalso; first | exact yV hok z zo (j2.hit za (qZ za za)) | exact yV hok z zo (j2.hit za (qY za za)) | exact yV hok z zo (j2.hit za (bt_3 za za)) | exact yV hok z zo (j2.hit za (bt_4 za za))
      intro d5
      replace d5 : (lookB rs a.2).2.2 = (lookB rs a.1).2.2 := by omega
      refine qF (zU (qw (zU (qF (zU (qs (qs (qs (qs (qs (qs (qs (qT (yG ?_))))))))))))))
      intro gr e8
      refine zD (zT (wR (zJ (zK (zK (zK (nQ (yA (zR (zI (zI (zR (zI (yK [(.pointer none), (N6 j), (I6 83)] (hd := ah) ?_))))))))))))))
      exfalso; first | exact yV hok z zo (j2.hit za (qZ za za)) | exact yV hok z zo (j2.hit za (qY za za)) | exact yV hok z zo (j2.hit za (bt_3 za za)) | exact yV hok z zo (j2.hit za (bt_4 za za))
     intro ey
     refine xH (xH (yG ?_))
     intro ft a3
     have q := zB (zH (zB q al.below) ba ac) a3
     have p := zB p a3
     refine zD (yC (yP zk zk (zU (xF true zk (zU (qw (yD (pt ch 2) zf (qw (zX ch 2 (U8 ((lookB rs a.2).2.2)) zk zf (zQ p rfl) (qw (yD (pt bd 2) zf (qw (zX bd 2 (U8 ((lookB rs a.1).2.2)) zk zf (zQ q rfl) (qw (xB .u8 ((lookB rs a.2).2.2) ((lookB rs a.1).2.2) ((lookB rs a.2).2.2 ≠ (lookB rs a.1).2.2) rfl (xN ((lookB rs a.2).2.2) ((lookB rs a.1).2.2)) zk zk ?_ ?_)))))))))))))))
     ·intro db
      replace db : (lookB rs a.2).2.2 ≠ (lookB rs a.1).2.2 := by omega
      refine qF (zU (qs (qT (zU (qs (qs (qs (qs (qs (qs (qs (qT (yG ?_)))))))))))))
      intro fn d1
      refine zD (zT (wR (zJ (zK (zK (zK (nQ (yA (zR (zI (zI (zR (zI (yK [(.pointer none), (N6 j), (I6 83)] (hd := ah) ?_))))))))))))))
      exfalso; first | exact yV hok z zo (j2.hit za (qZ za za)) | exact yV hok z zo (j2.hit za (qY za za)) | exact yV hok z zo (j2.hit za (bt_3 za za)) | exact yV hok z zo (j2.hit za (bt_4 za za))
     intro c9
     replace c9 : (lookB rs a.2).2.2 = (lookB rs a.1).2.2 := by omega
     have c := zB c a3
     have b := zB b a3
     have g := zB g a3
     refine qF (zU (qw (zU (qF (zU (qw (zU (qw (yD (pt bd 1) zf (qw (zX bd 1 (I3 ((lookB rs a.1).2.1)) zk zf (zQ q rfl) (qw (xE 54 [(I3 ((lookB rs a.1).2.1)), (pt a6 0)] (I3 (tw1 tw ((lookB rs a.1).2.1))) zg (fun wq hbq => c_twin ((lookB rs a.1).2.1) a6 u (.map (some b7)) (.map (some a2)) tw wq (zB g hbq) (zB b hbq) (GmAt.of (zB c hbq))) (qw (yD (pt ch 1) zf (qw (zX ch 1 (I3 ((lookB rs a.2).2.1)) zk zf (zQ p rfl) (qw (xB .i32 (tw1 tw ((lookB rs a.1).2.1)) ((lookB rs a.2).2.1) ((tw1 tw ((lookB rs a.1).2.1)) ≠ (lookB rs a.2).2.1) rfl (xN (tw1 tw ((lookB rs a.1).2.1)) ((lookB rs a.2).2.1)) zk zk ?_ ?_)))))))))))))))))))
     ·intro c7
      replace c7 : (tw1 tw ((lookB rs a.1).2.1)) ≠ (lookB rs a.2).2.1 := by omega
      refine qF (yG ?_)
      intro eb dn
      refine zD (zT (wR (zJ (zK (zK (zK (nQ (yA (zR (zI (zI (zR (zI (yK [(.pointer none), (N6 j), (I6 83)] (hd := ah) ?_))))))))))))))
      exfalso; first | exact yV hok z zo (j2.hit za (qZ za za)) | exact yV hok z zo (j2.hit za (qY za za)) | exact yV hok z zo (j2.hit za (bt_3 za za)) | exact yV hok z zo (j2.hit za (bt_4 za za))
     intro dd
     replace dd : (tw1 tw ((lookB rs a.1).2.1)) = (lookB rs a.2).2.1 := by omega
     refine qF (yG ?_)
     intro fu bl
     refine zD (zF (zW (zL (zD (zY (xR j 1 (zJ (zS ?_))))))))
     have hb := (((hb.tr al.below).trans (ba.below bu)).tr a3).tr bl
     have o := zB (zB o a3) bl
     have c := zB c bl
     have d := zB (zB (zH (zB d al.below) ba ai) a3) bl
     have e := zB (zB e a3) bl
     have b := zB b bl
     have g := zB g bl
     have an := ax.below hb
     have h := zB (zB (zH h ba ay) a3) bl
     exact zD ⟨_, zo, (j + 1), rfl, ah, zk, an, o, h, e, d, c, b, g, hb, zo, j2.step za (bt_ok za za za za za)⟩
    intro fj
    refine zS ?_
    refine ⟨rfl, .inr ⟨e, o, n, h⟩, yH 10 zk (yR 10 rfl ?_ rfl)⟩
    refine zN [(I3 0), (I3 0), (U8 0)] 26 ?_
    intro ej en a5
    have c := zB (zH (zB c aj.below) az bg) ab
    have y := yS (yE c) a5
    have hb := ((hb.tr aj.below).trans (az.below ca)).tr ab
    have bu := a5.ge hb.size
    have p := a5.here
    refine zS ?_
    have o := zB o a5.below
    have n := zB n a5.below
    have e := zB e a5.below
    have h := zB h a5.below
    refine ⟨rfl, .inr ⟨e, o, n, h⟩, yH 11 zk (yR 11 rfl ?_ rfl)⟩
    refine wE [(I3 ((lookB rs a.2).1)), (I3 ((lookB rs a.2).2.1)), (U8 ((lookB rs a.2).2.2))] p ?_
    intro ec bx
    have b := zB (zB b ab) a5.below
    have b := zH b bx (zP b p zi)
    have g := zB (zB g ab) a5.below
    have g := zH g bx (zP g p zi)
    have n := zH n bx (zP n p zi)
    refine zS ?_
    refine ⟨rfl, .inl zk, ?_⟩
    have c := zH (zB c a5.below) bx y
    refine mp 12 rfl (.bool false) (.inl zk) zg (hq := (zA (zC (zA (zA (zC (zA zG))))))) (yT zk (zD (yC (yP zk zk (zX a6 0 (pt u 0) zk zf (zQ g rfl) (yD (pt u 0) zf (yD (pt u 1) zf (zX u 1 (.map (some a2)) zk zf (zQ b rfl) (yD (pt bc 1) zf (zX bc 1 (I3 a.2) zk zf (zQ n rfl) (wV (k := .i32) (f := vI32) 0 a.2 tw underlying67 underlying21 zk (GmAt.of c) zk zk (zU (yD (I3 ((gget tw a.2).getD 0)) zf (yD (.bool ((gget tw a.2).isSome)) zf (yL ((gget tw a.2).isSome) ?_ ?_)))))))))))))))
    ·intro eo
     refine xH (xH (yG ?_))
     intro d7 d2
     refine zD (yC (yP zk zk (zU (xF false zk (zU (qs (qs (qs (qs (qs (qT (zU (qs (qT (zU (qs (qs (qs (qs (qs (qs (qs (qT (yG ?_))))))))))))))))))))))))
     intro e4 dk
     refine zD (zT (wR (zJ (zK (zK (zK (nQ (yA (zR (zI (zI (zR (zI (yK [(.pointer none), (N6 j), (I6 83)] (hd := ah) ?_))))))))))))))
     exfalso; first | exact yV hok z zo (j2.hit za (qZ za za)) | exact yV hok z zo (j2.hit za (qY za za)) | exact yV hok z zo (j2.hit za (bt_3 za za)) | exact yV hok z zo (j2.hit za (bt_4 za za))
    intro er
    refine xH (xH (yG ?_))
    intro d9 dm
    refine zD (yC (yP zk zk (zU (xF false zk (zU (qs (qs (qs (qs (qs (qT (zU (qs (qT (zU (qs (qs (qs (qs (qs (qs (qs (qT (yG ?_))))))))))))))))))))))))
    intro eh dj
    refine zD (zT (wR (zJ (zK (zK (zK (nQ (yA (zR (zI (zI (zR (zI (yK [(.pointer none), (N6 j), (I6 83)] (hd := ah) ?_))))))))))))))
    exfalso; first | exact yV hok z zo (j2.hit za (qZ za za)) | exact yV hok z zo (j2.hit za (qY za za)) | exact yV hok z zo (j2.hit za (bt_3 za za)) | exact yV hok z zo (j2.hit za (bt_4 za za))
   skip
   refine yR 10 rfl ?_ rfl
   refine zN [(I3 0), (I3 0), (U8 0)] 26 ?_
   intro a9 d8 r
   have ay := yS (yE h) r
   have d := zB (zH (zB d aj.below) az bj) ab
   have ai := yS (yE d) r
   have c := zB (zH (zB c aj.below) az bg) ab
   have y := yS (yE c) r
   have q := zB q ab
   have ac := yS (yE q) r
   have hb := ((hb.tr aj.below).trans (az.below ca)).tr ab
   have bu := r.ge hb.size
   have p := r.here
   refine zS ?_
   have o := zB o r.below
   have n := zB n r.below
   have e := zB e r.below
   have h := zB h r.below
   refine ⟨rfl, .inr ⟨e, o, n, h⟩, wG 9 11 zk ?_ ?_⟩
   ·skip
    refine yR 9 rfl ?_ rfl
    refine zr (.bool ((gget rs a.2).isSome)) (yN ((gget rs a.2).isSome) ?_ ?_)
    ·intro ex
     refine zS ?_
     refine ⟨rfl, .inr ⟨e, o, n, h⟩, yH 11 zk (yR 11 rfl ?_ rfl)⟩
     refine wE [(I3 ((lookB rs a.2).1)), (I3 ((lookB rs a.2).2.1)), (U8 ((lookB rs a.2).2.2))] p ?_
     intro fq ar
     have o := zH o ar (zP o p zi)
     have e := zH e ar (zP e p zi)
     have b := zB (zB b ab) r.below
     have b := zH b ar (zP b p zi)
     have g := zB (zB g ab) r.below
     have g := zH g ar (zP g p zi)
     have n := zH n ar (zP n p zi)
     have p := ar.here
     refine zS ?_
     refine ⟨rfl, .inl zk, ?_⟩
     have c := zH (zB c r.below) ar y
     refine mp 12 rfl (.bool true) (.inl zk) zg (hq := (zA (zC (zA (zA (zC (zA zG))))))) (yT zk (zD (yC (yP zk zk (zX a6 0 (pt u 0) zk zf (zQ g rfl) (yD (pt u 0) zf (yD (pt u 1) zf (zX u 1 (.map (some a2)) zk zf (zQ b rfl) (yD (pt bc 1) zf (zX bc 1 (I3 a.2) zk zf (zQ n rfl) (wV (k := .i32) (f := vI32) 0 a.2 tw underlying67 underlying21 zk (GmAt.of c) zk zk (zU (yD (I3 ((gget tw a.2).getD 0)) zf (yD (.bool ((gget tw a.2).isSome)) zf (yL ((gget tw a.2).isSome) ?_ ?_)))))))))))))))
     ·intro fc
      refine xH (xH (yG ?_))
      intro fk cp
      have q := zB (zH (zB q r.below) ar ac) cp
      have p := zB p cp
      refine zD (yC (yP zk zk (zU (xF true zk (zU (qw (yD (pt a9 2) zf (qw (zX a9 2 (U8 ((lookB rs a.2).2.2)) zk zf (zQ p rfl) (qw (yD (pt bd 2) zf (qw (zX bd 2 (U8 ((lookB rs a.1).2.2)) zk zf (zQ q rfl) (qw (xB .u8 ((lookB rs a.2).2.2) ((lookB rs a.1).2.2) ((lookB rs a.2).2.2 ≠ (lookB rs a.1).2.2) rfl (xN ((lookB rs a.2).2.2) ((lookB rs a.1).2.2)) zk zk ?_ ?_)))))))))))))))
      ·intro da
       replace da : (lookB rs a.2).2.2 ≠ (lookB rs a.1).2.2 := by omega
       refine qF (zU (qs (qT (zU (qs (qs (qs (qs (qs (qs (qs (qT (yG ?_)))))))))))))
       intro e5 du
       refine zD (zT (wR (zJ (zK (zK (zK (nQ (yA (zR (zI (zI (zR (zI (yK [(.pointer none), (N6 j), (I6 83)] (hd := ah) ?_))))))))))))))
       exfalso; first | exact yV hok z zo (j2.hit za (qZ za za)) | exact yV hok z zo (j2.hit za (qY za za)) | exact yV hok z zo (j2.hit za (bt_3 za za)) | exact yV hok z zo (j2.hit za (bt_4 za za))
      intro cx
      replace cx : (lookB rs a.2).2.2 = (lookB rs a.1).2.2 := by omega
      refine qF (zU (qw (zU (qF (zU (qs (qs (qs (qs (qs (qs (qs (qT (yG ?_))))))))))))))
      intro fe dq
      refine zD (zT (wR (zJ (zK (zK (zK (nQ (yA (zR (zI (zI (zR (zI (yK [(.pointer none), (N6 j), (I6 83)] (hd := ah) ?_))))))))))))))
      exfalso; first | exact yV hok z zo (j2.hit za (qZ za za)) | exact yV hok z zo (j2.hit za (qY za za)) | exact yV hok z zo (j2.hit za (bt_3 za za)) | exact yV hok z zo (j2.hit za (bt_4 za za))
     intro eg
     refine xH (xH (yG ?_))
     intro fi a7
     have q := zB (zH (zB q r.below) ar ac) a7
     have p := zB p a7
     refine zD (yC (yP zk zk (zU (xF true zk (zU (qw (yD (pt a9 2) zf (qw (zX a9 2 (U8 ((lookB rs a.2).2.2)) zk zf (zQ p rfl) (qw (yD (pt bd 2) zf (qw (zX bd 2 (U8 ((lookB rs a.1).2.2)) zk zf (zQ q rfl) (qw (xB .u8 ((lookB rs a.2).2.2) ((lookB rs a.1).2.2) ((lookB rs a.2).2.2 ≠ (lookB rs a.1).2.2) rfl (xN ((lookB rs a.2).2.2) ((lookB rs a.1).2.2)) zk zk ?_ ?_)))))))))))))))
     ·intro c0
      replace c0 : (lookB rs a.2).2.2 ≠ (lookB rs a.1).2.2 := by omega
      refine qF (zU (qs (qT (zU (qs (qs (qs (qs (qs (qs (qs (qT (yG ?_)))))))))))))
      intro e2 dg
      refine zD (zT (wR (zJ (zK (zK (zK (nQ (yA (zR (zI (zI (zR (zI (yK [(.pointer none), (N6 j), (I6 83)] (hd := ah) ?_))))))))))))))
      exfalso; first | exact yV hok z zo (j2.hit za (qZ za za)) | exact yV hok z zo (j2.hit za (qY za za)) | exact yV hok z zo (j2.hit za (bt_3 za za)) | exact yV hok z zo (j2.hit za (bt_4 za za))
     intro c2
     replace c2 : (lookB rs a.2).2.2 = (lookB rs a.1).2.2 := by omega
     have c := zB c a7
     have b := zB b a7
     have g := zB g a7
     refine qF (zU (qw (zU (qF (zU (qw (zU (qw (yD (pt bd 1) zf (qw (zX bd 1 (I3 ((lookB rs a.1).2.1)) zk zf (zQ q rfl) (qw (xE 54 [(I3 ((lookB rs a.1).2.1)), (pt a6 0)] (I3 (tw1 tw ((lookB rs a.1).2.1))) zg (fun wq hbq => c_twin ((lookB rs a.1).2.1) a6 u (.map (some b7)) (.map (some a2)) tw wq (zB g hbq) (zB b hbq) (GmAt.of (zB c hbq))) (qw (yD (pt a9 1) zf (qw (zX a9 1 (I3 ((lookB rs a.2).2.1)) zk zf (zQ p rfl) (qw (xB .i32 (tw1 tw ((lookB rs a.1).2.1)) ((lookB rs a.2).2.1) ((tw1 tw ((lookB rs a.1).2.1)) ≠ (lookB rs a.2).2.1) rfl (xN (tw1 tw ((lookB rs a.1).2.1)) ((lookB rs a.2).2.1)) zk zk ?_ ?_)))))))))))))))))))
     ·intro dc
      replace dc : (tw1 tw ((lookB rs a.1).2.1)) ≠ (lookB rs a.2).2.1 := by omega
      refine qF (yG ?_)
      intro eu dz
      refine zD (zT (wR (zJ (zK (zK (zK (nQ (yA (zR (zI (zI (zR (zI (yK [(.pointer none), (N6 j), (I6 83)] (hd := ah) ?_))))))))))))))
      exfalso; first | exact yV hok z zo (j2.hit za (qZ za za)) | exact yV hok z zo (j2.hit za (qY za za)) | exact yV hok z zo (j2.hit za (bt_3 za za)) | exact yV hok z zo (j2.hit za (bt_4 za za))
     intro c4
     replace c4 : (tw1 tw ((lookB rs a.1).2.1)) = (lookB rs a.2).2.1 := by omega
     refine qF (yG ?_)
     intro ev bi
     refine zD (zF (zW (zL (zD (zY (xR j 1 (zJ (zS ?_))))))))
     have hb := (((hb.tr r.below).trans (ar.below bu)).tr a7).tr bi
     have o := zB (zB o a7) bi
     have c := zB c bi
     have d := zB (zB (zH (zB d r.below) ar ai) a7) bi
     have e := zB (zB e a7) bi
     have b := zB b bi
     have g := zB g bi
     have an := ax.below hb
     have h := zB (zB (zH h ar ay) a7) bi
     exact zD ⟨_, zo, (j + 1), rfl, ah, zk, an, o, h, e, d, c, b, g, hb, zo, j2.step za (bt_ok za za za za za)⟩
    intro ff
    refine zS ?_
    refine ⟨rfl, .inr ⟨e, o, n, h⟩, yH 11 zk (yR 11 rfl ?_ rfl)⟩
    refine wE [(I3 ((lookB rs a.2).1)), (I3 ((lookB rs a.2).2.1)), (U8 ((lookB rs a.2).2.2))] p ?_
    intro ee bz
    have b := zB (zB b ab) r.below
    have b := zH b bz (zP b p zi)
    have g := zB (zB g ab) r.below
    have g := zH g bz (zP g p zi)
    have n := zH n bz (zP n p zi)
    refine zS ?_
    refine ⟨rfl, .inl zk, ?_⟩
    have c := zH (zB c r.below) bz y
    refine mp 12 rfl (.bool false) (.inl zk) zg (hq := (zA (zC (zA (zA (zC (zA zG))))))) (yT zk (zD (yC (yP zk zk (zX a6 0 (pt u 0) zk zf (zQ g rfl) (yD (pt u 0) zf (yD (pt u 1) zf (zX u 1 (.map (some a2)) zk zf (zQ b rfl) (yD (pt bc 1) zf (zX bc 1 (I3 a.2) zk zf (zQ n rfl) (wV (k := .i32) (f := vI32) 0 a.2 tw underlying67 underlying21 zk (GmAt.of c) zk zk (zU (yD (I3 ((gget tw a.2).getD 0)) zf (yD (.bool ((gget tw a.2).isSome)) zf (yL ((gget tw a.2).isSome) ?_ ?_)))))))))))))))
    ·intro e1
     refine xH (xH (yG ?_))
     intro ew df
     refine zD (yC (yP zk zk (zU (xF false zk (zU (qs (qs (qs (qs (qs (qT (zU (qs (qT (zU (qs (qs (qs (qs (qs (qs (qs (qT (yG ?_))))))))))))))))))))))))
     intro fs dx
     refine zD (zT (wR (zJ (zK (zK (zK (nQ (yA (zR (zI (zI (zR (zI (yK [(.pointer none), (N6 j), (I6 83)] (hd := ah) ?_))))))))))))))
     exfalso; first | exact yV hok z zo (j2.hit za (qZ za za)) | exact yV hok z zo (j2.hit za (qY za za)) | exact yV hok z zo (j2.hit za (bt_3 za za)) | exact yV hok z zo (j2.hit za (bt_4 za za))
    intro fo
    refine xH (xH (yG ?_))
    intro ed d0
    refine zD (yC (yP zk zk (zU (xF false zk (zU (qs (qs (qs (qs (qs (qT (zU (qs (qT (zU (qs (qs (qs (qs (qs (qs (qs (qT (yG ?_))))))))))))))))))))))))
    intro fa dl
    refine zD (zT (wR (zJ (zK (zK (zK (nQ (yA (zR (zI (zI (zR (zI (yK [(.pointer none), (N6 j), (I6 83)] (hd := ah) ?_))))))))))))))
    exfalso; first | exact yV hok z zo (j2.hit za (qZ za za)) | exact yV hok z zo (j2.hit za (qY za za)) | exact yV hok z zo (j2.hit za (bt_3 za za)) | exact yV hok z zo (j2.hit za (bt_4 za za))
   skip
   refine yR 11 rfl ?_ rfl
   refine wE [(I3 ((lookB rs a.2).1)), (I3 ((lookB rs a.2).2.1)), (U8 ((lookB rs a.2).2.2))] p ?_
   intro et ak
   have o := zH o ak (zP o p zi)
   have e := zH e ak (zP e p zi)
   have b := zB (zB b ab) r.below
   have b := zH b ak (zP b p zi)
   have g := zB (zB g ab) r.below
   have g := zH g ak (zP g p zi)
   have n := zH n ak (zP n p zi)
   have p := ak.here
   refine zS ?_
   refine ⟨rfl, .inl zk, yH 9 zk (yR 9 rfl ?_ rfl)⟩
   refine zr (.bool ((gget rs a.2).isSome)) (yN ((gget rs a.2).isSome) ?_ ?_)
   ·intro e3
    refine zS ?_
    refine ⟨rfl, .inl zk, ?_⟩
    have c := zH (zB c r.below) ak y
    refine mp 12 rfl (.bool true) (.inl zk) zg (hq := (zA (zC (zA (zA (zC (zA zG))))))) (yT zk (zD (yC (yP zk zk (zX a6 0 (pt u 0) zk zf (zQ g rfl) (yD (pt u 0) zf (yD (pt u 1) zf (zX u 1 (.map (some a2)) zk zf (zQ b rfl) (yD (pt bc 1) zf (zX bc 1 (I3 a.2) zk zf (zQ n rfl) (wV (k := .i32) (f := vI32) 0 a.2 tw underlying67 underlying21 zk (GmAt.of c) zk zk (zU (yD (I3 ((gget tw a.2).getD 0)) zf (yD (.bool ((gget tw a.2).isSome)) zf (yL ((gget tw a.2).isSome) ?_ ?_)))))))))))))))
    ·intro fh
     refine xH (xH (yG ?_))
     intro ei cr
     have q := zB (zH (zB q r.below) ak ac) cr
     have p := zB p cr
     refine zD (yC (yP zk zk (zU (xF true zk (zU (qw (yD (pt a9 2) zf (qw (zX a9 2 (U8 ((lookB rs a.2).2.2)) zk zf (zQ p rfl) (qw (yD (pt bd 2) zf (qw (zX bd 2 (U8 ((lookB rs a.1).2.2)) zk zf (zQ q rfl) (qw (xB .u8 ((lookB rs a.2).2.2) ((lookB rs a.1).2.2) ((lookB rs a.2).2.2 ≠ (lookB rs a.1).2.2) rfl (xN ((lookB rs a.2).2.2) ((lookB rs a.1).2.2)) zk zk ?_ ?_)))))))))))))))
     ·intro c6
      replace c6 : (lookB rs a.2).2.2 ≠ (lookB rs a.1).2.2 := by omega
      refine qF (zU (qs (qT (zU (qs (qs (qs (qs (qs (qs (qs (qT (yG ?_)))))))))))))
      intro fb dw
      refine zD (zT (wR (zJ (zK (zK (zK (nQ (yA (zR (zI (zI (zR (zI (yK [(.pointer none), (N6 j), (I6 83)] (hd := ah) ?_))))))))))))))
      exfalso; first | exact yV hok z zo (j2.hit za (qZ za za)) | exact yV hok z zo (j2.hit za (qY za za)) | exact yV hok z zo (j2.hit za (bt_3 za za)) | exact yV hok z zo (j2.hit za (bt_4 za za))
     intro c1
     replace c1 : (lookB rs a.2).2.2 = (lookB rs a.1).2.2 := by omega
     refine qF (zU (qw (zU (qF (zU (qs (qs (qs (qs (qs (qs (qs (qT (yG ?_))))))))))))))
     intro ef d4
     refine zD (zT (wR (zJ (zK (zK (zK (nQ (yA (zR (zI (zI (zR (zI (yK [(.pointer none), (N6 j), (I6 83)] (hd := ah) ?_))))))))))))))
     exfalso; first | exact yV hok z zo (j2.hit za (qZ za za)) | exact yV hok z zo (j2.hit za (qY za za)) | exact yV hok z zo (j2.hit za (bt_3 za za)) | exact yV hok z zo (j2.hit za (bt_4 za za))
    intro ea
    refine xH (xH (yG ?_))
    intro fd a4
    have q := zB (zH (zB q r.below) ak ac) a4
    have p := zB p a4
    refine zD (yC (yP zk zk (zU (xF true zk (zU (qw (yD (pt a9 2) zf (qw (zX a9 2 (U8 ((lookB rs a.2).2.2)) zk zf (zQ p rfl) (qw (yD (pt bd 2) zf (qw (zX bd 2 (U8 ((lookB rs a.1).2.2)) zk zf (zQ q rfl) (qw (xB .u8 ((lookB rs a.2).2.2) ((lookB rs a.1).2.2) ((lookB rs a.2).2.2 ≠ (lookB rs a.1).2.2) rfl (xN ((lookB rs a.2).2.2) ((lookB rs a.1).2.2)) zk zk ?_ ?_)))))))))))))))
    ·intro c3
     replace c3 : (lookB rs a.2).2.2 ≠ (lookB rs a.1).2.2 := by omega
     refine qF (zU (qs (qT (zU (qs (qs (qs (qs (qs (qs (qs (qT (yG ?_)))))))))))))
     intro d6 dt
     refine zD (zT (wR (zJ (zK (zK (zK (nQ (yA (zR (zI (zI (zR (zI (yK [(.pointer none), (N6 j), (I6 83)] (hd := ah) ?_))))))))))))))
     exfalso; first | exact yV hok z zo (j2.hit za (qZ za za)) | exact yV hok z zo (j2.hit za (qY za za)) | exact yV hok z zo (j2.hit za (bt_3 za za)) | exact yV hok z zo (j2.hit za (bt_4 za za))
    intro c8
    replace c8 : (lookB rs a.2).2.2 = (lookB rs a.1).2.2 := by omega
    have c := zB c a4
    have b := zB b a4
    have g := zB g a4
    refine qF (zU (qw (zU (qF (zU (qw (zU (qw (yD (pt bd 1) zf (qw (zX bd 1 (I3 ((lookB rs a.1).2.1)) zk zf (zQ q rfl) (qw (xE 54 [(I3 ((lookB rs a.1).2.1)), (pt a6 0)] (I3 (tw1 tw ((lookB rs a.1).2.1))) zg (fun wq hbq => c_twin ((lookB rs a.1).2.1) a6 u (.map (some b7)) (.map (some a2)) tw wq (zB g hbq) (zB b hbq) (GmAt.of (zB c hbq))) (qw (yD (pt a9 1) zf (qw (zX a9 1 (I3 ((lookB rs a.2).2.1)) zk zf (zQ p rfl) (qw (xB .i32 (tw1 tw ((lookB rs a.1).2.1)) ((lookB rs a.2).2.1) ((tw1 tw ((lookB rs a.1).2.1)) ≠ (lookB rs a.2).2.1) rfl (xN (tw1 tw ((lookB rs a.1).2.1)) ((lookB rs a.2).2.1)) zk zk ?_ ?_)))))))))))))))))))
    ·intro cw
     replace cw : (tw1 tw ((lookB rs a.1).2.1)) ≠ (lookB rs a.2).2.1 := by omega
     refine qF (yG ?_)
     intro e0 dy
     refine zD (zT (wR (zJ (zK (zK (zK (nQ (yA (zR (zI (zI (zR (zI (yK [(.pointer none), (N6 j), (I6 83)] (hd := ah) ?_))))))))))))))
     exfalso; first | exact yV hok z zo (j2.hit za (qZ za za)) | exact yV hok z zo (j2.hit za (qY za za)) | exact yV hok z zo (j2.hit za (bt_3 za za)) | exact yV hok z zo (j2.hit za (bt_4 za za))
    intro c5
    replace c5 : (tw1 tw ((lookB rs a.1).2.1)) = (lookB rs a.2).2.1 := by omega
    refine qF (yG ?_)
    intro fl bf
    refine zD (zF (zW (zL (zD (zY (xR j 1 (zJ (zS ?_))))))))
    have hb := (((hb.tr r.below).trans (ak.below bu)).tr a4).tr bf
    have o := zB (zB o a4) bf
    have c := zB c bf
    have d := zB (zB (zH (zB d r.below) ak ai) a4) bf
    have e := zB (zB e a4) bf
    have b := zB b bf
    have g := zB g bf
    have an := ax.below hb
    have h := zB (zB (zH h ak ay) a4) bf
    exact zD ⟨_, zo, (j + 1), rfl, ah, zk, an, o, h, e, d, c, b, g, hb, zo, j2.step za (bt_ok za za za za za)⟩
   intro es
   refine zS ?_
   refine ⟨rfl, .inl zk, ?_⟩
   have c := zH (zB c r.below) ak y
   refine mp 12 rfl (.bool false) (.inl zk) zg (hq := (zA (zC (zA (zA (zC (zA zG))))))) (yT zk (zD (yC (yP zk zk (zX a6 0 (pt u 0) zk zf (zQ g rfl) (yD (pt u 0) zf (yD (pt u 1) zf (zX u 1 (.map (some a2)) zk zf (zQ b rfl) (yD (pt bc 1) zf (zX bc 1 (I3 a.2) zk zf (zQ n rfl) (wV (k := .i32) (f := vI32) 0 a.2 tw underlying67 underlying21 zk (GmAt.of c) zk zk (zU (yD (I3 ((gget tw a.2).getD 0)) zf (yD (.bool ((gget tw a.2).isSome)) zf (yL ((gget tw a.2).isSome) ?_ ?_)))))))))))))))
   ·intro e7
    refine xH (xH (yG ?_))
    intro el d3
    refine zD (yC (yP zk zk (zU (xF false zk (zU (qs (qs (qs (qs (qs (qT (zU (qs (qT (zU (qs (qs (qs (qs (qs (qs (qs (qT (yG ?_))))))))))))))))))))))))
    intro e6 di
    refine zD (zT (wR (zJ (zK (zK (zK (nQ (yA (zR (zI (zI (zR (zI (yK [(.pointer none), (N6 j), (I6 83)] (hd := ah) ?_))))))))))))))
    exfalso; first | exact yV hok z zo (j2.hit za (qZ za za)) | exact yV hok z zo (j2.hit za (qY za za)) | exact yV hok z zo (j2.hit za (bt_3 za za)) | exact yV hok z zo (j2.hit za (bt_4 za za))
   intro ek
   refine xH (xH (yG ?_))
   intro fg dh
   refine zD (yC (yP zk zk (zU (xF false zk (zU (qs (qs (qs (qs (qs (qT (zU (qs (qT (zU (qs (qs (qs (qs (qs (qs (qs (qT (yG ?_))))))))))))))))))))))))
   intro ez dv
   refine zD (zT (wR (zJ (zK (zK (zK (nQ (yA (zR (zI (zI (zR (zI (yK [(.pointer none), (N6 j), (I6 83)] (hd := ah) ?_))))))))))))))
   exfalso; first | exact yV hok z zo (j2.hit za (qZ za za)) | exact yV hok z zo (j2.hit za (qY za za)) | exact yV hok z zo (j2.hit za (bt_3 za za)) | exact yV hok z zo (j2.hit za (bt_4 za za))
  intro ep
  refine qW false (nQ (zT (yU (zV (yI (zD (zY (xR j 1 (zJ (zS ?_))))))))))
  have hb := ((hb.tr av.below).trans (bb.below cq)).tr ap
  have o := zB o ap
  have c := zB (zH (zB c av.below) bb bt) ap
  have d := zB (zH (zB d av.below) bb be) ap
  have e := zB e ap
  have b := zB b ap
  have g := zB g ap
  have an := ax.below hb
  have h := zB h ap
  exact zD ⟨_, zo, (j + 1), rfl, ah, zk, an, o, h, e, d, c, b, g, hb, zo, j2.step za (bt_no za)⟩
 intro fr
 refine nW (zF (yU (zV (zV (yI (zD (wR (zO 0 g rfl (zK (zK (zK (nQ (yA (yK [(pt u 0), (I6 0), (I6 0)] (hd := ah) ?_))))))))))))))
 have em : tw = (twsM rs l) := by exact tws_all z zo
 rw [em] at c
 exact ⟨u, b7, a2, rfl, b, cu, d, cj, c, co, bh, hb⟩
theorem c_Twins_bad (ao : Nat) (m_rs : Nat) (rs : List (Int × (Int × Int × Int))) (bm : Value) (cd : Value) (l : List (Int × Int)) (w : World) (o : w.heap[ao]? = some (.cells [(.map (some m_rs)), bm].toArray 69 (0, 0))) (h : w.heap[m_rs]? = some (gmObj .i32 vBrk rs)) (an : Rd w encTw cd l) (hl : l.length ≤ 9223372036854775807) (hbad : twE rs l ≠ none) :
  Calls Tryz.prog 21 #[(pt ao 0), cd] w (Ret fun v w' => v = (.tuple #[(.pointer none), (N6 (twI rs l)), (I6 83)]) ∧ Below w.heap.size w w') := by
 refine wO 128 func21 rfl ?_
 have s := Below.refl w.heap.size w
 have a1 := an
 refine wR (zN [(pt ao 0)] 27 ?_)
 intro b1 w2 cp
 have fo := cp.ge s.size
 have e := cp.here
 have o := zB o cp.below
 have h := zB h cp.below
 refine zK (zK (zK (nW (wR (zO 0 e rfl (zc (c_there_g ao m_rs rs bm _ o h) ?_))))))
 rintro _ w4 ⟨rfl, cr⟩
 have o := zB o cr
 have e := zB e cr
 refine qW true (nQ (zF (zW (zD (wR (zO 0 e rfl (zr (pt ao 0) (zFO 0 o rfl (L_inline 52 [(.map (some m_rs))] zk zk (wO 9 func52 rfl ?_))))))))))
 have h := zB h cr
 refine wR (zK (nW (wR (zJ (zr (.bool false) (nQ (zF (zW (zD (wR (zJ (zr (.iface 66 (.map (some m_rs))) (L_mclone (k := .i32) (fm := vBrk) (t := 66) func94 zk zk zk zk m_rs rs h zk ?_)))))))))))))
 intro b7 w8 cn
 have s := (s.tr cp.below).tr cr
 have dg := cn.ge s.size
 have d := cn.here
 refine L_unmap (.map (some b7)) underlying66 zk (zK (nQ (yA (yK [(.map (some b7))] ?_))))
 show L _ _ _ _ _ _ (Fm.put _ _ (.map (some b7))) _
 refine L_gmk (T := 67) .i32 vI32 ?_
 intro a7 f5 bi
 have o := zB o cn.below
 have ck := yS (yE o) bi
 have h := zB h cn.below
 have b3 := yS (yE h) bi
 have e := zB e cn.below
 have cf := yS (yE e) bi
 have bv := yS (yE d) bi
 have s := s.tr cn.below
 have cw := bi.ge s.size
 have c := bi.here
 refine zr (Value.agg #[(.map (some b7)), (.map (some a7))]) (zN [(.map (some b7)), (.map (some a7))] 69 ?_)
 intro z f6 bn
 have cb := yS (yE c) bn
 have b9 := NE.symm cb
 have s := s.tr bi.below
 have d5 := bn.ge s.size
 have b := bn.here
 refine zN [(.pointer none)] 27 ?_
 intro a6 f1 a8
 have h := zB (zB h bi.below) bn.below
 have ca := yS (yE h) a8
 have e := zB (zB e bi.below) bn.below
 have cl := yS (yE e) a8
 have d := zB (zB d bi.below) bn.below
 have bz := yS (yE d) a8
 have c := zB c bn.below
 have bw := yS (yE c) a8
 have ce := NE.symm bw
 have s := s.tr bn.below
 have dk := a8.ge s.size
 have g := a8.here
 refine z1 0 (pt z 0) [(pt z 0)] g ?_
 intro f7 bs
 have o := zB (zB (zB o bi.below) bn.below) a8.below
 have o := zH o bs (zP o g zi)
 have b := zB b a8.below
 have b := zH b bs (zP b g zi)
 have g := bs.here
 have s := (s.tr a8.below).trans (bs.below dk)
 have an := a1.below s
 refine nR (zr (.func (.func 53) #[] #[(pt b1 0)]) (zK (nW (wR (zJ (zln underlying50 (an).len (zJ (nQ (yF ?_)))))))))
 have c := zH (zB c a8.below) bs bw
 have d := zH (zB d a8.below) bs bz
 have e := zH (zB e a8.below) bs cl
 have h := zH (zB h a8.below) bs ca
 refine xG (fun m s0 w0 => ∃ (i : Nat) (tw : List (Int × Int)), (m = l.length - i) ∧ (s0.ds = []) ∧ ([1, 2, 4, 5, 6, 7, 8, 33, 34, 35].map s0.f = [cd, (pt b1 0), (.pointer none), (I6 0), (I6 0), (pt a6 0), (.func (.func 53) #[] #[(pt b1 0)]), cd, (N6 ((l).length)), (N6 i)]) ∧ (Rd w0 encTw cd l) ∧ (w0.heap[ao]? = some (.cells [(.map (some m_rs)), bm].toArray 69 (0, 0))) ∧ (w0.heap[m_rs]? = some (gmObj .i32 vBrk rs)) ∧ (w0.heap[b1]? = some (.cells [(pt ao 0)].toArray 27 (0, 0))) ∧ (w0.heap[b7]? = some (gmObj .i32 vBrk rs)) ∧ (w0.heap[a7]? = some (gmObj .i32 vI32 tw)) ∧ (w0.heap[z]? = some (.cells [(.map (some b7)), (.map (some a7))].toArray 69 (0, 0))) ∧ (w0.heap[a6]? = some (.cells [(pt z 0)].toArray 27 (0, 0))) ∧ (Below w.heap.size w w0) ∧ (i ≤ l.length) ∧ (tw = twsM rs (l.take i))) _ ⟨0, [], rfl, zk, zk, an, o, h, e, d, c, b, g, s, (Nat.zero_le _), rfl⟩ ?_
 rintro gw f0 gn ⟨i, tw, hm, aj, dd, an, o, h, e, d, c, b, g, s, i1, i2⟩
 refine yZ dd (wR (nLt i ((l).length) ?_ ?_))
 ·intro f2
  refine nW (zT (zW (zD (yC (yF (wR ?_))))))
  have hz := yB l i zo; obtain ⟨ar, d3⟩ := hz
  refine zEA an xV i d3 [(I3 ar.1), (I3 ar.2)] rfl fun _ => (zN [(I3 0), (I3 0)] 52 ?_)
  intro cg gk ag
  have bo := yS (yE h) ag
  have ai := yS (yE d) ag
  have b8 := yS (yE c) ag
  have b0 := ag.ge s.size
  have y := ag.here
  refine wE [(I3 ar.1), (I3 ar.2)] y ?_
  intro f9 ax
  have o := zB o ag.below
  have o := zH o ax (zP o y zi)
  have e := zB e ag.below
  have e := zH e ax (zP e y zi)
  have b := zB b ag.below
  have b := zH b ax (zP b y zi)
  have g := zB g ag.below
  have g := zH g ax (zP g y zi)
  have y := ax.here
  have c := zH (zB c ag.below) ax b8
  refine nW (yP zk zk (zX a6 0 (pt z 0) zk zf (zQ g rfl) (yD (pt z 0) zf (yD (pt z 1) zf (zX z 1 (.map (some a7)) zk zf (zQ b rfl) (yD (pt cg 0) zf (zX cg 0 (I3 ar.1) zk zf (zQ y rfl) (wV (k := .i32) (f := vI32) 0 ar.1 tw underlying67 underlying21 zk (GmAt.of c) zk zk (zU (yD (I3 ((gget tw ar.1).getD 0)) zf (yD (.bool ((gget tw ar.1).isSome)) zf (yL ((gget tw ar.1).isSome) ?_ ?_))))))))))))
  ·intro gm
   refine xH (xH (yG ?_))
   intro gg a5
   have o := zB o a5
   have y := zB y a5
   have e := zB e a5
   have h := zB (zH (zB h ag.below) ax bo) a5
   refine zD (wR (zJ (zOW y (zc (c_counts ar.1 ar.2 b1 ao m_rs rs bm _ e o h) ?_))))
   rintro _ gf ⟨rfl, a0⟩
   refine yN ((gget rs ar.1).isSome) ?_ ?_
   ·intro gl
    refine zJ (zw (zJ (zw (qW true (xS (nQ (zF (zW (zL (zD (zY (xR i 1 (zJ (zS ?_))))))))))))))
    have s := (((s.tr ag.below).trans (ax.below b0)).tr a5).tr a0
    have o := zB o a0
    have c := zB (zB c a5) a0
    have d := zB (zB (zH (zB d ag.below) ax ai) a5) a0
    have e := zB e a0
    have b := zB (zB b a5) a0
    have g := zB (zB g a5) a0
    have an := a1.below s
    have h := zB h a0
    exact zD ⟨_, zo, (i + 1), tw, rfl, aj, zk, an, o, h, e, d, c, b, g, s, zo, tws_had i2 za za⟩
   intro fw
   refine zJ (zs (zs (xY (nQ (zF (zW (zL (zD (zY (xR i 1 (zJ (zS ?_))))))))))))
   have s := (((s.tr ag.below).trans (ax.below b0)).tr a5).tr a0
   have o := zB o a0
   have c := zB (zB c a5) a0
   have d := zB (zB (zH (zB d ag.below) ax ai) a5) a0
   have e := zB e a0
   have b := zB (zB b a5) a0
   have g := zB (zB g a5) a0
   have an := a1.below s
   have h := zB h a0
   exact zD ⟨_, zo, (i + 1), tw, rfl, aj, zk, an, o, h, e, d, c, b, g, s, zo, tws_no i2 za za⟩
  intro fx
  refine xH (xH (yG ?_))
  intro fu a4
  have o := zB o a4
  have y := zB y a4
  have e := zB e a4
  have h := zB (zH (zB h ag.below) ax bo) a4
  refine zD (wR (zJ (zOW y (zc (c_counts ar.1 ar.2 b1 ao m_rs rs bm _ e o h) ?_))))
  rintro _ go ⟨rfl, am⟩
  refine yN ((gget rs ar.1).isSome) ?_ ?_
  ·intro gj
   refine zJ (zw (zJ (zw (qW false (xS (nQ (zT (xD 8 9 zk zk zk ?_))))))))
   intro gu bk
   refine ⟨fun w => (w.heap[a6]? = some (.cells [(pt z 0)].toArray 27 (0, 0))) ∧ (w.heap[z]? = some (.cells [(.map (some b7)), (.map (some a7))].toArray 69 (0, 0))) ∧ (w.heap[cg]? = some (.cells [(I3 ar.1), (I3 ar.2)].toArray 52 (0, 0))), ?_⟩
   have y := zB (zB y am) bk
   have b := zB (zB (zB b a4) am) bk
   have g := zB (zB (zB g a4) am) bk
   refine mt 0 [0, 1, 2, 3, 8] rfl (pt z 0) ⟨g, b, y⟩ (yQ a6 0 (pt z 0) zk zf (fun w2 h2 => zQ h2.1 rfl)) (hq := (zC (zA (zA (zC (zA zG)))))) (mp 1 rfl (pt z 0) (.inr ⟨g, b, y⟩) zg (hq := (zC (zA (zA (zC (zA zG)))))) (mp 2 rfl (pt z 1) (.inr ⟨g, b, y⟩) zg (hq := (zC (zA (zA (zC (zA zG)))))) (mt 3 [3, 8] rfl (.map (some a7)) ⟨g, b, y⟩ (yQ z 1 (.map (some a7)) zk zf (fun w2 h2 => zQ h2.2.1 rfl)) (hq := (zC (zA (zA (zC (zA zG)))))) (mp 4 rfl (pt cg 0) (.inr ⟨g, b, y⟩) zg (hq := (zC (zA (zA (zC (zA zG)))))) (mt 5 [5, 8] rfl (I3 ar.1) ⟨g, b, y⟩ (yQ cg 0 (I3 ar.1) zk zf (fun w2 h2 => zQ h2.2.2 rfl)) (hq := (zC (zA (zA (zC (zA zG)))))) (mp 6 rfl (pt cg 1) (.inr ⟨g, b, y⟩) zg (hq := (zC (zA (zA (zC (zA zG)))))) (mt 7 [7, 8] rfl (I3 ar.2) ⟨g, b, y⟩ (yQ cg 1 (I3 ar.2) zk zf (fun w2 h2 => zQ h2.2.2 rfl)) (hq := (zC (zA (zA (zC (zA zG)))))) (yH 8 zk ?_))))))))
   refine yR 8 rfl ?_ rfl
   have c := zB (zB (zB c a4) am) bk
   refine L_glay (k := .i32) (f := vI32) a7 ar.1 ar.2 tw underlying67 underlying21 c zk zk zk (by first | exact isn za | (omega)) ?_
   intro fv br
   have c := br.here
   refine zS ?_
   refine ⟨rfl, .inl zk, yT zk (zL (zD (zY (xR i 1 (zJ (zS ?_))))))⟩
   have s := (((((s.tr ag.below).trans (ax.below b0)).tr a4).tr am).tr bk).trans (br.below cw)
   have o := zH (zB (zB o am) bk) br ck
   have d := zH (zB (zB (zB (zH (zB d ag.below) ax ai) a4) am) bk) br bv
   have e := zH (zB (zB e am) bk) br cf
   have b := zH b br b9
   have g := zH g br ce
   have an := a1.below s
   have h := zH (zB (zB h am) bk) br b3
   exact zD ⟨_, zo, (i + 1), (tw ++ [(ar.1, ar.2)]), rfl, aj, zk, an, o, h, e, d, c, b, g, s, zo, tws_add i2 za za za⟩
  intro gb
  refine zJ (zs (zs (xY (nQ (zF (zW (zL (zD (zY (xR i 1 (zJ (zS ?_))))))))))))
  have s := (((s.tr ag.below).trans (ax.below b0)).tr a4).tr am
  have o := zB o am
  have c := zB (zB c a4) am
  have d := zB (zB (zH (zB d ag.below) ax ai) a4) am
  have e := zB e am
  have b := zB (zB b a4) am
  have g := zB (zB g a4) am
  have an := a1.below s
  have h := zB h am
  exact zD ⟨_, zo, (i + 1), tw, rfl, aj, zk, an, o, h, e, d, c, b, g, s, zo, tws_no i2 za za⟩
 intro gc
 refine nW (zF (yU (zV (zV (yI (zD (wR (zr (.func (.func 54) #[] #[(pt a6 0)]) (zK (nW (wR (zJ (zln underlying50 (an).len (zJ (nQ (yF (xG (fun m s0 w0 => ∃ (j : Nat), (m = l.length - j) ∧ (s0.ds = []) ∧ ([2, 7, 8, 13, 66, 67, 68].map s0.f = [(pt b1 0), (pt a6 0), (.func (.func 53) #[] #[(pt b1 0)]), (.func (.func 54) #[] #[(pt a6 0)]), cd, (N6 ((l).length)), (N6 j)]) ∧ (Rd w0 encTw cd l) ∧ (w0.heap[ao]? = some (.cells [(.map (some m_rs)), bm].toArray 69 (0, 0))) ∧ (w0.heap[m_rs]? = some (gmObj .i32 vBrk rs)) ∧ (w0.heap[b1]? = some (.cells [(pt ao 0)].toArray 27 (0, 0))) ∧ (w0.heap[b7]? = some (gmObj .i32 vBrk rs)) ∧ (w0.heap[a7]? = some (gmObj .i32 vI32 tw)) ∧ (w0.heap[z]? = some (.cells [(.map (some b7)), (.map (some a7))].toArray 69 (0, 0))) ∧ (w0.heap[a6]? = some (.cells [(pt z 0)].toArray 27 (0, 0))) ∧ (Below w.heap.size w w0) ∧ (j ≤ l.length) ∧ (BadI rs tw l j)) _ ⟨0, rfl, aj, zk, an, o, h, e, d, c, b, g, s, (Nat.zero_le _), BadI.zero⟩ ?_)))))))))))))))))
 rintro g1 gq ga ⟨j, hm, aj, dd, an, o, h, e, d, c, b, g, s, j1, j2⟩
 refine yZ dd (wR (nLt j ((l).length) ?_ ?_))
 ·intro gr
  refine nW (zT (zW (zD (yC (yF (wR (zJ ?_)))))))
  have hz := yB l j zo; obtain ⟨a, dj⟩ := hz
  refine zEA an xV j dj [(I3 a.1), (I3 a.2)] rfl fun _ => (zN [(I3 0), (I3 0)] 52 ?_)
  intro bb gh ay
  have b5 := yS (yE h) ay
  have bd := yS (yE d) ay
  have bt := yS (yE c) ay
  have cq := ay.ge s.size
  have n := ay.here
  refine zK (wE [(I3 a.1), (I3 a.2)] n ?_)
  intro gi ba
  have o := zB o ay.below
  have o := zH o ba (zP o n zi)
  have e := zB e ay.below
  have e := zH e ba (zP e n zi)
  have b := zB b ay.below
  have b := zH b ba (zP b n zi)
  have g := zB g ay.below
  have g := zH g ba (zP g n zi)
  have n := ba.here
  have h := zH (zB h ay.below) ba b5
  refine nW (wR (zJ (zOW n (zc (c_counts a.1 a.2 b1 ao m_rs rs bm _ e o h) ?_))))
  rintro _ gx ⟨rfl, ap⟩
  refine yN ((gget rs a.1).isSome) ?_ ?_
  ·intro f3
   refine qW true (nQ (zF (zW (zD (yC (xD 8 9 zk zk zk ?_))))))
   intro g0 bl
   refine ⟨fun w => (w.heap[b1]? = some (.cells [(pt ao 0)].toArray 27 (0, 0))) ∧ (w.heap[ao]? = some (.cells [(.map (some m_rs)), bm].toArray 69 (0, 0))) ∧ (w.heap[bb]? = some (.cells [(I3 a.1), (I3 a.2)].toArray 52 (0, 0))) ∧ (w.heap[m_rs]? = some (gmObj .i32 vBrk rs)), ?_⟩
   have o := zB (zB o ap) bl
   have n := zB (zB n ap) bl
   have e := zB (zB e ap) bl
   have h := zB (zB h ap) bl
   refine mt 0 [0, 1, 2, 3, 6, 8] rfl (pt ao 0) ⟨e, o, n, h⟩ (yQ b1 0 (pt ao 0) zk zf (fun w2 h2 => zQ h2.1 rfl)) (hq := (zA (zC (zA (zA (zC (zA zG))))))) (mp 1 rfl (pt ao 0) (.inr ⟨e, o, n, h⟩) zg (hq := (zA (zC (zA (zA (zC (zA zG))))))) (mp 2 rfl (pt ao 0) (.inr ⟨e, o, n, h⟩) zg (hq := (zA (zC (zA (zA (zC (zA zG))))))) (mt 3 [3, 6, 8] rfl (.map (some m_rs)) ⟨e, o, n, h⟩ (yQ ao 0 (.map (some m_rs)) zk zf (fun w2 h2 => zQ h2.2.1 rfl)) (hq := (zA (zC (zA (zA (zC (zA zG))))))) (mp 4 rfl (pt bb 0) (.inr ⟨e, o, n, h⟩) zg (hq := (zA (zC (zA (zA (zC (zA zG))))))) (mt 5 [5, 6, 8] rfl (I3 a.1) ⟨e, o, n, h⟩ (yQ bb 0 (I3 a.1) zk zf (fun w2 h2 => zQ h2.2.2.1 rfl)) (hq := (zA (zC (zA (zA (zC (zA zG))))))) (mt 6 [6, 8] rfl (Value.agg #[(I3 ((lookB rs a.1).1)), (I3 ((lookB rs a.1).2.1)), (U8 ((lookB rs a.1).2.2))]) ⟨e, o, n, h⟩ (R_glook1 (k := .i32) (f := vBrk) (0, 0, 0) a.1 rs underlying66 underlying21 zk zk zk (fun w2 h2 => GmAt.of h2.2.2.2)) (hq := (zA (zC (zA (zA (zC (zA zG))))))) (yH 7 zk ?_)))))))
   refine yR 7 rfl ?_ rfl
   refine zN [(I3 0), (I3 0), (U8 0)] 26 ?_
   intro bc fz al
   have b4 := yS (yE h) al
   have d := zB (zB (zH (zB d ay.below) ba bd) ap) bl
   have bh := yS (yE d) al
   have c := zB (zB (zH (zB c ay.below) ba bt) ap) bl
   have bf := yS (yE c) al
   have s := (((s.tr ay.below).trans (ba.below cq)).tr ap).tr bl
   have cc := al.ge s.size
   have r := al.here
   refine zS ?_
   have o := zB o al.below
   have n := zB n al.below
   have e := zB e al.below
   have h := zB h al.below
   refine ⟨rfl, .inr ⟨e, o, n, h⟩, yH 8 zk (yR 8 rfl ?_ rfl)⟩
   refine wE [(I3 ((lookB rs a.1).1)), (I3 ((lookB rs a.1).2.1)), (U8 ((lookB rs a.1).2.2))] r ?_
   intro gy a3
   have o := zH o a3 (zP o r zi)
   have e := zH e a3 (zP e r zi)
   have b := zB (zB (zB b ap) bl) al.below
   have b := zH b a3 (zP b r zi)
   have g := zB (zB (zB g ap) bl) al.below
   have g := zH g a3 (zP g r zi)
   have n := zH n a3 (zP n r zi)
   have r := a3.here
   refine zS ?_
   refine ⟨rfl, .inl zk, yT zk (zD (yC (xD 11 13 zk zk zk ?_)))⟩
   intro f4 ac
   refine ⟨fun w => (w.heap[b1]? = some (.cells [(pt ao 0)].toArray 27 (0, 0))) ∧ (w.heap[ao]? = some (.cells [(.map (some m_rs)), bm].toArray 69 (0, 0))) ∧ (w.heap[bb]? = some (.cells [(I3 a.1), (I3 a.2)].toArray 52 (0, 0))) ∧ (w.heap[m_rs]? = some (gmObj .i32 vBrk rs)), ?_⟩
   have o := zB o ac
   have n := zB n ac
   have e := zB e ac
   have h := zB (zH h a3 b4) ac
   refine mt 0 [0, 1, 2, 3, 6, 7, 8, 9, 11, 12] rfl (pt ao 0) ⟨e, o, n, h⟩ (yQ b1 0 (pt ao 0) zk zf (fun w2 h2 => zQ h2.1 rfl)) (hq := (zA (zC (zA (zA (zC (zA zG))))))) (mp 1 rfl (pt ao 0) (.inr ⟨e, o, n, h⟩) zg (hq := (zA (zC (zA (zA (zC (zA zG))))))) (mp 2 rfl (pt ao 0) (.inr ⟨e, o, n, h⟩) zg (hq := (zA (zC (zA (zA (zC (zA zG))))))) (mt 3 [3, 6, 7, 8, 9, 11, 12] rfl (.map (some m_rs)) ⟨e, o, n, h⟩ (yQ ao 0 (.map (some m_rs)) zk zf (fun w2 h2 => zQ h2.2.1 rfl)) (hq := (zA (zC (zA (zA (zC (zA zG))))))) (mp 4 rfl (pt bb 1) (.inr ⟨e, o, n, h⟩) zg (hq := (zA (zC (zA (zA (zC (zA zG))))))) (mt 5 [5, 6, 7, 8, 9, 11, 12] rfl (I3 a.2) ⟨e, o, n, h⟩ (yQ bb 1 (I3 a.2) zk zf (fun w2 h2 => zQ h2.2.2.1 rfl)) (hq := (zA (zC (zA (zA (zC (zA zG))))))) (mt 6 [6, 7, 8, 9, 11, 12] rfl (.tuple #[(Value.agg #[(I3 ((lookB rs a.2).1)), (I3 ((lookB rs a.2).2.1)), (U8 ((lookB rs a.2).2.2))]), (.bool ((gget rs a.2).isSome))]) ⟨e, o, n, h⟩ (R_glook (k := .i32) (f := vBrk) (0, 0, 0) a.2 rs underlying66 underlying21 zk zk zk (fun w2 h2 => GmAt.of h2.2.2.2)) (hq := (zA (zC (zA (zA (zC (zA zG))))))) (mp 7 rfl (.tuple #[(Value.agg #[(I3 ((lookB rs a.2).1)), (I3 ((lookB rs a.2).2.1)), (U8 ((lookB rs a.2).2.2))]), (.bool ((gget rs a.2).isSome))]) (.inr ⟨e, o, n, h⟩) zg (hq := (zA (zC (zA (zA (zC (zA zG))))))) (mp 8 rfl (Value.agg #[(I3 ((lookB rs a.2).1)), (I3 ((lookB rs a.2).2.1)), (U8 ((lookB rs a.2).2.2))]) (.inr ⟨e, o, n, h⟩) zg (hq := (zA (zC (zA (zA (zC (zA zG))))))) ?_))))))))
   refine wG 9 10 zk ?_ ?_
   ·skip
    refine yR 9 rfl ?_ rfl
    refine zr (.bool ((gget rs a.2).isSome)) (yN ((gget rs a.2).isSome) ?_ ?_)
    ·intro fy
     refine zS ?_
     refine ⟨rfl, .inr ⟨e, o, n, h⟩, yH 10 zk (yR 10 rfl ?_ rfl)⟩
     refine zN [(I3 0), (I3 0), (U8 0)] 26 ?_
     intro cj gd af
     have a2 := yS (yE h) af
     have d := zB (zH (zB d al.below) a3 bh) ac
     have ak := yS (yE d) af
     have c := zB (zH (zB c al.below) a3 bf) ac
     have aa := yS (yE c) af
     have r := zB r ac
     have ad := yS (yE r) af
     have s := ((s.tr al.below).trans (a3.below cc)).tr ac
     have u := af.ge s.size
     have p := af.here
     refine zS ?_
     have o := zB o af.below
     have n := zB n af.below
     have e := zB e af.below
     have h := zB h af.below
     refine ⟨rfl, .inr ⟨e, o, n, h⟩, yH 11 zk (yR 11 rfl ?_ rfl)⟩
     refine wE [(I3 ((lookB rs a.2).1)), (I3 ((lookB rs a.2).2.1)), (U8 ((lookB rs a.2).2.2))] p ?_
     intro g2 az
     have o := zH o az (zP o p zi)
     have e := zH e az (zP e p zi)
     have b := zB (zB b ac) af.below
     have b := zH b az (zP b p zi)
     have g := zB (zB g ac) af.below
     have g := zH g az (zP g p zi)
     have n := zH n az (zP n p zi)
     have p := az.here
     refine zS ?_
     refine ⟨rfl, .inl zk, ?_⟩
     have c := zH (zB c af.below) az aa
     refine mp 12 rfl (.bool true) (.inl zk) zg (hq := (zA (zC (zA (zA (zC (zA zG))))))) (yT zk (zD (yC (yP zk zk (zX a6 0 (pt z 0) zk zf (zQ g rfl) (yD (pt z 0) zf (yD (pt z 1) zf (zX z 1 (.map (some a7)) zk zf (zQ b rfl) (yD (pt bb 1) zf (zX bb 1 (I3 a.2) zk zf (zQ n rfl) (wV (k := .i32) (f := vI32) 0 a.2 tw underlying67 underlying21 zk (GmAt.of c) zk zk (zU (yD (I3 ((gget tw a.2).getD 0)) zf (yD (.bool ((gget tw a.2).isSome)) zf (yL ((gget tw a.2).isSome) ?_ ?_)))))))))))))))
     ·intro gz
      refine xH (xH (yG ?_))
      intro f8 ci
      have r := zB (zH (zB r af.below) az ad) ci
      have p := zB p ci
      refine zD (yC (yP zk zk (zU (xF true zk (zU (qw (yD (pt cj 2) zf (qw (zX cj 2 (U8 ((lookB rs a.2).2.2)) zk zf (zQ p rfl) (qw (yD (pt bc 2) zf (qw (zX bc 2 (U8 ((lookB rs a.1).2.2)) zk zf (zQ r rfl) (qw (xB .u8 ((lookB rs a.2).2.2) ((lookB rs a.1).2.2) ((lookB rs a.2).2.2 ≠ (lookB rs a.1).2.2) rfl (xN ((lookB rs a.2).2.2) ((lookB rs a.1).2.2)) zk zk ?_ ?_)))))))))))))))
      ·intro d4
       replace d4 : (lookB rs a.2).2.2 ≠ (lookB rs a.1).2.2 := by omega
       refine qF (zU (qs (qT (zU (qs (qs (qs (qs (qs (qs (qs (qT (yG ?_)))))))))))))
       intro gs dr
       have s := (((s.tr af.below).trans (az.below u)).tr ci).tr dr
       exact zD (zT (wR (zJ (zK (zK (zK (nQ (yA (zR (zI (zI (zR (zI (yK [(.pointer none), (N6 j), (I6 83)] (hd := aj) ⟨wK rfl (congrArg (fun x : Nat => Value.int .i64 (x : Int)) (by exact (qK i2 zo (j2.hit za (qY za za))).symm)) rfl, s⟩))))))))))))))
      intro d7
      replace d7 : (lookB rs a.2).2.2 = (lookB rs a.1).2.2 := by omega
      refine qF (zU (qw (zU (qF (zU (qs (qs (qs (qs (qs (qs (qs (qT (yG ?_))))))))))))))
      intro gp dq
      have s := (((s.tr af.below).trans (az.below u)).tr ci).tr dq
      exact zD (zT (wR (zJ (zK (zK (zK (nQ (yA (zR (zI (zI (zR (zI (yK [(.pointer none), (N6 j), (I6 83)] (hd := aj) ⟨wK rfl (congrArg (fun x : Nat => Value.int .i64 (x : Int)) (by exact (qK i2 zo (j2.hit za (bt_3 za za))).symm)) rfl, s⟩))))))))))))))
     intro ez
     refine xH (xH (yG ?_))
     intro fs aq
     have r := zB (zH (zB r af.below) az ad) aq
     have p := zB p aq
     refine zD (yC (yP zk zk (zU (xF true zk (zU (qw (yD (pt cj 2) zf (qw (zX cj 2 (U8 ((lookB rs a.2).2.2)) zk zf (zQ p rfl) (qw (yD (pt bc 2) zf (qw (zX bc 2 (U8 ((lookB rs a.1).2.2)) zk zf (zQ r rfl) (qw (xB .u8 ((lookB rs a.2).2.2) ((lookB rs a.1).2.2) ((lookB rs a.2).2.2 ≠ (lookB rs a.1).2.2) rfl (xN ((lookB rs a.2).2.2) ((lookB rs a.1).2.2)) zk zk ?_ ?_)))))))))))))))
     ·intro d0
      replace d0 : (lookB rs a.2).2.2 ≠ (lookB rs a.1).2.2 := by omega
      refine qF (zU (qs (qT (zU (qs (qs (qs (qs (qs (qs (qs (qT (yG ?_)))))))))))))
      intro fl db
      have s := (((s.tr af.below).trans (az.below u)).tr aq).tr db
      exact zD (zT (wR (zJ (zK (zK (zK (nQ (yA (zR (zI (zI (zR (zI (yK [(.pointer none), (N6 j), (I6 83)] (hd := aj) ⟨wK rfl (congrArg (fun x : Nat => Value.int .i64 (x : Int)) (by exact (qK i2 zo (j2.hit za (qY za za))).symm)) rfl, s⟩))))))))))))))
     intro dy
     replace dy : (lookB rs a.2).2.2 = (lookB rs a.1).2.2 := by omega
     have c := zB c aq
     have b := zB b aq
     have g := zB g aq
     refine qF (zU (qw (zU (qF (zU (qw (zU (qw (yD (pt bc 1) zf (qw (zX bc 1 (I3 ((lookB rs a.1).2.1)) zk zf (zQ r rfl) (qw (xE 54 [(I3 ((lookB rs a.1).2.1)), (pt a6 0)] (I3 (tw1 tw ((lookB rs a.1).2.1))) zg (fun wq hbq => c_twin ((lookB rs a.1).2.1) a6 z (.map (some b7)) (.map (some a7)) tw wq (zB g hbq) (zB b hbq) (GmAt.of (zB c hbq))) (qw (yD (pt cj 1) zf (qw (zX cj 1 (I3 ((lookB rs a.2).2.1)) zk zf (zQ p rfl) (qw (xB .i32 (tw1 tw ((lookB rs a.1).2.1)) ((lookB rs a.2).2.1) ((tw1 tw ((lookB rs a.1).2.1)) ≠ (lookB rs a.2).2.1) rfl (xN (tw1 tw ((lookB rs a.1).2.1)) ((lookB rs a.2).2.1)) zk zk ?_ ?_)))))))))))))))))))
     ·intro dw
      replace dw : (tw1 tw ((lookB rs a.1).2.1)) ≠ (lookB rs a.2).2.1 := by omega
      refine qF (yG ?_)
      intro ed c1
      have s := (((s.tr af.below).trans (az.below u)).tr aq).tr c1
      exact zD (zT (wR (zJ (zK (zK (zK (nQ (yA (zR (zI (zI (zR (zI (yK [(.pointer none), (N6 j), (I6 83)] (hd := aj) ⟨wK rfl (congrArg (fun x : Nat => Value.int .i64 (x : Int)) (by exact (qK i2 zo (j2.hit za (bt_4 za za))).symm)) rfl, s⟩))))))))))))))
     intro d2
     replace d2 : (tw1 tw ((lookB rs a.1).2.1)) = (lookB rs a.2).2.1 := by omega
     refine qF (yG ?_)
     intro ft bj
     refine zD (zF (zW (zL (zD (zY (xR j 1 (zJ (zS ?_))))))))
     have s := (((s.tr af.below).trans (az.below u)).tr aq).tr bj
     have o := zB (zB o aq) bj
     have c := zB c bj
     have d := zB (zB (zH (zB d af.below) az ak) aq) bj
     have e := zB (zB e aq) bj
     have b := zB b bj
     have g := zB g bj
     have an := a1.below s
     have h := zB (zB (zH h az a2) aq) bj
     exact zD ⟨_, zo, (j + 1), rfl, aj, zk, an, o, h, e, d, c, b, g, s, zo, j2.step za (bt_ok za za za za za)⟩
    intro fi
    refine zS ?_
    refine ⟨rfl, .inr ⟨e, o, n, h⟩, yH 10 zk (yR 10 rfl ?_ rfl)⟩
    refine zN [(I3 0), (I3 0), (U8 0)] 26 ?_
    intro el eo av
    have c := zB (zH (zB c al.below) a3 bf) ac
    have aa := yS (yE c) av
    have s := ((s.tr al.below).trans (a3.below cc)).tr ac
    have u := av.ge s.size
    have p := av.here
    refine zS ?_
    have o := zB o av.below
    have n := zB n av.below
    have e := zB e av.below
    have h := zB h av.below
    refine ⟨rfl, .inr ⟨e, o, n, h⟩, yH 11 zk (yR 11 rfl ?_ rfl)⟩
    refine wE [(I3 ((lookB rs a.2).1)), (I3 ((lookB rs a.2).2.1)), (U8 ((lookB rs a.2).2.2))] p ?_
    intro ee bp
    have b := zB (zB b ac) av.below
    have b := zH b bp (zP b p zi)
    have g := zB (zB g ac) av.below
    have g := zH g bp (zP g p zi)
    have n := zH n bp (zP n p zi)
    refine zS ?_
    refine ⟨rfl, .inl zk, ?_⟩
    have c := zH (zB c av.below) bp aa
    refine mp 12 rfl (.bool false) (.inl zk) zg (hq := (zA (zC (zA (zA (zC (zA zG))))))) (yT zk (zD (yC (yP zk zk (zX a6 0 (pt z 0) zk zf (zQ g rfl) (yD (pt z 0) zf (yD (pt z 1) zf (zX z 1 (.map (some a7)) zk zf (zQ b rfl) (yD (pt bb 1) zf (zX bb 1 (I3 a.2) zk zf (zQ n rfl) (wV (k := .i32) (f := vI32) 0 a.2 tw underlying67 underlying21 zk (GmAt.of c) zk zk (zU (yD (I3 ((gget tw a.2).getD 0)) zf (yD (.bool ((gget tw a.2).isSome)) zf (yL ((gget tw a.2).isSome) ?_ ?_)))))))))))))))
    ·intro ep
     refine xH (xH (yG ?_))
     intro d9 dc
     refine zD (yC (yP zk zk (zU (xF false zk (zU (qs (qs (qs (qs (qs (qT (zU (qs (qT (zU (qs (qs (qs (qs (qs (qs (qs (qT (yG ?_))))))))))))))))))))))))
     intro e5 cy
     have s := (((s.tr av.below).trans (bp.below u)).tr dc).tr cy
     exact zD (zT (wR (zJ (zK (zK (zK (nQ (yA (zR (zI (zI (zR (zI (yK [(.pointer none), (N6 j), (I6 83)] (hd := aj) ⟨wK rfl (congrArg (fun x : Nat => Value.int .i64 (x : Int)) (by exact (qK i2 zo (j2.hit za (qZ za za))).symm)) rfl, s⟩))))))))))))))
    intro es
    refine xH (xH (yG ?_))
    intro eb c0
    refine zD (yC (yP zk zk (zU (xF false zk (zU (qs (qs (qs (qs (qs (qT (zU (qs (qT (zU (qs (qs (qs (qs (qs (qs (qs (qT (yG ?_))))))))))))))))))))))))
    intro ej cx
    have s := (((s.tr av.below).trans (bp.below u)).tr c0).tr cx
    exact zD (zT (wR (zJ (zK (zK (zK (nQ (yA (zR (zI (zI (zR (zI (yK [(.pointer none), (N6 j), (I6 83)] (hd := aj) ⟨wK rfl (congrArg (fun x : Nat => Value.int .i64 (x : Int)) (by exact (qK i2 zo (j2.hit za (qZ za za))).symm)) rfl, s⟩))))))))))))))
   skip
   refine yR 10 rfl ?_ rfl
   refine zN [(I3 0), (I3 0), (U8 0)] 26 ?_
   intro a9 ea q
   have a2 := yS (yE h) q
   have d := zB (zH (zB d al.below) a3 bh) ac
   have ak := yS (yE d) q
   have c := zB (zH (zB c al.below) a3 bf) ac
   have aa := yS (yE c) q
   have r := zB r ac
   have ad := yS (yE r) q
   have s := ((s.tr al.below).trans (a3.below cc)).tr ac
   have u := q.ge s.size
   have p := q.here
   refine zS ?_
   have o := zB o q.below
   have n := zB n q.below
   have e := zB e q.below
   have h := zB h q.below
   refine ⟨rfl, .inr ⟨e, o, n, h⟩, wG 9 11 zk ?_ ?_⟩
   ·skip
    refine yR 9 rfl ?_ rfl
    refine zr (.bool ((gget rs a.2).isSome)) (yN ((gget rs a.2).isSome) ?_ ?_)
    ·intro ey
     refine zS ?_
     refine ⟨rfl, .inr ⟨e, o, n, h⟩, yH 11 zk (yR 11 rfl ?_ rfl)⟩
     refine wE [(I3 ((lookB rs a.2).1)), (I3 ((lookB rs a.2).2.1)), (U8 ((lookB rs a.2).2.2))] p ?_
     intro fp ae
     have o := zH o ae (zP o p zi)
     have e := zH e ae (zP e p zi)
     have b := zB (zB b ac) q.below
     have b := zH b ae (zP b p zi)
     have g := zB (zB g ac) q.below
     have g := zH g ae (zP g p zi)
     have n := zH n ae (zP n p zi)
     have p := ae.here
     refine zS ?_
     refine ⟨rfl, .inl zk, ?_⟩
     have c := zH (zB c q.below) ae aa
     refine mp 12 rfl (.bool true) (.inl zk) zg (hq := (zA (zC (zA (zA (zC (zA zG))))))) (yT zk (zD (yC (yP zk zk (zX a6 0 (pt z 0) zk zf (zQ g rfl) (yD (pt z 0) zf (yD (pt z 1) zf (zX z 1 (.map (some a7)) zk zf (zQ b rfl) (yD (pt bb 1) zf (zX bb 1 (I3 a.2) zk zf (zQ n rfl) (wV (k := .i32) (f := vI32) 0 a.2 tw underlying67 underlying21 zk (GmAt.of c) zk zk (zU (yD (I3 ((gget tw a.2).getD 0)) zf (yD (.bool ((gget tw a.2).isSome)) zf (yL ((gget tw a.2).isSome) ?_ ?_)))))))))))))))
     ·intro fb
      refine xH (xH (yG ?_))
      intro fj b2
      have r := zB (zH (zB r q.below) ae ad) b2
      have p := zB p b2
      refine zD (yC (yP zk zk (zU (xF true zk (zU (qw (yD (pt a9 2) zf (qw (zX a9 2 (U8 ((lookB rs a.2).2.2)) zk zf (zQ p rfl) (qw (yD (pt bc 2) zf (qw (zX bc 2 (U8 ((lookB rs a.1).2.2)) zk zf (zQ r rfl) (qw (xB .u8 ((lookB rs a.2).2.2) ((lookB rs a.1).2.2) ((lookB rs a.2).2.2 ≠ (lookB rs a.1).2.2) rfl (xN ((lookB rs a.2).2.2) ((lookB rs a.1).2.2)) zk zk ?_ ?_)))))))))))))))
      ·intro dz
       replace dz : (lookB rs a.2).2.2 ≠ (lookB rs a.1).2.2 := by omega
       refine qF (zU (qs (qT (zU (qs (qs (qs (qs (qs (qs (qs (qT (yG ?_)))))))))))))
       intro e6 c4
       have s := (((s.tr q.below).trans (ae.below u)).tr b2).tr c4
       exact zD (zT (wR (zJ (zK (zK (zK (nQ (yA (zR (zI (zI (zR (zI (yK [(.pointer none), (N6 j), (I6 83)] (hd := aj) ⟨wK rfl (congrArg (fun x : Nat => Value.int .i64 (x : Int)) (by exact (qK i2 zo (j2.hit za (qY za za))).symm)) rfl, s⟩))))))))))))))
      intro di
      replace di : (lookB rs a.2).2.2 = (lookB rs a.1).2.2 := by omega
      refine qF (zU (qw (zU (qF (zU (qs (qs (qs (qs (qs (qs (qs (qT (yG ?_))))))))))))))
      intro fd c2
      have s := (((s.tr q.below).trans (ae.below u)).tr b2).tr c2
      exact zD (zT (wR (zJ (zK (zK (zK (nQ (yA (zR (zI (zI (zR (zI (yK [(.pointer none), (N6 j), (I6 83)] (hd := aj) ⟨wK rfl (congrArg (fun x : Nat => Value.int .i64 (x : Int)) (by exact (qK i2 zo (j2.hit za (bt_3 za za))).symm)) rfl, s⟩))))))))))))))
     intro ei
     refine xH (xH (yG ?_))
     intro fh aw
     have r := zB (zH (zB r q.below) ae ad) aw
     have p := zB p aw
     refine zD (yC (yP zk zk (zU (xF true zk (zU (qw (yD (pt a9 2) zf (qw (zX a9 2 (U8 ((lookB rs a.2).2.2)) zk zf (zQ p rfl) (qw (yD (pt bc 2) zf (qw (zX bc 2 (U8 ((lookB rs a.1).2.2)) zk zf (zQ r rfl) (qw (xB .u8 ((lookB rs a.2).2.2) ((lookB rs a.1).2.2) ((lookB rs a.2).2.2 ≠ (lookB rs a.1).2.2) rfl (xN ((lookB rs a.2).2.2) ((lookB rs a.1).2.2)) zk zk ?_ ?_)))))))))))))))
     ·intro dl
      replace dl : (lookB rs a.2).2.2 ≠ (lookB rs a.1).2.2 := by omega
      refine qF (zU (qs (qT (zU (qs (qs (qs (qs (qs (qs (qs (qT (yG ?_)))))))))))))
      intro e3 ct
      have s := (((s.tr q.below).trans (ae.below u)).tr aw).tr ct
      exact zD (zT (wR (zJ (zK (zK (zK (nQ (yA (zR (zI (zI (zR (zI (yK [(.pointer none), (N6 j), (I6 83)] (hd := aj) ⟨wK rfl (congrArg (fun x : Nat => Value.int .i64 (x : Int)) (by exact (qK i2 zo (j2.hit za (qY za za))).symm)) rfl, s⟩))))))))))))))
     intro dn
     replace dn : (lookB rs a.2).2.2 = (lookB rs a.1).2.2 := by omega
     have c := zB c aw
     have b := zB b aw
     have g := zB g aw
     refine qF (zU (qw (zU (qF (zU (qw (zU (qw (yD (pt bc 1) zf (qw (zX bc 1 (I3 ((lookB rs a.1).2.1)) zk zf (zQ r rfl) (qw (xE 54 [(I3 ((lookB rs a.1).2.1)), (pt a6 0)] (I3 (tw1 tw ((lookB rs a.1).2.1))) zg (fun wq hbq => c_twin ((lookB rs a.1).2.1) a6 z (.map (some b7)) (.map (some a7)) tw wq (zB g hbq) (zB b hbq) (GmAt.of (zB c hbq))) (qw (yD (pt a9 1) zf (qw (zX a9 1 (I3 ((lookB rs a.2).2.1)) zk zf (zQ p rfl) (qw (xB .i32 (tw1 tw ((lookB rs a.1).2.1)) ((lookB rs a.2).2.1) ((tw1 tw ((lookB rs a.1).2.1)) ≠ (lookB rs a.2).2.1) rfl (xN (tw1 tw ((lookB rs a.1).2.1)) ((lookB rs a.2).2.1)) zk zk ?_ ?_)))))))))))))))))))
     ·intro d1
      replace d1 : (tw1 tw ((lookB rs a.1).2.1)) ≠ (lookB rs a.2).2.1 := by omega
      refine qF (yG ?_)
      intro ev c9
      have s := (((s.tr q.below).trans (ae.below u)).tr aw).tr c9
      exact zD (zT (wR (zJ (zK (zK (zK (nQ (yA (zR (zI (zI (zR (zI (yK [(.pointer none), (N6 j), (I6 83)] (hd := aj) ⟨wK rfl (congrArg (fun x : Nat => Value.int .i64 (x : Int)) (by exact (qK i2 zo (j2.hit za (bt_4 za za))).symm)) rfl, s⟩))))))))))))))
     intro dt
     replace dt : (tw1 tw ((lookB rs a.1).2.1)) = (lookB rs a.2).2.1 := by omega
     refine qF (yG ?_)
     intro ew bg
     refine zD (zF (zW (zL (zD (zY (xR j 1 (zJ (zS ?_))))))))
     have s := (((s.tr q.below).trans (ae.below u)).tr aw).tr bg
     have o := zB (zB o aw) bg
     have c := zB c bg
     have d := zB (zB (zH (zB d q.below) ae ak) aw) bg
     have e := zB (zB e aw) bg
     have b := zB b bg
     have g := zB g bg
     have an := a1.below s
     have h := zB (zB (zH h ae a2) aw) bg
     exact zD ⟨_, zo, (j + 1), rfl, aj, zk, an, o, h, e, d, c, b, g, s, zo, j2.step za (bt_ok za za za za za)⟩
    intro fe
    refine zS ?_
    refine ⟨rfl, .inr ⟨e, o, n, h⟩, yH 11 zk (yR 11 rfl ?_ rfl)⟩
    refine wE [(I3 ((lookB rs a.2).1)), (I3 ((lookB rs a.2).2.1)), (U8 ((lookB rs a.2).2.2))] p ?_
    intro eg bq
    have b := zB (zB b ac) q.below
    have b := zH b bq (zP b p zi)
    have g := zB (zB g ac) q.below
    have g := zH g bq (zP g p zi)
    have n := zH n bq (zP n p zi)
    refine zS ?_
    refine ⟨rfl, .inl zk, ?_⟩
    have c := zH (zB c q.below) bq aa
    refine mp 12 rfl (.bool false) (.inl zk) zg (hq := (zA (zC (zA (zA (zC (zA zG))))))) (yT zk (zD (yC (yP zk zk (zX a6 0 (pt z 0) zk zf (zQ g rfl) (yD (pt z 0) zf (yD (pt z 1) zf (zX z 1 (.map (some a7)) zk zf (zQ b rfl) (yD (pt bb 1) zf (zX bb 1 (I3 a.2) zk zf (zQ n rfl) (wV (k := .i32) (f := vI32) 0 a.2 tw underlying67 underlying21 zk (GmAt.of c) zk zk (zU (yD (I3 ((gget tw a.2).getD 0)) zf (yD (.bool ((gget tw a.2).isSome)) zf (yL ((gget tw a.2).isSome) ?_ ?_)))))))))))))))
    ·intro e2
     refine xH (xH (yG ?_))
     intro ex cs
     refine zD (yC (yP zk zk (zU (xF false zk (zU (qs (qs (qs (qs (qs (qT (zU (qs (qT (zU (qs (qs (qs (qs (qs (qs (qs (qT (yG ?_))))))))))))))))))))))))
     intro fr c7
     have s := (((s.tr q.below).trans (bq.below u)).tr cs).tr c7
     exact zD (zT (wR (zJ (zK (zK (zK (nQ (yA (zR (zI (zI (zR (zI (yK [(.pointer none), (N6 j), (I6 83)] (hd := aj) ⟨wK rfl (congrArg (fun x : Nat => Value.int .i64 (x : Int)) (by exact (qK i2 zo (j2.hit za (qZ za za))).symm)) rfl, s⟩))))))))))))))
    intro fn
    refine xH (xH (yG ?_))
    intro ef da
    refine zD (yC (yP zk zk (zU (xF false zk (zU (qs (qs (qs (qs (qs (qT (zU (qs (qT (zU (qs (qs (qs (qs (qs (qs (qs (qT (yG ?_))))))))))))))))))))))))
    intro e9 cz
    have s := (((s.tr q.below).trans (bq.below u)).tr da).tr cz
    exact zD (zT (wR (zJ (zK (zK (zK (nQ (yA (zR (zI (zI (zR (zI (yK [(.pointer none), (N6 j), (I6 83)] (hd := aj) ⟨wK rfl (congrArg (fun x : Nat => Value.int .i64 (x : Int)) (by exact (qK i2 zo (j2.hit za (qZ za za))).symm)) rfl, s⟩))))))))))))))
   skip
   refine yR 11 rfl ?_ rfl
   refine wE [(I3 ((lookB rs a.2).1)), (I3 ((lookB rs a.2).2.1)), (U8 ((lookB rs a.2).2.2))] p ?_
   intro eu ab
   have o := zH o ab (zP o p zi)
   have e := zH e ab (zP e p zi)
   have b := zB (zB b ac) q.below
   have b := zH b ab (zP b p zi)
   have g := zB (zB g ac) q.below
   have g := zH g ab (zP g p zi)
   have n := zH n ab (zP n p zi)
   have p := ab.here
   refine zS ?_
   refine ⟨rfl, .inl zk, yH 9 zk (yR 9 rfl ?_ rfl)⟩
   refine zr (.bool ((gget rs a.2).isSome)) (yN ((gget rs a.2).isSome) ?_ ?_)
   ·intro e4
    refine zS ?_
    refine ⟨rfl, .inl zk, ?_⟩
    have c := zH (zB c q.below) ab aa
    refine mp 12 rfl (.bool true) (.inl zk) zg (hq := (zA (zC (zA (zA (zC (zA zG))))))) (yT zk (zD (yC (yP zk zk (zX a6 0 (pt z 0) zk zf (zQ g rfl) (yD (pt z 0) zf (yD (pt z 1) zf (zX z 1 (.map (some a7)) zk zf (zQ b rfl) (yD (pt bb 1) zf (zX bb 1 (I3 a.2) zk zf (zQ n rfl) (wV (k := .i32) (f := vI32) 0 a.2 tw underlying67 underlying21 zk (GmAt.of c) zk zk (zU (yD (I3 ((gget tw a.2).getD 0)) zf (yD (.bool ((gget tw a.2).isSome)) zf (yL ((gget tw a.2).isSome) ?_ ?_)))))))))))))))
    ·intro fg
     refine xH (xH (yG ?_))
     intro ek b6
     have r := zB (zH (zB r q.below) ab ad) b6
     have p := zB p b6
     refine zD (yC (yP zk zk (zU (xF true zk (zU (qw (yD (pt a9 2) zf (qw (zX a9 2 (U8 ((lookB rs a.2).2.2)) zk zf (zQ p rfl) (qw (yD (pt bc 2) zf (qw (zX bc 2 (U8 ((lookB rs a.1).2.2)) zk zf (zQ r rfl) (qw (xB .u8 ((lookB rs a.2).2.2) ((lookB rs a.1).2.2) ((lookB rs a.2).2.2 ≠ (lookB rs a.1).2.2) rfl (xN ((lookB rs a.2).2.2) ((lookB rs a.1).2.2)) zk zk ?_ ?_)))))))))))))))
     ·intro dv
      replace dv : (lookB rs a.2).2.2 ≠ (lookB rs a.1).2.2 := by omega
      refine qF (zU (qs (qT (zU (qs (qs (qs (qs (qs (qs (qs (qT (yG ?_)))))))))))))
      intro fa c6
      have s := (((s.tr q.below).trans (ab.below u)).tr b6).tr c6
      exact zD (zT (wR (zJ (zK (zK (zK (nQ (yA (zR (zI (zI (zR (zI (yK [(.pointer none), (N6 j), (I6 83)] (hd := aj) ⟨wK rfl (congrArg (fun x : Nat => Value.int .i64 (x : Int)) (by exact (qK i2 zo (j2.hit za (qY za za))).symm)) rfl, s⟩))))))))))))))
     intro dm
     replace dm : (lookB rs a.2).2.2 = (lookB rs a.1).2.2 := by omega
     refine qF (zU (qw (zU (qF (zU (qs (qs (qs (qs (qs (qs (qs (qT (yG ?_))))))))))))))
     intro eh df
     have s := (((s.tr q.below).trans (ab.below u)).tr b6).tr df
     exact zD (zT (wR (zJ (zK (zK (zK (nQ (yA (zR (zI (zI (zR (zI (yK [(.pointer none), (N6 j), (I6 83)] (hd := aj) ⟨wK rfl (congrArg (fun x : Nat => Value.int .i64 (x : Int)) (by exact (qK i2 zo (j2.hit za (bt_3 za za))).symm)) rfl, s⟩))))))))))))))
    intro ec
    refine xH (xH (yG ?_))
    intro fc au
    have r := zB (zH (zB r q.below) ab ad) au
    have p := zB p au
    refine zD (yC (yP zk zk (zU (xF true zk (zU (qw (yD (pt a9 2) zf (qw (zX a9 2 (U8 ((lookB rs a.2).2.2)) zk zf (zQ p rfl) (qw (yD (pt bc 2) zf (qw (zX bc 2 (U8 ((lookB rs a.1).2.2)) zk zf (zQ r rfl) (qw (xB .u8 ((lookB rs a.2).2.2) ((lookB rs a.1).2.2) ((lookB rs a.2).2.2 ≠ (lookB rs a.1).2.2) rfl (xN ((lookB rs a.2).2.2) ((lookB rs a.1).2.2)) zk zk ?_ ?_)))))))))))))))
    ·intro dp
     replace dp : (lookB rs a.2).2.2 ≠ (lookB rs a.1).2.2 := by omega
     refine qF (zU (qs (qT (zU (qs (qs (qs (qs (qs (qs (qs (qT (yG ?_)))))))))))))
     intro d8 c3
     have s := (((s.tr q.below).trans (ab.below u)).tr au).tr c3
     exact zD (zT (wR (zJ (zK (zK (zK (nQ (yA (zR (zI (zI (zR (zI (yK [(.pointer none), (N6 j), (I6 83)] (hd := aj) ⟨wK rfl (congrArg (fun x : Nat => Value.int .i64 (x : Int)) (by exact (qK i2 zo (j2.hit za (qY za za))).symm)) rfl, s⟩))))))))))))))
    intro dx
    replace dx : (lookB rs a.2).2.2 = (lookB rs a.1).2.2 := by omega
    have c := zB c au
    have b := zB b au
    have g := zB g au
    refine qF (zU (qw (zU (qF (zU (qw (zU (qw (yD (pt bc 1) zf (qw (zX bc 1 (I3 ((lookB rs a.1).2.1)) zk zf (zQ r rfl) (qw (xE 54 [(I3 ((lookB rs a.1).2.1)), (pt a6 0)] (I3 (tw1 tw ((lookB rs a.1).2.1))) zg (fun wq hbq => c_twin ((lookB rs a.1).2.1) a6 z (.map (some b7)) (.map (some a7)) tw wq (zB g hbq) (zB b hbq) (GmAt.of (zB c hbq))) (qw (yD (pt a9 1) zf (qw (zX a9 1 (I3 ((lookB rs a.2).2.1)) zk zf (zQ p rfl) (qw (xB .i32 (tw1 tw ((lookB rs a.1).2.1)) ((lookB rs a.2).2.1) ((tw1 tw ((lookB rs a.1).2.1)) ≠ (lookB rs a.2).2.1) rfl (xN (tw1 tw ((lookB rs a.1).2.1)) ((lookB rs a.2).2.1)) zk zk ?_ ?_)))))))))))))))))))
    ·intro dh
     replace dh : (tw1 tw ((lookB rs a.1).2.1)) ≠ (lookB rs a.2).2.1 := by omega
     refine qF (yG ?_)
     intro e1 c8
     have s := (((s.tr q.below).trans (ab.below u)).tr au).tr c8
     exact zD (zT (wR (zJ (zK (zK (zK (nQ (yA (zR (zI (zI (zR (zI (yK [(.pointer none), (N6 j), (I6 83)] (hd := aj) ⟨wK rfl (congrArg (fun x : Nat => Value.int .i64 (x : Int)) (by exact (qK i2 zo (j2.hit za (bt_4 za za))).symm)) rfl, s⟩))))))))))))))
    intro du
    replace du : (tw1 tw ((lookB rs a.1).2.1)) = (lookB rs a.2).2.1 := by omega
    refine qF (yG ?_)
    intro fk be
    refine zD (zF (zW (zL (zD (zY (xR j 1 (zJ (zS ?_))))))))
    have s := (((s.tr q.below).trans (ab.below u)).tr au).tr be
    have o := zB (zB o au) be
    have c := zB c be
    have d := zB (zB (zH (zB d q.below) ab ak) au) be
    have e := zB (zB e au) be
    have b := zB b be
    have g := zB g be
    have an := a1.below s
    have h := zB (zB (zH h ab a2) au) be
    exact zD ⟨_, zo, (j + 1), rfl, aj, zk, an, o, h, e, d, c, b, g, s, zo, j2.step za (bt_ok za za za za za)⟩
   intro et
   refine zS ?_
   refine ⟨rfl, .inl zk, ?_⟩
   have c := zH (zB c q.below) ab aa
   refine mp 12 rfl (.bool false) (.inl zk) zg (hq := (zA (zC (zA (zA (zC (zA zG))))))) (yT zk (zD (yC (yP zk zk (zX a6 0 (pt z 0) zk zf (zQ g rfl) (yD (pt z 0) zf (yD (pt z 1) zf (zX z 1 (.map (some a7)) zk zf (zQ b rfl) (yD (pt bb 1) zf (zX bb 1 (I3 a.2) zk zf (zQ n rfl) (wV (k := .i32) (f := vI32) 0 a.2 tw underlying67 underlying21 zk (GmAt.of c) zk zk (zU (yD (I3 ((gget tw a.2).getD 0)) zf (yD (.bool ((gget tw a.2).isSome)) zf (yL ((gget tw a.2).isSome) ?_ ?_)))))))))))))))
   ·intro e8
    refine xH (xH (yG ?_))
    intro en de
    refine zD (yC (yP zk zk (zU (xF false zk (zU (qs (qs (qs (qs (qs (qT (zU (qs (qT (zU (qs (qs (qs (qs (qs (qs (qs (qT (yG ?_))))))))))))))))))))))))
    intro e7 cv
    have s := (((s.tr q.below).trans (ab.below u)).tr de).tr cv
    exact zD (zT (wR (zJ (zK (zK (zK (nQ (yA (zR (zI (zI (zR (zI (yK [(.pointer none), (N6 j), (I6 83)] (hd := aj) ⟨wK rfl (congrArg (fun x : Nat => Value.int .i64 (x : Int)) (by exact (qK i2 zo (j2.hit za (qZ za za))).symm)) rfl, s⟩))))))))))))))
   intro em
   refine xH (xH (yG ?_))
   intro ff cu
   refine zD (yC (yP zk zk (zU (xF false zk (zU (qs (qs (qs (qs (qs (qT (zU (qs (qT (zU (qs (qs (qs (qs (qs (qs (qs (qT (yG ?_))))))))))))))))))))))))
   intro e0 c5
   have s := (((s.tr q.below).trans (ab.below u)).tr cu).tr c5
   exact zD (zT (wR (zJ (zK (zK (zK (nQ (yA (zR (zI (zI (zR (zI (yK [(.pointer none), (N6 j), (I6 83)] (hd := aj) ⟨wK rfl (congrArg (fun x : Nat => Value.int .i64 (x : Int)) (by exact (qK i2 zo (j2.hit za (qZ za za))).symm)) rfl, s⟩))))))))))))))
  intro er
  refine qW false (nQ (zT (yU (zV (yI (zD (zY (xR j 1 (zJ (zS ?_))))))))))
  have s := ((s.tr ay.below).trans (ba.below cq)).tr ap
  have o := zB o ap
  have c := zB (zH (zB c ay.below) ba bt) ap
  have d := zB (zH (zB d ay.below) ba bd) ap
  have e := zB e ap
  have b := zB b ap
  have g := zB g ap
  have an := a1.below s
  have h := zB h ap
  exact zD ⟨_, zo, (j + 1), rfl, aj, zk, an, o, h, e, d, c, b, g, s, zo, j2.step za (bt_no za)⟩
 intro fq
 refine nW (zF (yU (zV (zV (yI (zD (wR (zO 0 g rfl (zK (zK (zK (nQ (yA (yK [(pt z 0), (I6 0), (I6 0)] (hd := aj) ?_))))))))))))))
 exfalso; exact hbad (tw_ok i2 zo (j2.end zo))
end Go.Proofs.YtddnhlobnembaaaGreatDoor
end

/- === Wrb6 === -/
section
/- Walks, written by my program walk.py out of the specification rb6.py: each theorem says what one function returns and that it leaves memory as it was. -/
namespace Go.Proofs.YtddnhlobnembaaaGreatDoor
open Go Go.RowKit Go.FK _root_.Go.Proofs.Tryz
set_option maxHeartbeats 4000000
set_option maxRecDepth 100000
theorem c_Twinned_bad (r : Nat) (q : Value) (ws : List (Int × Int × Int)) (y : Value) (wt : List (Int × Int)) (s : Value) (l : List (Int × Int)) (w : World) (a : w.heap[r]? = some (.cells [q, y].toArray 78 (0, 0))) (n : Rd w encBrk q ws) (p : Rd w encTw y wt) (b : Rd w encTw s l) (hw : ws.length ≤ 4194304) (hl : l.length ≤ 1048576) (hbad : twE (kv ws) l ≠ none) :
  Calls Tryz.prog 22 #[(pt r 0), s] w (Ret fun v w' => v = (.tuple #[(.pointer none), (N6 (twI (kv ws) l)), (I6 83)]) ∧ Below w.heap.size w w') := by
 refine wO 91 func22 rfl ?_
 have d := Below.refl w.heap.size w
 have e := b
 have o := n
 have t := p
 refine wR (zK (zK (zK (nR (zK (nW (wR (zK (nQ (yF (xG (fun m s0 w0 => ∃ (i : Nat) (ae : List (Int × Int)) (aq : Value), (m = l.length - i) ∧ (s0.ds = []) ∧ ([0, 1, 7, 8].map s0.f = [(pt r 0), s, aq, (N6 i)]) ∧ (Rd w0 encTw s l) ∧ (Rd w0 encBrk q ws) ∧ (Rd w0 encTw y wt) ∧ (Row w0 w.heap.size 52 2 encTw aq ae) ∧ (w0.heap[r]? = some (.cells [q, y].toArray 78 (0, 0))) ∧ (Below w.heap.size w w0) ∧ (i ≤ l.length) ∧ (BtI ws l i) ∧ (ae = (l.take i).filter (cntT (kv ws))) ∧ (ae.length ≤ i)) _ ⟨0, [], (.slice none 0 0), rfl, zk, zk, b, n, p, Row.nil _ _ _ _ _, a, d, (Nat.zero_le _), BadI.zero, rfl, (Nat.le_refl _)⟩ ?_)))))))))))
 rintro m1 s2 w3 ⟨i, ae, aq, hm, z, dh, b, n, p, h, a, d, i1, i2, i3, i4⟩
 refine yZ dh (yC (wR (zJ (zJ (zln underlying50 (b).len (nLt i ((l).length) ?_ ?_))))))
 ·intro h4
  refine nQ (zT (zW (zD (yC (yF (yC (W_heldJ 15 16 zk zk zk ?_)))))))
  intro w5 bq
  refine ⟨fun w => (w.heap[r]? = some (.cells [q, y].toArray 78 (0, 0))) ∧ (Rd w encTw s l), ?_⟩
  have d := d.tr bq
  have a := zB a bq
  have b := e.below d
  refine jp 0 [0, 1, 2, 3, 9, 10, 11, 12, 14, 15] rfl (pt r 0) ⟨a, b⟩ (hq := (zA (zC (zA (zA (zC (zA zG))))))) (jp 1 [1, 2, 3, 9, 10, 11, 12, 14, 15] rfl (pt r 0) ⟨a, b⟩ (hq := (zA (zC (zA (zA (zC (zA zG))))))) (jp 2 [2, 3, 9, 10, 11, 12, 14, 15] rfl (pt r 0) ⟨a, b⟩ (hq := (zA (zC (zA (zA (zC (zA zG))))))) (jt 3 [3, 9, 10, 11, 12, 14, 15] rfl q ⟨a, b⟩ (yQ r 0 q zk zf (fun w2 h2 => zQ h2.1 rfl)) (hq := (zA (zC (zA (zA (zC (zA zG))))))) (jp 4 [4, 6, 7, 8, 9, 10, 11, 12, 14, 15] rfl s ⟨a, b⟩ (hq := (zA (zC (zA (zA (zC (zA zG))))))) (jp 5 [5, 6, 7, 8, 9, 10, 11, 12, 14, 15] rfl (N6 i) ⟨a, b⟩ (hq := (zA (zC (zA (zA (zC (zA zG))))))) ?_)))))
  have hz := yB l i (by first | omega | assumption); obtain ⟨c, ad⟩ := hz
  have hz := (b).at (k := 2) zj ad; obtain ⟨g9, av, bv, dw⟩ := hz
  refine jt 6 [6, 7, 8, 9, 10, 11, 12, 14, 15] rfl (pt g9 (av + i * 2)) ⟨a, b⟩ (yJ (k := .i64) s i _ g9 av xV bv (by first | omega | assumption) zk zk) (hq := (zA (zC (zA (zA (zC (zA zG))))))) (jp 7 [7, 8, 9, 10, 11, 12, 14, 15] rfl (pt g9 (av + i * 2)) ⟨a, b⟩ (hq := (zA (zC (zA (zA (zC (zA zG))))))) (jt 8 [8, 9, 10, 11, 12, 14, 15] rfl (I3 c.1) ⟨a, b⟩ (yQ g9 (av + i * 2) (I3 c.1) zk zf (fun w2 h2 => Rd.later (k := 2) h2.2 zj bv ad 0 _ rfl)) (hq := (zA (zC (zA (zA (zC (zA zG))))))) ?_))
  refine J_all2 9 13 zk ?_ ?_
  ·skip
   refine wY 9 rfl ?_ rfl
   have n := o.below d
   refine zc (wB q ws c.1 _ n (by first | omega | assumption)) ?_
   rintro _ es ⟨rfl, bj⟩
   refine zS ?_
   have d := d.tr bj
   have a := zB a bj
   have b := e.below d
   refine ⟨rfl, .inr ⟨a, b⟩, jp 10 [10, 11, 12, 14, 15] rfl (.tuple #[(Value.agg #[(I3 ((lookB (kv ws) c.1).1)), (I3 ((lookB (kv ws) c.1).2.1)), (U8 ((lookB (kv ws) c.1).2.2))]), (.bool ((gget (kv ws) c.1).isSome))]) ⟨a, b⟩ (hq := (zA (zC (zA (zA (zC (zA zG))))))) (jp 11 [11, 14, 15] rfl (Value.agg #[(I3 ((lookB (kv ws) c.1).1)), (I3 ((lookB (kv ws) c.1).2.1)), (U8 ((lookB (kv ws) c.1).2.2))]) ⟨a, b⟩ (hq := (zA (zC (zA (zA (zC (zA zG))))))) (jp 12 [12, 15] rfl (.bool ((gget (kv ws) c.1).isSome)) ⟨a, b⟩ (hq := (zA (zC (zA (zA (zC (zA zG))))))) (wF 13 zk (wY 13 rfl ?_ rfl))))⟩
   refine zN [(I3 0), (I3 0), (U8 0)] 26 ?_
   intro a1 eu a4
   have bo := a4.ge d.size
   have j := a4.here
   refine zS ?_
   have d := d.tr a4.below
   have a := zB a a4.below
   have b := e.below d
   refine ⟨rfl, .inr ⟨a, b⟩, wF 14 zk (wY 14 rfl ?_ rfl)⟩
   refine wE [(I3 ((lookB (kv ws) c.1).1)), (I3 ((lookB (kv ws) c.1).2.1)), (U8 ((lookB (kv ws) c.1).2.2))] j ?_
   intro ez bf
   have a := zH a bf (zP a j zi)
   have h := ((h.below bq).below bj).below a4.below
   have h := h.wrote bf (h.ne j zi)
   have j := bf.here
   refine zS ?_
   have d := d.trans (bf.below bo)
   have b := e.below d
   refine ⟨rfl, .inr ⟨a, b⟩, jp 15 [15] rfl (.bool ((gget (kv ws) c.1).isSome)) ⟨a, b⟩ (hq := (zA (zC (zA (zA (zC (zA zG))))))) (vQ zk (zD (yC (wR (zr (.bool ((gget (kv ws) c.1).isSome)) (yN ((gget (kv ws) c.1).isSome) ?_ ?_))))))⟩
   ·intro fd
    refine qW true (nQ (zF (zW (zD (yC (W_heldJ 15 16 zk zk zk ?_))))))
    intro fe ap
    refine ⟨fun w => (w.heap[r]? = some (.cells [q, y].toArray 78 (0, 0))) ∧ (Rd w encTw s l), ?_⟩
    have d := d.tr ap
    have a := zB a ap
    have b := e.below d
    refine jp 0 [0, 1, 2, 3, 9, 10, 11, 12, 14, 15] rfl (pt r 0) ⟨a, b⟩ (hq := (zA (zC (zA (zA (zC (zA zG))))))) (jp 1 [1, 2, 3, 9, 10, 11, 12, 14, 15] rfl (pt r 0) ⟨a, b⟩ (hq := (zA (zC (zA (zA (zC (zA zG))))))) (jp 2 [2, 3, 9, 10, 11, 12, 14, 15] rfl (pt r 0) ⟨a, b⟩ (hq := (zA (zC (zA (zA (zC (zA zG))))))) (jt 3 [3, 9, 10, 11, 12, 14, 15] rfl q ⟨a, b⟩ (yQ r 0 q zk zf (fun w2 h2 => zQ h2.1 rfl)) (hq := (zA (zC (zA (zA (zC (zA zG))))))) (jp 4 [4, 6, 7, 8, 9, 10, 11, 12, 14, 15] rfl s ⟨a, b⟩ (hq := (zA (zC (zA (zA (zC (zA zG))))))) (jp 5 [5, 6, 7, 8, 9, 10, 11, 12, 14, 15] rfl (N6 i) ⟨a, b⟩ (hq := (zA (zC (zA (zA (zC (zA zG))))))) ?_)))))
    have hz := (b).at (k := 2) zj ad; obtain ⟨bp, ar, bu, d8⟩ := hz
    refine jt 6 [6, 7, 8, 9, 10, 11, 12, 14, 15] rfl (pt bp (ar + i * 2)) ⟨a, b⟩ (yJ (k := .i64) s i _ bp ar xV bu (by first | omega | assumption) zk zk) (hq := (zA (zC (zA (zA (zC (zA zG))))))) (jp 7 [7, 8, 9, 10, 11, 12, 14, 15] rfl (pt bp ((ar + i * 2) + 1)) ⟨a, b⟩ (hq := (zA (zC (zA (zA (zC (zA zG))))))) (jt 8 [8, 9, 10, 11, 12, 14, 15] rfl (I3 c.2) ⟨a, b⟩ (yQ bp ((ar + i * 2) + 1) (I3 c.2) zk zf (fun w2 h2 => Rd.later (k := 2) h2.2 zj bu ad 1 _ rfl)) (hq := (zA (zC (zA (zA (zC (zA zG))))))) ?_))
    refine J_all2 9 13 zk ?_ ?_
    ·skip
     refine wY 9 rfl ?_ rfl
     have n := o.below d
     refine zc (wB q ws c.2 _ n (by first | omega | assumption)) ?_
     rintro _ ex ⟨rfl, bd⟩
     refine zS ?_
     have d := d.tr bd
     have a := zB a bd
     have b := e.below d
     refine ⟨rfl, .inr ⟨a, b⟩, jp 10 [10, 11, 12, 14, 15] rfl (.tuple #[(Value.agg #[(I3 ((lookB (kv ws) c.2).1)), (I3 ((lookB (kv ws) c.2).2.1)), (U8 ((lookB (kv ws) c.2).2.2))]), (.bool ((gget (kv ws) c.2).isSome))]) ⟨a, b⟩ (hq := (zA (zC (zA (zA (zC (zA zG))))))) (jp 11 [11, 14, 15] rfl (Value.agg #[(I3 ((lookB (kv ws) c.2).1)), (I3 ((lookB (kv ws) c.2).2.1)), (U8 ((lookB (kv ws) c.2).2.2))]) ⟨a, b⟩ (hq := (zA (zC (zA (zA (zC (zA zG))))))) (jp 12 [12, 15] rfl (.bool ((gget (kv ws) c.2).isSome)) ⟨a, b⟩ (hq := (zA (zC (zA (zA (zC (zA zG))))))) (wF 13 zk (wY 13 rfl ?_ rfl))))⟩
     refine zN [(I3 0), (I3 0), (U8 0)] 26 ?_
     intro br e0 am
     have j := zB (zB j ap) bd
     have u := yS (yE j) am
     have ab := am.ge d.size
     have g := am.here
     refine zS ?_
     have d := d.tr am.below
     have a := zB a am.below
     have b := e.below d
     refine ⟨rfl, .inr ⟨a, b⟩, wF 14 zk (wY 14 rfl ?_ rfl)⟩
     refine wE [(I3 ((lookB (kv ws) c.2).1)), (I3 ((lookB (kv ws) c.2).2.1)), (U8 ((lookB (kv ws) c.2).2.2))] g ?_
     intro e3 a3
     have a := zH a a3 (zP a g zi)
     have h := ((h.below ap).below bd).below am.below
     have h := h.wrote a3 (h.ne g zi)
     have g := a3.here
     refine zS ?_
     have d := d.trans (a3.below ab)
     have b := e.below d
     refine ⟨rfl, .inr ⟨a, b⟩, jp 15 [15] rfl (.bool ((gget (kv ws) c.2).isSome)) ⟨a, b⟩ (hq := (zA (zC (zA (zA (zC (zA zG))))))) (vQ zk (zD (yC (yC (yP zk zk (yD (.bool ((gget (kv ws) c.2).isSome)) zf (yL ((gget (kv ws) c.2).isSome) ?_ ?_)))))))⟩
     ·intro fa
      have j := zH (zB j am.below) a3 u
      refine xF true zk (zU (qw (yD (pt br 2) zf (qw (zX br 2 (U8 ((lookB (kv ws) c.2).2.2)) zk zf (zQ g rfl) (qw (yD (pt a1 2) zf (qw (zX a1 2 (U8 ((lookB (kv ws) c.1).2.2)) zk zf (zQ j rfl) (qw (xB .u8 ((lookB (kv ws) c.2).2.2) ((lookB (kv ws) c.1).2.2) ((lookB (kv ws) c.2).2.2 ≠ (lookB (kv ws) c.1).2.2) rfl (xN ((lookB (kv ws) c.2).2.2) ((lookB (kv ws) c.1).2.2)) zk zk ?_ ?_)))))))))))
      ·intro da
       replace da : (lookB (kv ws) c.2).2.2 ≠ (lookB (kv ws) c.1).2.2 := by omega
       refine qF (zU (qs (qs (qs (qs (qs (qs (qs (qs (qT (zU (qs (qs (qs (qs (qs (qs (qs (qs (qT (yG ?_)))))))))))))))))))))
       intro fc cr
       have d := d.tr cr
       exact zD (zT (wR (zJ (zK (zK (zK (nQ (yA (zI (zR (zI (zI (zR (zI (yK [(.pointer none), (N6 i), (I6 83)] (hd := z) ⟨wK rfl (e6 (by (rw [qX i2 za (qY za za)]; done))) rfl, d⟩)))))))))))))))
      intro de
      replace de : (lookB (kv ws) c.2).2.2 = (lookB (kv ws) c.1).2.2 := by omega
      refine qF (zU (qw (zU (qw (zU (qw (zU (qw (zU (qw ?_))))))))))
      have hz := (b).at (k := 2) zj ad
      obtain ⟨bz, ba, cl, ch⟩ := hz
      have n := o.below d
      have p := t.below d
      refine yM (k := .i64) s i _ bz ba xV cl (by first | omega | assumption) zk zk (qw (yD (pt bz ((ba + i * 2) + 1)) zf (qw (zX bz ((ba + i * 2) + 1) (I3 c.2) zk zf (ch 1 _ rfl) (qw (xE 55 [(pt r 0), s, (I3 c.2)] (.bool (tldF ws l c.2)) zg (fun wq hbq => c_told8 r q ws y wt s l c.2 wq (zB a hbq) (n.below hbq) (p.below hbq) (b.below hbq) (by first | omega | assumption) (by first | omega | assumption)) (yL (tldF ws l c.2) ?_ ?_)))))))
      ·intro fb
       refine qF (zU (qs (qs (qs (qs (qs (qs (qs (qs (qT (yG ?_)))))))))))
       intro ep cp
       have d := d.tr cp
       exact zD (zT (wR (zJ (zK (zK (zK (nQ (yA (zI (zR (zI (zI (zR (zI (yK [(.pointer none), (N6 i), (I6 83)] (hd := z) ⟨wK rfl (e6 (by (rw [qX i2 za (bt_p3 za za)]; done))) rfl, d⟩)))))))))))))))
      intro e4
      refine qF (zU (qw (zU (qw (zU (qw (yD (pt a1 1) zf (qw (zX a1 1 (I3 ((lookB (kv ws) c.1).2.1)) zk zf (zQ j rfl) (qw (xE 56 [(pt r 0), s, (I3 ((lookB (kv ws) c.1).2.1))] (I3 (twF ws l ((lookB (kv ws) c.1).2.1))) zg (fun wq hbq => c_twin8 r q ws y wt s l ((lookB (kv ws) c.1).2.1) wq (zB a hbq) (n.below hbq) (p.below hbq) (b.below hbq) (by first | omega | assumption) (by first | omega | assumption)) (qw (yD (pt br 1) zf (qw (zX br 1 (I3 ((lookB (kv ws) c.2).2.1)) zk zf (zQ g rfl) (qw (xB .i32 (twF ws l ((lookB (kv ws) c.1).2.1)) ((lookB (kv ws) c.2).2.1) ((twF ws l ((lookB (kv ws) c.1).2.1)) ≠ (lookB (kv ws) c.2).2.1) rfl (xN (twF ws l ((lookB (kv ws) c.1).2.1)) ((lookB (kv ws) c.2).2.1)) zk zk ?_ ?_)))))))))))))))))
      ·intro di
       replace di : (twF ws l ((lookB (kv ws) c.1).2.1)) ≠ (lookB (kv ws) c.2).2.1 := by omega
       refine qF (yG ?_)
       intro ey cz
       have d := d.tr cz
       exact zD (zT (wR (zJ (zK (zK (zK (nQ (yA (zI (zR (zI (zI (zR (zI (yK [(.pointer none), (N6 i), (I6 83)] (hd := z) ⟨wK rfl (e6 (by (rw [qX i2 za (bt_p4 za za)]; done))) rfl, d⟩)))))))))))))))
      intro dd
      replace dd : (twF ws l ((lookB (kv ws) c.1).2.1)) = (lookB (kv ws) c.2).2.1 := by omega
      refine qF (yG ?_)
      intro fh bm
      refine zD (zF (zW (zD (zY (zJ (zJ (zJ ?_)))))))
      have d := d.tr bm
      have b := e.below d
      have h := h.below bm
      refine zEA b xV i ad [(I3 c.1), (I3 c.2)] rfl fun _ => (qE xV w.heap.size aq ae (c.1, c.2) d.size h zo zk rfl rfl zk rfl zk zk ?_)
      intro dg fg ct bt c8
      have d := d.tg d.size bt h
      have a := zB a bm
      have a := yO a bt (h.ne a zi)
      have h := ct
      refine zK (zS (zL (zD (zY (zJ (xR i 1 (zK (zS ?_))))))))
      have b := e.below d
      have n := o.below d
      have p := t.below d
      refine zD ⟨_, zo, (i + 1), (ae ++ [(c.1, c.2)]), dg, rfl, z, zk, b, n, p, h, a, d, zo, ?_, ?_, ?_⟩
      ·exact i2.step za (bt_pok za za za za za)
      ·exact fl_on i3 za za
      (simp only [List.length_append, List.length_cons, List.length_nil]; omega)
     intro e9
     refine xF false zk (zU (qs (qs (qs (qs (qs (qT (zU (qs (qs (qs (qs (qs (qs (qs (qs (qT (zU (qs (qs (qs (qs (qs (qs (qs (qs (qT (yG ?_))))))))))))))))))))))))))))
     intro e2 ck
     have d := d.tr ck
     exact zD (zT (wR (zJ (zK (zK (zK (nQ (yA (zI (zR (zI (zI (zR (zI (yK [(.pointer none), (N6 i), (I6 83)] (hd := z) ⟨wK rfl (e6 (by (rw [qX i2 za (qZ za za)]; done))) rfl, d⟩)))))))))))))))
    skip
    refine wY 13 rfl ?_ rfl
    refine zN [(I3 0), (I3 0), (U8 0)] 26 ?_
    intro bs ew an
    have j := zB j ap
    have u := yS (yE j) an
    have ab := an.ge d.size
    have g := an.here
    refine zS ?_
    have d := d.tr an.below
    have a := zB a an.below
    have b := e.below d
    refine ⟨rfl, .inr ⟨a, b⟩, wF 9 zk (wY 9 rfl ?_ rfl)⟩
    have n := o.below d
    refine zc (wB q ws c.2 _ n (by first | omega | assumption)) ?_
    rintro _ ff ⟨rfl, a0⟩
    refine zS ?_
    have d := d.tr a0
    have a := zB a a0
    have b := e.below d
    refine ⟨rfl, .inr ⟨a, b⟩, jp 10 [10, 11, 12, 14, 15] rfl (.tuple #[(Value.agg #[(I3 ((lookB (kv ws) c.2).1)), (I3 ((lookB (kv ws) c.2).2.1)), (U8 ((lookB (kv ws) c.2).2.2))]), (.bool ((gget (kv ws) c.2).isSome))]) ⟨a, b⟩ (hq := (zA (zC (zA (zA (zC (zA zG))))))) (jp 11 [11, 14, 15] rfl (Value.agg #[(I3 ((lookB (kv ws) c.2).1)), (I3 ((lookB (kv ws) c.2).2.1)), (U8 ((lookB (kv ws) c.2).2.2))]) ⟨a, b⟩ (hq := (zA (zC (zA (zA (zC (zA zG))))))) (jp 12 [12, 15] rfl (.bool ((gget (kv ws) c.2).isSome)) ⟨a, b⟩ (hq := (zA (zC (zA (zA (zC (zA zG))))))) (wF 14 zk (wY 14 rfl ?_ rfl))))⟩
    have g := zB g a0
    refine wE [(I3 ((lookB (kv ws) c.2).1)), (I3 ((lookB (kv ws) c.2).2.1)), (U8 ((lookB (kv ws) c.2).2.2))] g ?_
    intro et a2
    have a := zH a a2 (zP a g zi)
    have h := ((h.below ap).below an.below).below a0
    have h := h.wrote a2 (h.ne g zi)
    have g := a2.here
    refine zS ?_
    have d := d.trans (a2.below ab)
    have b := e.below d
    refine ⟨rfl, .inr ⟨a, b⟩, jp 15 [15] rfl (.bool ((gget (kv ws) c.2).isSome)) ⟨a, b⟩ (hq := (zA (zC (zA (zA (zC (zA zG))))))) (vQ zk (zD (yC (yC (yP zk zk (yD (.bool ((gget (kv ws) c.2).isSome)) zf (yL ((gget (kv ws) c.2).isSome) ?_ ?_)))))))⟩
    ·intro e8
     have j := zH (zB (zB j an.below) a0) a2 u
     refine xF true zk (zU (qw (yD (pt bs 2) zf (qw (zX bs 2 (U8 ((lookB (kv ws) c.2).2.2)) zk zf (zQ g rfl) (qw (yD (pt a1 2) zf (qw (zX a1 2 (U8 ((lookB (kv ws) c.1).2.2)) zk zf (zQ j rfl) (qw (xB .u8 ((lookB (kv ws) c.2).2.2) ((lookB (kv ws) c.1).2.2) ((lookB (kv ws) c.2).2.2 ≠ (lookB (kv ws) c.1).2.2) rfl (xN ((lookB (kv ws) c.2).2.2) ((lookB (kv ws) c.1).2.2)) zk zk ?_ ?_)))))))))))
     ·intro df
      replace df : (lookB (kv ws) c.2).2.2 ≠ (lookB (kv ws) c.1).2.2 := by omega
      refine qF (zU (qs (qs (qs (qs (qs (qs (qs (qs (qT (zU (qs (qs (qs (qs (qs (qs (qs (qs (qT (yG ?_)))))))))))))))))))))
      intro ev cm
      have d := d.tr cm
      exact zD (zT (wR (zJ (zK (zK (zK (nQ (yA (zI (zR (zI (zI (zR (zI (yK [(.pointer none), (N6 i), (I6 83)] (hd := z) ⟨wK rfl (e6 (by (rw [qX i2 za (qY za za)]; done))) rfl, d⟩)))))))))))))))
     intro dj
     replace dj : (lookB (kv ws) c.2).2.2 = (lookB (kv ws) c.1).2.2 := by omega
     refine qF (zU (qw (zU (qw (zU (qw (zU (qw (zU (qw ?_))))))))))
     have hz := (b).at (k := 2) zj ad
     obtain ⟨b5, a6, co, cy⟩ := hz
     have n := o.below d
     have p := t.below d
     refine yM (k := .i64) s i _ b5 a6 xV co (by first | omega | assumption) zk zk (qw (yD (pt b5 ((a6 + i * 2) + 1)) zf (qw (zX b5 ((a6 + i * 2) + 1) (I3 c.2) zk zf (cy 1 _ rfl) (qw (xE 55 [(pt r 0), s, (I3 c.2)] (.bool (tldF ws l c.2)) zg (fun wq hbq => c_told8 r q ws y wt s l c.2 wq (zB a hbq) (n.below hbq) (p.below hbq) (b.below hbq) (by first | omega | assumption) (by first | omega | assumption)) (yL (tldF ws l c.2) ?_ ?_)))))))
     ·intro e5
      refine qF (zU (qs (qs (qs (qs (qs (qs (qs (qs (qT (yG ?_)))))))))))
      intro er cq
      have d := d.tr cq
      exact zD (zT (wR (zJ (zK (zK (zK (nQ (yA (zI (zR (zI (zI (zR (zI (yK [(.pointer none), (N6 i), (I6 83)] (hd := z) ⟨wK rfl (e6 (by (rw [qX i2 za (bt_p3 za za)]; done))) rfl, d⟩)))))))))))))))
     intro e7
     refine qF (zU (qw (zU (qw (zU (qw (yD (pt a1 1) zf (qw (zX a1 1 (I3 ((lookB (kv ws) c.1).2.1)) zk zf (zQ j rfl) (qw (xE 56 [(pt r 0), s, (I3 ((lookB (kv ws) c.1).2.1))] (I3 (twF ws l ((lookB (kv ws) c.1).2.1))) zg (fun wq hbq => c_twin8 r q ws y wt s l ((lookB (kv ws) c.1).2.1) wq (zB a hbq) (n.below hbq) (p.below hbq) (b.below hbq) (by first | omega | assumption) (by first | omega | assumption)) (qw (yD (pt bs 1) zf (qw (zX bs 1 (I3 ((lookB (kv ws) c.2).2.1)) zk zf (zQ g rfl) (qw (xB .i32 (twF ws l ((lookB (kv ws) c.1).2.1)) ((lookB (kv ws) c.2).2.1) ((twF ws l ((lookB (kv ws) c.1).2.1)) ≠ (lookB (kv ws) c.2).2.1) rfl (xN (twF ws l ((lookB (kv ws) c.1).2.1)) ((lookB (kv ws) c.2).2.1)) zk zk ?_ ?_)))))))))))))))))
     ·intro db
      replace db : (twF ws l ((lookB (kv ws) c.1).2.1)) ≠ (lookB (kv ws) c.2).2.1 := by omega
      refine qF (yG ?_)
      intro e1 cj
      have d := d.tr cj
      exact zD (zT (wR (zJ (zK (zK (zK (nQ (yA (zI (zR (zI (zI (zR (zI (yK [(.pointer none), (N6 i), (I6 83)] (hd := z) ⟨wK rfl (e6 (by (rw [qX i2 za (bt_p4 za za)]; done))) rfl, d⟩)))))))))))))))
     intro c9
     replace c9 : (twF ws l ((lookB (kv ws) c.1).2.1)) = (lookB (kv ws) c.2).2.1 := by omega
     refine qF (yG ?_)
     intro ec a8
     refine zD (zF (zW (zD (zY (zJ (zJ (zJ ?_)))))))
     have d := d.tr a8
     have b := e.below d
     have h := h.below a8
     refine zEA b xV i ad [(I3 c.1), (I3 c.2)] rfl fun _ => (qE xV w.heap.size aq ae (c.1, c.2) d.size h zo zk rfl rfl zk rfl zk zk ?_)
     intro cw en ca bi c6
     have d := d.tg d.size bi h
     have a := zB a a8
     have a := yO a bi (h.ne a zi)
     have h := ca
     refine zK (zS (zL (zD (zY (zJ (xR i 1 (zK (zS ?_))))))))
     have b := e.below d
     have n := o.below d
     have p := t.below d
     refine zD ⟨_, zo, (i + 1), (ae ++ [(c.1, c.2)]), cw, rfl, z, zk, b, n, p, h, a, d, zo, ?_, ?_, ?_⟩
     ·exact i2.step za (bt_pok za za za za za)
     ·exact fl_on i3 za za
     (simp only [List.length_append, List.length_cons, List.length_nil]; omega)
    intro el
    refine xF false zk (zU (qs (qs (qs (qs (qs (qT (zU (qs (qs (qs (qs (qs (qs (qs (qs (qT (zU (qs (qs (qs (qs (qs (qs (qs (qs (qT (yG ?_))))))))))))))))))))))))))))
    intro dp b1
    have d := d.tr b1
    exact zD (zT (wR (zJ (zK (zK (zK (nQ (yA (zI (zR (zI (zI (zR (zI (yK [(.pointer none), (N6 i), (I6 83)] (hd := z) ⟨wK rfl (e6 (by (rw [qX i2 za (qZ za za)]; done))) rfl, d⟩)))))))))))))))
   intro dq
   refine qW false (nQ (zT (yU (zV (yI (zD (zY (zJ (xR i 1 (zK (zS ?_)))))))))))
   have n := o.below d
   have p := t.below d
   refine zD ⟨_, zo, (i + 1), ae, aq, rfl, z, zk, b, n, p, h, a, d, zo, ?_, ?_, zo⟩
   ·exact i2.step za (bt_no za)
   exact fl_no i3 za za
  skip
  refine wY 13 rfl ?_ rfl
  refine zN [(I3 0), (I3 0), (U8 0)] 26 ?_
  intro ag d9 ak
  have bo := ak.ge d.size
  have j := ak.here
  refine zS ?_
  have d := d.tr ak.below
  have a := zB a ak.below
  have b := e.below d
  refine ⟨rfl, .inr ⟨a, b⟩, wF 9 zk (wY 9 rfl ?_ rfl)⟩
  have n := o.below d
  refine zc (wB q ws c.1 _ n (by first | omega | assumption)) ?_
  rintro _ dl ⟨rfl, ay⟩
  refine zS ?_
  have d := d.tr ay
  have a := zB a ay
  have b := e.below d
  refine ⟨rfl, .inr ⟨a, b⟩, jp 10 [10, 11, 12, 14, 15] rfl (.tuple #[(Value.agg #[(I3 ((lookB (kv ws) c.1).1)), (I3 ((lookB (kv ws) c.1).2.1)), (U8 ((lookB (kv ws) c.1).2.2))]), (.bool ((gget (kv ws) c.1).isSome))]) ⟨a, b⟩ (hq := (zA (zC (zA (zA (zC (zA zG))))))) (jp 11 [11, 14, 15] rfl (Value.agg #[(I3 ((lookB (kv ws) c.1).1)), (I3 ((lookB (kv ws) c.1).2.1)), (U8 ((lookB (kv ws) c.1).2.2))]) ⟨a, b⟩ (hq := (zA (zC (zA (zA (zC (zA zG))))))) (jp 12 [12, 15] rfl (.bool ((gget (kv ws) c.1).isSome)) ⟨a, b⟩ (hq := (zA (zC (zA (zA (zC (zA zG))))))) (wF 14 zk (wY 14 rfl ?_ rfl))))⟩
  have j := zB j ay
  refine wE [(I3 ((lookB (kv ws) c.1).1)), (I3 ((lookB (kv ws) c.1).2.1)), (U8 ((lookB (kv ws) c.1).2.2))] j ?_
  intro dn az
  have a := zH a az (zP a j zi)
  have h := ((h.below bq).below ak.below).below ay
  have h := h.wrote az (h.ne j zi)
  have j := az.here
  refine zS ?_
  have d := d.trans (az.below bo)
  have b := e.below d
  refine ⟨rfl, .inr ⟨a, b⟩, jp 15 [15] rfl (.bool ((gget (kv ws) c.1).isSome)) ⟨a, b⟩ (hq := (zA (zC (zA (zA (zC (zA zG))))))) (vQ zk (zD (yC (wR (zr (.bool ((gget (kv ws) c.1).isSome)) (yN ((gget (kv ws) c.1).isSome) ?_ ?_))))))⟩
  ·intro d1
   refine qW true (nQ (zF (zW (zD (yC (W_heldJ 15 16 zk zk zk ?_))))))
   intro dm af
   refine ⟨fun w => (w.heap[r]? = some (.cells [q, y].toArray 78 (0, 0))) ∧ (Rd w encTw s l), ?_⟩
   have d := d.tr af
   have a := zB a af
   have b := e.below d
   refine jp 0 [0, 1, 2, 3, 9, 10, 11, 12, 14, 15] rfl (pt r 0) ⟨a, b⟩ (hq := (zA (zC (zA (zA (zC (zA zG))))))) (jp 1 [1, 2, 3, 9, 10, 11, 12, 14, 15] rfl (pt r 0) ⟨a, b⟩ (hq := (zA (zC (zA (zA (zC (zA zG))))))) (jp 2 [2, 3, 9, 10, 11, 12, 14, 15] rfl (pt r 0) ⟨a, b⟩ (hq := (zA (zC (zA (zA (zC (zA zG))))))) (jt 3 [3, 9, 10, 11, 12, 14, 15] rfl q ⟨a, b⟩ (yQ r 0 q zk zf (fun w2 h2 => zQ h2.1 rfl)) (hq := (zA (zC (zA (zA (zC (zA zG))))))) (jp 4 [4, 6, 7, 8, 9, 10, 11, 12, 14, 15] rfl s ⟨a, b⟩ (hq := (zA (zC (zA (zA (zC (zA zG))))))) (jp 5 [5, 6, 7, 8, 9, 10, 11, 12, 14, 15] rfl (N6 i) ⟨a, b⟩ (hq := (zA (zC (zA (zA (zC (zA zG))))))) ?_)))))
   have hz := (b).at (k := 2) zj ad; obtain ⟨be, ah, bk, dc⟩ := hz
   refine jt 6 [6, 7, 8, 9, 10, 11, 12, 14, 15] rfl (pt be (ah + i * 2)) ⟨a, b⟩ (yJ (k := .i64) s i _ be ah xV bk (by first | omega | assumption) zk zk) (hq := (zA (zC (zA (zA (zC (zA zG))))))) (jp 7 [7, 8, 9, 10, 11, 12, 14, 15] rfl (pt be ((ah + i * 2) + 1)) ⟨a, b⟩ (hq := (zA (zC (zA (zA (zC (zA zG))))))) (jt 8 [8, 9, 10, 11, 12, 14, 15] rfl (I3 c.2) ⟨a, b⟩ (yQ be ((ah + i * 2) + 1) (I3 c.2) zk zf (fun w2 h2 => Rd.later (k := 2) h2.2 zj bk ad 1 _ rfl)) (hq := (zA (zC (zA (zA (zC (zA zG))))))) ?_))
   refine J_all2 9 13 zk ?_ ?_
   ·skip
    refine wY 9 rfl ?_ rfl
    have n := o.below d
    refine zc (wB q ws c.2 _ n (by first | omega | assumption)) ?_
    rintro _ du ⟨rfl, au⟩
    refine zS ?_
    have d := d.tr au
    have a := zB a au
    have b := e.below d
    refine ⟨rfl, .inr ⟨a, b⟩, jp 10 [10, 11, 12, 14, 15] rfl (.tuple #[(Value.agg #[(I3 ((lookB (kv ws) c.2).1)), (I3 ((lookB (kv ws) c.2).2.1)), (U8 ((lookB (kv ws) c.2).2.2))]), (.bool ((gget (kv ws) c.2).isSome))]) ⟨a, b⟩ (hq := (zA (zC (zA (zA (zC (zA zG))))))) (jp 11 [11, 14, 15] rfl (Value.agg #[(I3 ((lookB (kv ws) c.2).1)), (I3 ((lookB (kv ws) c.2).2.1)), (U8 ((lookB (kv ws) c.2).2.2))]) ⟨a, b⟩ (hq := (zA (zC (zA (zA (zC (zA zG))))))) (jp 12 [12, 15] rfl (.bool ((gget (kv ws) c.2).isSome)) ⟨a, b⟩ (hq := (zA (zC (zA (zA (zC (zA zG))))))) (wF 13 zk (wY 13 rfl ?_ rfl))))⟩
    refine zN [(I3 0), (I3 0), (U8 0)] 26 ?_
    intro bb dk aa
    have j := zB (zB j af) au
    have u := yS (yE j) aa
    have ab := aa.ge d.size
    have g := aa.here
    refine zS ?_
    have d := d.tr aa.below
    have a := zB a aa.below
    have b := e.below d
    refine ⟨rfl, .inr ⟨a, b⟩, wF 14 zk (wY 14 rfl ?_ rfl)⟩
    refine wE [(I3 ((lookB (kv ws) c.2).1)), (I3 ((lookB (kv ws) c.2).2.1)), (U8 ((lookB (kv ws) c.2).2.2))] g ?_
    intro ei aj
    have a := zH a aj (zP a g zi)
    have h := ((h.below af).below au).below aa.below
    have h := h.wrote aj (h.ne g zi)
    have g := aj.here
    refine zS ?_
    have d := d.trans (aj.below ab)
    have b := e.below d
    refine ⟨rfl, .inr ⟨a, b⟩, jp 15 [15] rfl (.bool ((gget (kv ws) c.2).isSome)) ⟨a, b⟩ (hq := (zA (zC (zA (zA (zC (zA zG))))))) (vQ zk (zD (yC (yC (yP zk zk (yD (.bool ((gget (kv ws) c.2).isSome)) zf (yL ((gget (kv ws) c.2).isSome) ?_ ?_)))))))⟩
    ·intro dz
     have j := zH (zB j aa.below) aj u
     refine xF true zk (zU (qw (yD (pt bb 2) zf (qw (zX bb 2 (U8 ((lookB (kv ws) c.2).2.2)) zk zf (zQ g rfl) (qw (yD (pt ag 2) zf (qw (zX ag 2 (U8 ((lookB (kv ws) c.1).2.2)) zk zf (zQ j rfl) (qw (xB .u8 ((lookB (kv ws) c.2).2.2) ((lookB (kv ws) c.1).2.2) ((lookB (kv ws) c.2).2.2 ≠ (lookB (kv ws) c.1).2.2) rfl (xN ((lookB (kv ws) c.2).2.2) ((lookB (kv ws) c.1).2.2)) zk zk ?_ ?_)))))))))))
     ·intro cn
      replace cn : (lookB (kv ws) c.2).2.2 ≠ (lookB (kv ws) c.1).2.2 := by omega
      refine qF (zU (qs (qs (qs (qs (qs (qs (qs (qs (qT (zU (qs (qs (qs (qs (qs (qs (qs (qs (qT (yG ?_)))))))))))))))))))))
      intro dx b3
      have d := d.tr b3
      exact zD (zT (wR (zJ (zK (zK (zK (nQ (yA (zI (zR (zI (zI (zR (zI (yK [(.pointer none), (N6 i), (I6 83)] (hd := z) ⟨wK rfl (e6 (by (rw [qX i2 za (qY za za)]; done))) rfl, d⟩)))))))))))))))
     intro cv
     replace cv : (lookB (kv ws) c.2).2.2 = (lookB (kv ws) c.1).2.2 := by omega
     refine qF (zU (qw (zU (qw (zU (qw (zU (qw (zU (qw ?_))))))))))
     have hz := (b).at (k := 2) zj ad
     obtain ⟨bh, aw, b2, bw⟩ := hz
     have n := o.below d
     have p := t.below d
     refine yM (k := .i64) s i _ bh aw xV b2 (by first | omega | assumption) zk zk (qw (yD (pt bh ((aw + i * 2) + 1)) zf (qw (zX bh ((aw + i * 2) + 1) (I3 c.2) zk zf (bw 1 _ rfl) (qw (xE 55 [(pt r 0), s, (I3 c.2)] (.bool (tldF ws l c.2)) zg (fun wq hbq => c_told8 r q ws y wt s l c.2 wq (zB a hbq) (n.below hbq) (p.below hbq) (b.below hbq) (by first | omega | assumption) (by first | omega | assumption)) (yL (tldF ws l c.2) ?_ ?_)))))))
     ·intro eo
      refine qF (zU (qs (qs (qs (qs (qs (qs (qs (qs (qT (yG ?_)))))))))))
      intro em b9
      have d := d.tr b9
      exact zD (zT (wR (zJ (zK (zK (zK (nQ (yA (zI (zR (zI (zI (zR (zI (yK [(.pointer none), (N6 i), (I6 83)] (hd := z) ⟨wK rfl (e6 (by (rw [qX i2 za (bt_p3 za za)]; done))) rfl, d⟩)))))))))))))))
     intro ek
     refine qF (zU (qw (zU (qw (zU (qw (yD (pt ag 1) zf (qw (zX ag 1 (I3 ((lookB (kv ws) c.1).2.1)) zk zf (zQ j rfl) (qw (xE 56 [(pt r 0), s, (I3 ((lookB (kv ws) c.1).2.1))] (I3 (twF ws l ((lookB (kv ws) c.1).2.1))) zg (fun wq hbq => c_twin8 r q ws y wt s l ((lookB (kv ws) c.1).2.1) wq (zB a hbq) (n.below hbq) (p.below hbq) (b.below hbq) (by first | omega | assumption) (by first | omega | assumption)) (qw (yD (pt bb 1) zf (qw (zX bb 1 (I3 ((lookB (kv ws) c.2).2.1)) zk zf (zQ g rfl) (qw (xB .i32 (twF ws l ((lookB (kv ws) c.1).2.1)) ((lookB (kv ws) c.2).2.1) ((twF ws l ((lookB (kv ws) c.1).2.1)) ≠ (lookB (kv ws) c.2).2.1) rfl (xN (twF ws l ((lookB (kv ws) c.1).2.1)) ((lookB (kv ws) c.2).2.1)) zk zk ?_ ?_)))))))))))))))))
     ·intro c0
      replace c0 : (twF ws l ((lookB (kv ws) c.1).2.1)) ≠ (lookB (kv ws) c.2).2.1 := by omega
      refine qF (yG ?_)
      intro dr bx
      have d := d.tr bx
      exact zD (zT (wR (zJ (zK (zK (zK (nQ (yA (zI (zR (zI (zI (zR (zI (yK [(.pointer none), (N6 i), (I6 83)] (hd := z) ⟨wK rfl (e6 (by (rw [qX i2 za (bt_p4 za za)]; done))) rfl, d⟩)))))))))))))))
     intro cu
     replace cu : (twF ws l ((lookB (kv ws) c.1).2.1)) = (lookB (kv ws) c.2).2.1 := by omega
     refine qF (yG ?_)
     intro d2 a5
     refine zD (zF (zW (zD (zY (zJ (zJ (zJ ?_)))))))
     have d := d.tr a5
     have b := e.below d
     have h := h.below a5
     refine zEA b xV i ad [(I3 c.1), (I3 c.2)] rfl fun _ => (qE xV w.heap.size aq ae (c.1, c.2) d.size h zo zk rfl rfl zk rfl zk zk ?_)
     intro c2 d0 b6 bn c5
     have d := d.tg d.size bn h
     have a := zB a a5
     have a := yO a bn (h.ne a zi)
     have h := b6
     refine zK (zS (zL (zD (zY (zJ (xR i 1 (zK (zS ?_))))))))
     have b := e.below d
     have n := o.below d
     have p := t.below d
     refine zD ⟨_, zo, (i + 1), (ae ++ [(c.1, c.2)]), c2, rfl, z, zk, b, n, p, h, a, d, zo, ?_, ?_, ?_⟩
     ·exact i2.step za (bt_pok za za za za za)
     ·exact fl_on i3 za za
     (simp only [List.length_append, List.length_cons, List.length_nil]; omega)
    intro ef
    refine xF false zk (zU (qs (qs (qs (qs (qs (qT (zU (qs (qs (qs (qs (qs (qs (qs (qs (qT (zU (qs (qs (qs (qs (qs (qs (qs (qs (qT (yG ?_))))))))))))))))))))))))))))
    intro ej ce
    have d := d.tr ce
    exact zD (zT (wR (zJ (zK (zK (zK (nQ (yA (zI (zR (zI (zI (zR (zI (yK [(.pointer none), (N6 i), (I6 83)] (hd := z) ⟨wK rfl (e6 (by (rw [qX i2 za (qZ za za)]; done))) rfl, d⟩)))))))))))))))
   skip
   refine wY 13 rfl ?_ rfl
   refine zN [(I3 0), (I3 0), (U8 0)] 26 ?_
   intro bc eh ac
   have j := zB j af
   have u := yS (yE j) ac
   have ab := ac.ge d.size
   have g := ac.here
   refine zS ?_
   have d := d.tr ac.below
   have a := zB a ac.below
   have b := e.below d
   refine ⟨rfl, .inr ⟨a, b⟩, wF 9 zk (wY 9 rfl ?_ rfl)⟩
   have n := o.below d
   refine zc (wB q ws c.2 _ n (by first | omega | assumption)) ?_
   rintro _ dt ⟨rfl, ao⟩
   refine zS ?_
   have d := d.tr ao
   have a := zB a ao
   have b := e.below d
   refine ⟨rfl, .inr ⟨a, b⟩, jp 10 [10, 11, 12, 14, 15] rfl (.tuple #[(Value.agg #[(I3 ((lookB (kv ws) c.2).1)), (I3 ((lookB (kv ws) c.2).2.1)), (U8 ((lookB (kv ws) c.2).2.2))]), (.bool ((gget (kv ws) c.2).isSome))]) ⟨a, b⟩ (hq := (zA (zC (zA (zA (zC (zA zG))))))) (jp 11 [11, 14, 15] rfl (Value.agg #[(I3 ((lookB (kv ws) c.2).1)), (I3 ((lookB (kv ws) c.2).2.1)), (U8 ((lookB (kv ws) c.2).2.2))]) ⟨a, b⟩ (hq := (zA (zC (zA (zA (zC (zA zG))))))) (jp 12 [12, 15] rfl (.bool ((gget (kv ws) c.2).isSome)) ⟨a, b⟩ (hq := (zA (zC (zA (zA (zC (zA zG))))))) (wF 14 zk (wY 14 rfl ?_ rfl))))⟩
   have g := zB g ao
   refine wE [(I3 ((lookB (kv ws) c.2).1)), (I3 ((lookB (kv ws) c.2).2.1)), (U8 ((lookB (kv ws) c.2).2.2))] g ?_
   intro ed al
   have a := zH a al (zP a g zi)
   have h := ((h.below af).below ac.below).below ao
   have h := h.wrote al (h.ne g zi)
   have g := al.here
   refine zS ?_
   have d := d.trans (al.below ab)
   have b := e.below d
   refine ⟨rfl, .inr ⟨a, b⟩, jp 15 [15] rfl (.bool ((gget (kv ws) c.2).isSome)) ⟨a, b⟩ (hq := (zA (zC (zA (zA (zC (zA zG))))))) (vQ zk (zD (yC (yC (yP zk zk (yD (.bool ((gget (kv ws) c.2).isSome)) zf (yL ((gget (kv ws) c.2).isSome) ?_ ?_)))))))⟩
   ·intro d6
    have j := zH (zB (zB j ac.below) ao) al u
    refine xF true zk (zU (qw (yD (pt bc 2) zf (qw (zX bc 2 (U8 ((lookB (kv ws) c.2).2.2)) zk zf (zQ g rfl) (qw (yD (pt ag 2) zf (qw (zX ag 2 (U8 ((lookB (kv ws) c.1).2.2)) zk zf (zQ j rfl) (qw (xB .u8 ((lookB (kv ws) c.2).2.2) ((lookB (kv ws) c.1).2.2) ((lookB (kv ws) c.2).2.2 ≠ (lookB (kv ws) c.1).2.2) rfl (xN ((lookB (kv ws) c.2).2.2) ((lookB (kv ws) c.1).2.2)) zk zk ?_ ?_)))))))))))
    ·intro cs
     replace cs : (lookB (kv ws) c.2).2.2 ≠ (lookB (kv ws) c.1).2.2 := by omega
     refine qF (zU (qs (qs (qs (qs (qs (qs (qs (qs (qT (zU (qs (qs (qs (qs (qs (qs (qs (qs (qT (yG ?_)))))))))))))))))))))
     intro d4 b8
     have d := d.tr b8
     exact zD (zT (wR (zJ (zK (zK (zK (nQ (yA (zI (zR (zI (zI (zR (zI (yK [(.pointer none), (N6 i), (I6 83)] (hd := z) ⟨wK rfl (e6 (by (rw [qX i2 za (qY za za)]; done))) rfl, d⟩)))))))))))))))
    intro cg
    replace cg : (lookB (kv ws) c.2).2.2 = (lookB (kv ws) c.1).2.2 := by omega
    refine qF (zU (qw (zU (qw (zU (qw (zU (qw (zU (qw ?_))))))))))
    have hz := (b).at (k := 2) zj ad
    obtain ⟨bg, ax, b0, b7⟩ := hz
    have n := o.below d
    have p := t.below d
    refine yM (k := .i64) s i _ bg ax xV b0 (by first | omega | assumption) zk zk (qw (yD (pt bg ((ax + i * 2) + 1)) zf (qw (zX bg ((ax + i * 2) + 1) (I3 c.2) zk zf (b7 1 _ rfl) (qw (xE 55 [(pt r 0), s, (I3 c.2)] (.bool (tldF ws l c.2)) zg (fun wq hbq => c_told8 r q ws y wt s l c.2 wq (zB a hbq) (n.below hbq) (p.below hbq) (b.below hbq) (by first | omega | assumption) (by first | omega | assumption)) (yL (tldF ws l c.2) ?_ ?_)))))))
    ·intro eb
     refine qF (zU (qs (qs (qs (qs (qs (qs (qs (qs (qT (yG ?_)))))))))))
     intro dv cb
     have d := d.tr cb
     exact zD (zT (wR (zJ (zK (zK (zK (nQ (yA (zI (zR (zI (zI (zR (zI (yK [(.pointer none), (N6 i), (I6 83)] (hd := z) ⟨wK rfl (e6 (by (rw [qX i2 za (bt_p3 za za)]; done))) rfl, d⟩)))))))))))))))
    intro eg
    refine qF (zU (qw (zU (qw (zU (qw (yD (pt ag 1) zf (qw (zX ag 1 (I3 ((lookB (kv ws) c.1).2.1)) zk zf (zQ j rfl) (qw (xE 56 [(pt r 0), s, (I3 ((lookB (kv ws) c.1).2.1))] (I3 (twF ws l ((lookB (kv ws) c.1).2.1))) zg (fun wq hbq => c_twin8 r q ws y wt s l ((lookB (kv ws) c.1).2.1) wq (zB a hbq) (n.below hbq) (p.below hbq) (b.below hbq) (by first | omega | assumption) (by first | omega | assumption)) (qw (yD (pt bc 1) zf (qw (zX bc 1 (I3 ((lookB (kv ws) c.2).2.1)) zk zf (zQ g rfl) (qw (xB .i32 (twF ws l ((lookB (kv ws) c.1).2.1)) ((lookB (kv ws) c.2).2.1) ((twF ws l ((lookB (kv ws) c.1).2.1)) ≠ (lookB (kv ws) c.2).2.1) rfl (xN (twF ws l ((lookB (kv ws) c.1).2.1)) ((lookB (kv ws) c.2).2.1)) zk zk ?_ ?_)))))))))))))))))
    ·intro cx
     replace cx : (twF ws l ((lookB (kv ws) c.1).2.1)) ≠ (lookB (kv ws) c.2).2.1 := by omega
     refine qF (yG ?_)
     intro d7 cd
     have d := d.tr cd
     exact zD (zT (wR (zJ (zK (zK (zK (nQ (yA (zI (zR (zI (zI (zR (zI (yK [(.pointer none), (N6 i), (I6 83)] (hd := z) ⟨wK rfl (e6 (by (rw [qX i2 za (bt_p4 za za)]; done))) rfl, d⟩)))))))))))))))
    intro c3
    replace c3 : (twF ws l ((lookB (kv ws) c.1).2.1)) = (lookB (kv ws) c.2).2.1 := by omega
    refine qF (yG ?_)
    intro d5 a9
    refine zD (zF (zW (zD (zY (zJ (zJ (zJ ?_)))))))
    have d := d.tr a9
    have b := e.below d
    have h := h.below a9
    refine zEA b xV i ad [(I3 c.1), (I3 c.2)] rfl fun _ => (qE xV w.heap.size aq ae (c.1, c.2) d.size h zo zk rfl rfl zk rfl zk zk ?_)
    intro ci d3 cc bl c4
    have d := d.tg d.size bl h
    have a := zB a a9
    have a := yO a bl (h.ne a zi)
    have h := cc
    refine zK (zS (zL (zD (zY (zJ (xR i 1 (zK (zS ?_))))))))
    have b := e.below d
    have n := o.below d
    have p := t.below d
    refine zD ⟨_, zo, (i + 1), (ae ++ [(c.1, c.2)]), ci, rfl, z, zk, b, n, p, h, a, d, zo, ?_, ?_, ?_⟩
    ·exact i2.step za (bt_pok za za za za za)
    ·exact fl_on i3 za za
    (simp only [List.length_append, List.length_cons, List.length_nil]; omega)
   intro ea
   refine xF false zk (zU (qs (qs (qs (qs (qs (qT (zU (qs (qs (qs (qs (qs (qs (qs (qs (qT (zU (qs (qs (qs (qs (qs (qs (qs (qs (qT (yG ?_))))))))))))))))))))))))))))
   intro ee b4
   have d := d.tr b4
   exact zD (zT (wR (zJ (zK (zK (zK (nQ (yA (zI (zR (zI (zI (zR (zI (yK [(.pointer none), (N6 i), (I6 83)] (hd := z) ⟨wK rfl (e6 (by (rw [qX i2 za (qZ za za)]; done))) rfl, d⟩)))))))))))))))
  intro dy
  refine qW false (nQ (zT (yU (zV (yI (zD (zY (zJ (xR i 1 (zK (zS ?_)))))))))))
  have n := o.below d
  have p := t.below d
  refine zD ⟨_, zo, (i + 1), ae, aq, rfl, z, zk, b, n, p, h, a, d, zo, ?_, ?_, zo⟩
  ·exact i2.step za (bt_no za)
  exact fl_no i3 za za
 intro c1
 exfalso; exact hbad (bt_end i2 c1)
theorem c_Twinned_ok (r : Nat) (p : Value) (ws : List (Int × Int × Int)) (y : Value) (wt : List (Int × Int)) (s : Value) (l : List (Int × Int)) (w : World) (a : w.heap[r]? = some (.cells [p, y].toArray 78 (0, 0))) (j : Rd w encBrk p ws) (q : Rd w encTw y wt) (b : Rd w encTw s l) (hw : ws.length ≤ 4194304) (hl : l.length ≤ 1048576) (hok : twE (kv ws) l = none) :
  Calls Tryz.prog 22 #[(pt r 0), s] w (Ret fun v w' => ∃ (q0 : Value) (cb0 : Nat), v = (.tuple #[(pt cb0 0), (I6 0), (I6 0)]) ∧ Row w' w.heap.size 52 2 encTw q0 (l.filter (cntT (kv ws))) ∧ w'.heap[cb0]? = some (.cells [p, q0].toArray 78 (0, 0)) ∧ w.heap.size ≤ cb0 ∧ Below w.heap.size w w') := by
 refine wO 91 func22 rfl ?_
 have e := Below.refl w.heap.size w
 have d := b
 have o := j
 have t := q
 refine wR (zK (zK (zK (nR (zK (nW (wR (zK (nQ (yF (xG (fun m s0 w0 => ∃ (i : Nat) (ad : List (Int × Int)) (ag : Value), (m = l.length - i) ∧ (s0.ds = []) ∧ ([0, 1, 7, 8].map s0.f = [(pt r 0), s, ag, (N6 i)]) ∧ (Rd w0 encTw s l) ∧ (Rd w0 encBrk p ws) ∧ (Rd w0 encTw y wt) ∧ (Row w0 w.heap.size 52 2 encTw ag ad) ∧ (w0.heap[r]? = some (.cells [p, y].toArray 78 (0, 0))) ∧ (Below w.heap.size w w0) ∧ (i ≤ l.length) ∧ (BtI ws l i) ∧ (ad = (l.take i).filter (cntT (kv ws))) ∧ (ad.length ≤ i)) _ ⟨0, [], (.slice none 0 0), rfl, zk, zk, b, j, q, Row.nil _ _ _ _ _, a, e, (Nat.zero_le _), BadI.zero, rfl, (Nat.le_refl _)⟩ ?_)))))))))))
 rintro m1 s2 w3 ⟨i, ad, ag, hm, a6, dd, b, j, q, g, a, e, i1, i2, i3, i4⟩
 refine yZ dd (yC (wR (zJ (zJ (zln underlying50 (b).len (nLt i ((l).length) ?_ ?_))))))
 ·intro h4
  refine nQ (zT (zW (zD (yC (yF (yC (W_heldJ 15 16 zk zk zk ?_)))))))
  intro w5 bq
  refine ⟨fun w => (w.heap[r]? = some (.cells [p, y].toArray 78 (0, 0))) ∧ (Rd w encTw s l), ?_⟩
  have e := e.tr bq
  have a := zB a bq
  have b := d.below e
  refine jp 0 [0, 1, 2, 3, 9, 10, 11, 12, 14, 15] rfl (pt r 0) ⟨a, b⟩ (hq := (zA (zC (zA (zA (zC (zA zG))))))) (jp 1 [1, 2, 3, 9, 10, 11, 12, 14, 15] rfl (pt r 0) ⟨a, b⟩ (hq := (zA (zC (zA (zA (zC (zA zG))))))) (jp 2 [2, 3, 9, 10, 11, 12, 14, 15] rfl (pt r 0) ⟨a, b⟩ (hq := (zA (zC (zA (zA (zC (zA zG))))))) (jt 3 [3, 9, 10, 11, 12, 14, 15] rfl p ⟨a, b⟩ (yQ r 0 p zk zf (fun w2 h2 => zQ h2.1 rfl)) (hq := (zA (zC (zA (zA (zC (zA zG))))))) (jp 4 [4, 6, 7, 8, 9, 10, 11, 12, 14, 15] rfl s ⟨a, b⟩ (hq := (zA (zC (zA (zA (zC (zA zG))))))) (jp 5 [5, 6, 7, 8, 9, 10, 11, 12, 14, 15] rfl (N6 i) ⟨a, b⟩ (hq := (zA (zC (zA (zA (zC (zA zG))))))) ?_)))))
  have hz := yB l i (by first | omega | assumption); obtain ⟨c, ac⟩ := hz
  have hz := (b).at (k := 2) zj ac; obtain ⟨g9, av, b0, dl⟩ := hz
  refine jt 6 [6, 7, 8, 9, 10, 11, 12, 14, 15] rfl (pt g9 (av + i * 2)) ⟨a, b⟩ (yJ (k := .i64) s i _ g9 av xV b0 (by first | omega | assumption) zk zk) (hq := (zA (zC (zA (zA (zC (zA zG))))))) (jp 7 [7, 8, 9, 10, 11, 12, 14, 15] rfl (pt g9 (av + i * 2)) ⟨a, b⟩ (hq := (zA (zC (zA (zA (zC (zA zG))))))) (jt 8 [8, 9, 10, 11, 12, 14, 15] rfl (I3 c.1) ⟨a, b⟩ (yQ g9 (av + i * 2) (I3 c.1) zk zf (fun w2 h2 => Rd.later (k := 2) h2.2 zj b0 ac 0 _ rfl)) (hq := (zA (zC (zA (zA (zC (zA zG))))))) ?_))
  refine J_all2 9 13 zk ?_ ?_
  ·skip
   refine wY 9 rfl ?_ rfl
   have j := o.below e
   refine zc (wB p ws c.1 _ j (by first | omega | assumption)) ?_
   rintro _ d7 ⟨rfl, bi⟩
   refine zS ?_
   have e := e.tr bi
   have a := zB a bi
   have b := d.below e
   refine ⟨rfl, .inr ⟨a, b⟩, jp 10 [10, 11, 12, 14, 15] rfl (.tuple #[(Value.agg #[(I3 ((lookB (kv ws) c.1).1)), (I3 ((lookB (kv ws) c.1).2.1)), (U8 ((lookB (kv ws) c.1).2.2))]), (.bool ((gget (kv ws) c.1).isSome))]) ⟨a, b⟩ (hq := (zA (zC (zA (zA (zC (zA zG))))))) (jp 11 [11, 14, 15] rfl (Value.agg #[(I3 ((lookB (kv ws) c.1).1)), (I3 ((lookB (kv ws) c.1).2.1)), (U8 ((lookB (kv ws) c.1).2.2))]) ⟨a, b⟩ (hq := (zA (zC (zA (zA (zC (zA zG))))))) (jp 12 [12, 15] rfl (.bool ((gget (kv ws) c.1).isSome)) ⟨a, b⟩ (hq := (zA (zC (zA (zA (zC (zA zG))))))) (wF 13 zk (wY 13 rfl ?_ rfl))))⟩
   refine zN [(I3 0), (I3 0), (U8 0)] 26 ?_
   intro a1 d9 a3
   have bo := a3.ge e.size
   have n := a3.here
   refine zS ?_
   have e := e.tr a3.below
   have a := zB a a3.below
   have b := d.below e
   refine ⟨rfl, .inr ⟨a, b⟩, wF 14 zk (wY 14 rfl ?_ rfl)⟩
   refine wE [(I3 ((lookB (kv ws) c.1).1)), (I3 ((lookB (kv ws) c.1).2.1)), (U8 ((lookB (kv ws) c.1).2.2))] n ?_
   intro ec bf
   have a := zH a bf (zP a n zi)
   have g := ((g.below bq).below bi).below a3.below
   have g := g.wrote bf (g.ne n zi)
   have n := bf.here
   refine zS ?_
   have e := e.trans (bf.below bo)
   have b := d.below e
   refine ⟨rfl, .inr ⟨a, b⟩, jp 15 [15] rfl (.bool ((gget (kv ws) c.1).isSome)) ⟨a, b⟩ (hq := (zA (zC (zA (zA (zC (zA zG))))))) (vQ zk (zD (yC (wR (zr (.bool ((gget (kv ws) c.1).isSome)) (yN ((gget (kv ws) c.1).isSome) ?_ ?_))))))⟩
   ·intro eo
    refine qW true (nQ (zF (zW (zD (yC (W_heldJ 15 16 zk zk zk ?_))))))
    intro er ap
    refine ⟨fun w => (w.heap[r]? = some (.cells [p, y].toArray 78 (0, 0))) ∧ (Rd w encTw s l), ?_⟩
    have e := e.tr ap
    have a := zB a ap
    have b := d.below e
    refine jp 0 [0, 1, 2, 3, 9, 10, 11, 12, 14, 15] rfl (pt r 0) ⟨a, b⟩ (hq := (zA (zC (zA (zA (zC (zA zG))))))) (jp 1 [1, 2, 3, 9, 10, 11, 12, 14, 15] rfl (pt r 0) ⟨a, b⟩ (hq := (zA (zC (zA (zA (zC (zA zG))))))) (jp 2 [2, 3, 9, 10, 11, 12, 14, 15] rfl (pt r 0) ⟨a, b⟩ (hq := (zA (zC (zA (zA (zC (zA zG))))))) (jt 3 [3, 9, 10, 11, 12, 14, 15] rfl p ⟨a, b⟩ (yQ r 0 p zk zf (fun w2 h2 => zQ h2.1 rfl)) (hq := (zA (zC (zA (zA (zC (zA zG))))))) (jp 4 [4, 6, 7, 8, 9, 10, 11, 12, 14, 15] rfl s ⟨a, b⟩ (hq := (zA (zC (zA (zA (zC (zA zG))))))) (jp 5 [5, 6, 7, 8, 9, 10, 11, 12, 14, 15] rfl (N6 i) ⟨a, b⟩ (hq := (zA (zC (zA (zA (zC (zA zG))))))) ?_)))))
    have hz := (b).at (k := 2) zj ac; obtain ⟨bp, aq, bx, dt⟩ := hz
    refine jt 6 [6, 7, 8, 9, 10, 11, 12, 14, 15] rfl (pt bp (aq + i * 2)) ⟨a, b⟩ (yJ (k := .i64) s i _ bp aq xV bx (by first | omega | assumption) zk zk) (hq := (zA (zC (zA (zA (zC (zA zG))))))) (jp 7 [7, 8, 9, 10, 11, 12, 14, 15] rfl (pt bp ((aq + i * 2) + 1)) ⟨a, b⟩ (hq := (zA (zC (zA (zA (zC (zA zG))))))) (jt 8 [8, 9, 10, 11, 12, 14, 15] rfl (I3 c.2) ⟨a, b⟩ (yQ bp ((aq + i * 2) + 1) (I3 c.2) zk zf (fun w2 h2 => Rd.later (k := 2) h2.2 zj bx ac 1 _ rfl)) (hq := (zA (zC (zA (zA (zC (zA zG))))))) ?_))
    refine J_all2 9 13 zk ?_ ?_
    ·skip
     refine wY 9 rfl ?_ rfl
     have j := o.below e
     refine zc (wB p ws c.2 _ j (by first | omega | assumption)) ?_
     rintro _ ea ⟨rfl, bc⟩
     refine zS ?_
     have e := e.tr bc
     have a := zB a bc
     have b := d.below e
     refine ⟨rfl, .inr ⟨a, b⟩, jp 10 [10, 11, 12, 14, 15] rfl (.tuple #[(Value.agg #[(I3 ((lookB (kv ws) c.2).1)), (I3 ((lookB (kv ws) c.2).2.1)), (U8 ((lookB (kv ws) c.2).2.2))]), (.bool ((gget (kv ws) c.2).isSome))]) ⟨a, b⟩ (hq := (zA (zC (zA (zA (zC (zA zG))))))) (jp 11 [11, 14, 15] rfl (Value.agg #[(I3 ((lookB (kv ws) c.2).1)), (I3 ((lookB (kv ws) c.2).2.1)), (U8 ((lookB (kv ws) c.2).2.2))]) ⟨a, b⟩ (hq := (zA (zC (zA (zA (zC (zA zG))))))) (jp 12 [12, 15] rfl (.bool ((gget (kv ws) c.2).isSome)) ⟨a, b⟩ (hq := (zA (zC (zA (zA (zC (zA zG))))))) (wF 13 zk (wY 13 rfl ?_ rfl))))⟩
     refine zN [(I3 0), (I3 0), (U8 0)] 26 ?_
     intro bs ed ak
     have n := zB (zB n ap) bc
     have u := yS (yE n) ak
     have ab := ak.ge e.size
     have h := ak.here
     refine zS ?_
     have e := e.tr ak.below
     have a := zB a ak.below
     have b := d.below e
     refine ⟨rfl, .inr ⟨a, b⟩, wF 14 zk (wY 14 rfl ?_ rfl)⟩
     refine wE [(I3 ((lookB (kv ws) c.2).1)), (I3 ((lookB (kv ws) c.2).2.1)), (U8 ((lookB (kv ws) c.2).2.2))] h ?_
     intro eg a2
     have a := zH a a2 (zP a h zi)
     have g := ((g.below ap).below bc).below ak.below
     have g := g.wrote a2 (g.ne h zi)
     have h := a2.here
     refine zS ?_
     have e := e.trans (a2.below ab)
     have b := d.below e
     refine ⟨rfl, .inr ⟨a, b⟩, jp 15 [15] rfl (.bool ((gget (kv ws) c.2).isSome)) ⟨a, b⟩ (hq := (zA (zC (zA (zA (zC (zA zG))))))) (vQ zk (zD (yC (yC (yP zk zk (yD (.bool ((gget (kv ws) c.2).isSome)) zf (yL ((gget (kv ws) c.2).isSome) ?_ ?_)))))))⟩
     ·intro ej
      have n := zH (zB n ak.below) a2 u
      refine xF true zk (zU (qw (yD (pt bs 2) zf (qw (zX bs 2 (U8 ((lookB (kv ws) c.2).2.2)) zk zf (zQ h rfl) (qw (yD (pt a1 2) zf (qw (zX a1 2 (U8 ((lookB (kv ws) c.1).2.2)) zk zf (zQ n rfl) (qw (xB .u8 ((lookB (kv ws) c.2).2.2) ((lookB (kv ws) c.1).2.2) ((lookB (kv ws) c.2).2.2 ≠ (lookB (kv ws) c.1).2.2) rfl (xN ((lookB (kv ws) c.2).2.2) ((lookB (kv ws) c.1).2.2)) zk zk ?_ ?_)))))))))))
      ·intro cg
       replace cg : (lookB (kv ws) c.2).2.2 ≠ (lookB (kv ws) c.1).2.2 := by omega
       exfalso; exact qA hok i2 za (qY za cg)
      intro c9
      replace c9 : (lookB (kv ws) c.2).2.2 = (lookB (kv ws) c.1).2.2 := by omega
      refine qF (zU (qw (zU (qw (zU (qw (zU (qw (zU (qw ?_))))))))))
      have hz := (b).at (k := 2) zj ac
      obtain ⟨b5, a5, co, cn⟩ := hz
      have j := o.below e
      have q := t.below e
      refine yM (k := .i64) s i _ b5 a5 xV co (by first | omega | assumption) zk zk (qw (yD (pt b5 ((a5 + i * 2) + 1)) zf (qw (zX b5 ((a5 + i * 2) + 1) (I3 c.2) zk zf (cn 1 _ rfl) (qw (xE 55 [(pt r 0), s, (I3 c.2)] (.bool (tldF ws l c.2)) zg (fun wq hbq => c_told8 r p ws y wt s l c.2 wq (zB a hbq) (j.below hbq) (q.below hbq) (b.below hbq) (by first | omega | assumption) (by first | omega | assumption)) (yL (tldF ws l c.2) ?_ ?_)))))))
      ·intro c1
       exfalso; exact qA hok i2 za (bt_p3 za c1)
      intro el
      refine qF (zU (qw (zU (qw (zU (qw (yD (pt a1 1) zf (qw (zX a1 1 (I3 ((lookB (kv ws) c.1).2.1)) zk zf (zQ n rfl) (qw (xE 56 [(pt r 0), s, (I3 ((lookB (kv ws) c.1).2.1))] (I3 (twF ws l ((lookB (kv ws) c.1).2.1))) zg (fun wq hbq => c_twin8 r p ws y wt s l ((lookB (kv ws) c.1).2.1) wq (zB a hbq) (j.below hbq) (q.below hbq) (b.below hbq) (by first | omega | assumption) (by first | omega | assumption)) (qw (yD (pt bs 1) zf (qw (zX bs 1 (I3 ((lookB (kv ws) c.2).2.1)) zk zf (zQ h rfl) (qw (xB .i32 (twF ws l ((lookB (kv ws) c.1).2.1)) ((lookB (kv ws) c.2).2.1) ((twF ws l ((lookB (kv ws) c.1).2.1)) ≠ (lookB (kv ws) c.2).2.1) rfl (xN (twF ws l ((lookB (kv ws) c.1).2.1)) ((lookB (kv ws) c.2).2.1)) zk zk ?_ ?_)))))))))))))))))
      ·intro cq
       replace cq : (twF ws l ((lookB (kv ws) c.1).2.1)) ≠ (lookB (kv ws) c.2).2.1 := by omega
       exfalso; exact qA hok i2 za (bt_p4 za cq)
      intro c8
      replace c8 : (twF ws l ((lookB (kv ws) c.1).2.1)) = (lookB (kv ws) c.2).2.1 := by omega
      refine qF (yG ?_)
      intro en bh
      refine zD (zF (zW (zD (zY (zJ (zJ (zJ ?_)))))))
      have e := e.tr bh
      have b := d.below e
      have g := g.below bh
      refine zEA b xV i ac [(I3 c.1), (I3 c.2)] rfl fun _ => (qE xV w.heap.size ag ad (c.1, c.2) e.size g zo zk rfl rfl zk rfl zk zk ?_)
      intro da eb cf b1 c7
      have e := e.tg e.size b1 g
      have a := zB a bh
      have a := yO a b1 (g.ne a zi)
      have g := cf
      refine zK (zS (zL (zD (zY (zJ (xR i 1 (zK (zS ?_))))))))
      have b := d.below e
      have j := o.below e
      have q := t.below e
      refine zD ⟨_, zo, (i + 1), (ad ++ [(c.1, c.2)]), da, rfl, a6, zk, b, j, q, g, a, e, zo, ?_, ?_, ?_⟩
      ·exact i2.step za (bt_pok za za za za za)
      ·exact fl_on i3 za za
      (simp only [List.length_append, List.length_cons, List.length_nil]; omega)
     intro dc
     exfalso; exact qA hok i2 za (qZ za dc)
    skip
    refine wY 13 rfl ?_ rfl
    refine zN [(I3 0), (I3 0), (U8 0)] 26 ?_
    intro br es an
    have n := zB n ap
    have u := yS (yE n) an
    have ab := an.ge e.size
    have h := an.here
    refine zS ?_
    have e := e.tr an.below
    have a := zB a an.below
    have b := d.below e
    refine ⟨rfl, .inr ⟨a, b⟩, wF 9 zk (wY 9 rfl ?_ rfl)⟩
    have j := o.below e
    refine zc (wB p ws c.2 _ j (by first | omega | assumption)) ?_
    rintro _ eh ⟨rfl, a4⟩
    refine zS ?_
    have e := e.tr a4
    have a := zB a a4
    have b := d.below e
    refine ⟨rfl, .inr ⟨a, b⟩, jp 10 [10, 11, 12, 14, 15] rfl (.tuple #[(Value.agg #[(I3 ((lookB (kv ws) c.2).1)), (I3 ((lookB (kv ws) c.2).2.1)), (U8 ((lookB (kv ws) c.2).2.2))]), (.bool ((gget (kv ws) c.2).isSome))]) ⟨a, b⟩ (hq := (zA (zC (zA (zA (zC (zA zG))))))) (jp 11 [11, 14, 15] rfl (Value.agg #[(I3 ((lookB (kv ws) c.2).1)), (I3 ((lookB (kv ws) c.2).2.1)), (U8 ((lookB (kv ws) c.2).2.2))]) ⟨a, b⟩ (hq := (zA (zC (zA (zA (zC (zA zG))))))) (jp 12 [12, 15] rfl (.bool ((gget (kv ws) c.2).isSome)) ⟨a, b⟩ (hq := (zA (zC (zA (zA (zC (zA zG))))))) (wF 14 zk (wY 14 rfl ?_ rfl))))⟩
    have h := zB h a4
    refine wE [(I3 ((lookB (kv ws) c.2).1)), (I3 ((lookB (kv ws) c.2).2.1)), (U8 ((lookB (kv ws) c.2).2.2))] h ?_
    intro ee a0
    have a := zH a a0 (zP a h zi)
    have g := ((g.below ap).below an.below).below a4
    have g := g.wrote a0 (g.ne h zi)
    have h := a0.here
    refine zS ?_
    have e := e.trans (a0.below ab)
    have b := d.below e
    refine ⟨rfl, .inr ⟨a, b⟩, jp 15 [15] rfl (.bool ((gget (kv ws) c.2).isSome)) ⟨a, b⟩ (hq := (zA (zC (zA (zA (zC (zA zG))))))) (vQ zk (zD (yC (yC (yP zk zk (yD (.bool ((gget (kv ws) c.2).isSome)) zf (yL ((gget (kv ws) c.2).isSome) ?_ ?_)))))))⟩
    ·intro d8
     have n := zH (zB (zB n an.below) a4) a0 u
     refine xF true zk (zU (qw (yD (pt br 2) zf (qw (zX br 2 (U8 ((lookB (kv ws) c.2).2.2)) zk zf (zQ h rfl) (qw (yD (pt a1 2) zf (qw (zX a1 2 (U8 ((lookB (kv ws) c.1).2.2)) zk zf (zQ n rfl) (qw (xB .u8 ((lookB (kv ws) c.2).2.2) ((lookB (kv ws) c.1).2.2) ((lookB (kv ws) c.2).2.2 ≠ (lookB (kv ws) c.1).2.2) rfl (xN ((lookB (kv ws) c.2).2.2) ((lookB (kv ws) c.1).2.2)) zk zk ?_ ?_)))))))))))
     ·intro ce
      replace ce : (lookB (kv ws) c.2).2.2 ≠ (lookB (kv ws) c.1).2.2 := by omega
      exfalso; exact qA hok i2 za (qY za ce)
     intro c3
     replace c3 : (lookB (kv ws) c.2).2.2 = (lookB (kv ws) c.1).2.2 := by omega
     refine qF (zU (qw (zU (qw (zU (qw (zU (qw (zU (qw ?_))))))))))
     have hz := (b).at (k := 2) zj ac
     obtain ⟨cd, a8, ci, cv⟩ := hz
     have j := o.below e
     have q := t.below e
     refine yM (k := .i64) s i _ cd a8 xV ci (by first | omega | assumption) zk zk (qw (yD (pt cd ((a8 + i * 2) + 1)) zf (qw (zX cd ((a8 + i * 2) + 1) (I3 c.2) zk zf (cv 1 _ rfl) (qw (xE 55 [(pt r 0), s, (I3 c.2)] (.bool (tldF ws l c.2)) zg (fun wq hbq => c_told8 r p ws y wt s l c.2 wq (zB a hbq) (j.below hbq) (q.below hbq) (b.below hbq) (by first | omega | assumption) (by first | omega | assumption)) (yL (tldF ws l c.2) ?_ ?_)))))))
     ·intro db
      exfalso; exact qA hok i2 za (bt_p3 za db)
     intro ei
     refine qF (zU (qw (zU (qw (zU (qw (yD (pt a1 1) zf (qw (zX a1 1 (I3 ((lookB (kv ws) c.1).2.1)) zk zf (zQ n rfl) (qw (xE 56 [(pt r 0), s, (I3 ((lookB (kv ws) c.1).2.1))] (I3 (twF ws l ((lookB (kv ws) c.1).2.1))) zg (fun wq hbq => c_twin8 r p ws y wt s l ((lookB (kv ws) c.1).2.1) wq (zB a hbq) (j.below hbq) (q.below hbq) (b.below hbq) (by first | omega | assumption) (by first | omega | assumption)) (qw (yD (pt br 1) zf (qw (zX br 1 (I3 ((lookB (kv ws) c.2).2.1)) zk zf (zQ h rfl) (qw (xB .i32 (twF ws l ((lookB (kv ws) c.1).2.1)) ((lookB (kv ws) c.2).2.1) ((twF ws l ((lookB (kv ws) c.1).2.1)) ≠ (lookB (kv ws) c.2).2.1) rfl (xN (twF ws l ((lookB (kv ws) c.1).2.1)) ((lookB (kv ws) c.2).2.1)) zk zk ?_ ?_)))))))))))))))))
     ·intro cl
      replace cl : (twF ws l ((lookB (kv ws) c.1).2.1)) ≠ (lookB (kv ws) c.2).2.1 := by omega
      exfalso; exact qA hok i2 za (bt_p4 za cl)
     intro df
     replace df : (twF ws l ((lookB (kv ws) c.1).2.1)) = (lookB (kv ws) c.2).2.1 := by omega
     refine qF (yG ?_)
     intro ef bn
     refine zD (zF (zW (zD (zY (zJ (zJ (zJ ?_)))))))
     have e := e.tr bn
     have b := d.below e
     have g := g.below bn
     refine zEA b xV i ac [(I3 c.1), (I3 c.2)] rfl fun _ => (qE xV w.heap.size ag ad (c.1, c.2) e.size g zo zk rfl rfl zk rfl zk zk ?_)
     intro c6 em cj bu c5
     have e := e.tg e.size bu g
     have a := zB a bn
     have a := yO a bu (g.ne a zi)
     have g := cj
     refine zK (zS (zL (zD (zY (zJ (xR i 1 (zK (zS ?_))))))))
     have b := d.below e
     have j := o.below e
     have q := t.below e
     refine zD ⟨_, zo, (i + 1), (ad ++ [(c.1, c.2)]), c6, rfl, a6, zk, b, j, q, g, a, e, zo, ?_, ?_, ?_⟩
     ·exact i2.step za (bt_pok za za za za za)
     ·exact fl_on i3 za za
     (simp only [List.length_append, List.length_cons, List.length_nil]; omega)
    intro c2
    exfalso; exact qA hok i2 za (qZ za c2)
   intro dn
   refine qW false (nQ (zT (yU (zV (yI (zD (zY (zJ (xR i 1 (zK (zS ?_)))))))))))
   have j := o.below e
   have q := t.below e
   refine zD ⟨_, zo, (i + 1), ad, ag, rfl, a6, zk, b, j, q, g, a, e, zo, ?_, ?_, zo⟩
   ·exact i2.step za (bt_no za)
   exact fl_no i3 za za
  skip
  refine wY 13 rfl ?_ rfl
  refine zN [(I3 0), (I3 0), (U8 0)] 26 ?_
  intro af dz al
  have bo := al.ge e.size
  have n := al.here
  refine zS ?_
  have e := e.tr al.below
  have a := zB a al.below
  have b := d.below e
  refine ⟨rfl, .inr ⟨a, b⟩, wF 9 zk (wY 9 rfl ?_ rfl)⟩
  have j := o.below e
  refine zc (wB p ws c.1 _ j (by first | omega | assumption)) ?_
  rintro _ d5 ⟨rfl, ay⟩
  refine zS ?_
  have e := e.tr ay
  have a := zB a ay
  have b := d.below e
  refine ⟨rfl, .inr ⟨a, b⟩, jp 10 [10, 11, 12, 14, 15] rfl (.tuple #[(Value.agg #[(I3 ((lookB (kv ws) c.1).1)), (I3 ((lookB (kv ws) c.1).2.1)), (U8 ((lookB (kv ws) c.1).2.2))]), (.bool ((gget (kv ws) c.1).isSome))]) ⟨a, b⟩ (hq := (zA (zC (zA (zA (zC (zA zG))))))) (jp 11 [11, 14, 15] rfl (Value.agg #[(I3 ((lookB (kv ws) c.1).1)), (I3 ((lookB (kv ws) c.1).2.1)), (U8 ((lookB (kv ws) c.1).2.2))]) ⟨a, b⟩ (hq := (zA (zC (zA (zA (zC (zA zG))))))) (jp 12 [12, 15] rfl (.bool ((gget (kv ws) c.1).isSome)) ⟨a, b⟩ (hq := (zA (zC (zA (zA (zC (zA zG))))))) (wF 14 zk (wY 14 rfl ?_ rfl))))⟩
  have n := zB n ay
  refine wE [(I3 ((lookB (kv ws) c.1).1)), (I3 ((lookB (kv ws) c.1).2.1)), (U8 ((lookB (kv ws) c.1).2.2))] n ?_
  intro d1 ar
  have a := zH a ar (zP a n zi)
  have g := ((g.below bq).below al.below).below ay
  have g := g.wrote ar (g.ne n zi)
  have n := ar.here
  refine zS ?_
  have e := e.trans (ar.below bo)
  have b := d.below e
  refine ⟨rfl, .inr ⟨a, b⟩, jp 15 [15] rfl (.bool ((gget (kv ws) c.1).isSome)) ⟨a, b⟩ (hq := (zA (zC (zA (zA (zC (zA zG))))))) (vQ zk (zD (yC (wR (zr (.bool ((gget (kv ws) c.1).isSome)) (yN ((gget (kv ws) c.1).isSome) ?_ ?_))))))⟩
  ·intro d3
   refine qW true (nQ (zF (zW (zD (yC (W_heldJ 15 16 zk zk zk ?_))))))
   intro d6 ae
   refine ⟨fun w => (w.heap[r]? = some (.cells [p, y].toArray 78 (0, 0))) ∧ (Rd w encTw s l), ?_⟩
   have e := e.tr ae
   have a := zB a ae
   have b := d.below e
   refine jp 0 [0, 1, 2, 3, 9, 10, 11, 12, 14, 15] rfl (pt r 0) ⟨a, b⟩ (hq := (zA (zC (zA (zA (zC (zA zG))))))) (jp 1 [1, 2, 3, 9, 10, 11, 12, 14, 15] rfl (pt r 0) ⟨a, b⟩ (hq := (zA (zC (zA (zA (zC (zA zG))))))) (jp 2 [2, 3, 9, 10, 11, 12, 14, 15] rfl (pt r 0) ⟨a, b⟩ (hq := (zA (zC (zA (zA (zC (zA zG))))))) (jt 3 [3, 9, 10, 11, 12, 14, 15] rfl p ⟨a, b⟩ (yQ r 0 p zk zf (fun w2 h2 => zQ h2.1 rfl)) (hq := (zA (zC (zA (zA (zC (zA zG))))))) (jp 4 [4, 6, 7, 8, 9, 10, 11, 12, 14, 15] rfl s ⟨a, b⟩ (hq := (zA (zC (zA (zA (zC (zA zG))))))) (jp 5 [5, 6, 7, 8, 9, 10, 11, 12, 14, 15] rfl (N6 i) ⟨a, b⟩ (hq := (zA (zC (zA (zA (zC (zA zG))))))) ?_)))))
   have hz := (b).at (k := 2) zj ac; obtain ⟨bb, ah, bl, de⟩ := hz
   refine jt 6 [6, 7, 8, 9, 10, 11, 12, 14, 15] rfl (pt bb (ah + i * 2)) ⟨a, b⟩ (yJ (k := .i64) s i _ bb ah xV bl (by first | omega | assumption) zk zk) (hq := (zA (zC (zA (zA (zC (zA zG))))))) (jp 7 [7, 8, 9, 10, 11, 12, 14, 15] rfl (pt bb ((ah + i * 2) + 1)) ⟨a, b⟩ (hq := (zA (zC (zA (zA (zC (zA zG))))))) (jt 8 [8, 9, 10, 11, 12, 14, 15] rfl (I3 c.2) ⟨a, b⟩ (yQ bb ((ah + i * 2) + 1) (I3 c.2) zk zf (fun w2 h2 => Rd.later (k := 2) h2.2 zj bl ac 1 _ rfl)) (hq := (zA (zC (zA (zA (zC (zA zG))))))) ?_))
   refine J_all2 9 13 zk ?_ ?_
   ·skip
    refine wY 9 rfl ?_ rfl
    have j := o.below e
    refine zc (wB p ws c.2 _ j (by first | omega | assumption)) ?_
    rintro _ du ⟨rfl, au⟩
    refine zS ?_
    have e := e.tr au
    have a := zB a au
    have b := d.below e
    refine ⟨rfl, .inr ⟨a, b⟩, jp 10 [10, 11, 12, 14, 15] rfl (.tuple #[(Value.agg #[(I3 ((lookB (kv ws) c.2).1)), (I3 ((lookB (kv ws) c.2).2.1)), (U8 ((lookB (kv ws) c.2).2.2))]), (.bool ((gget (kv ws) c.2).isSome))]) ⟨a, b⟩ (hq := (zA (zC (zA (zA (zC (zA zG))))))) (jp 11 [11, 14, 15] rfl (Value.agg #[(I3 ((lookB (kv ws) c.2).1)), (I3 ((lookB (kv ws) c.2).2.1)), (U8 ((lookB (kv ws) c.2).2.2))]) ⟨a, b⟩ (hq := (zA (zC (zA (zA (zC (zA zG))))))) (jp 12 [12, 15] rfl (.bool ((gget (kv ws) c.2).isSome)) ⟨a, b⟩ (hq := (zA (zC (zA (zA (zC (zA zG))))))) (wF 13 zk (wY 13 rfl ?_ rfl))))⟩
    refine zN [(I3 0), (I3 0), (U8 0)] 26 ?_
    intro bd dr z
    have n := zB (zB n ae) au
    have u := yS (yE n) z
    have ab := z.ge e.size
    have h := z.here
    refine zS ?_
    have e := e.tr z.below
    have a := zB a z.below
    have b := d.below e
    refine ⟨rfl, .inr ⟨a, b⟩, wF 14 zk (wY 14 rfl ?_ rfl)⟩
    refine wE [(I3 ((lookB (kv ws) c.2).1)), (I3 ((lookB (kv ws) c.2).2.1)), (U8 ((lookB (kv ws) c.2).2.2))] h ?_
    intro d0 am
    have a := zH a am (zP a h zi)
    have g := ((g.below ae).below au).below z.below
    have g := g.wrote am (g.ne h zi)
    have h := am.here
    refine zS ?_
    have e := e.trans (am.below ab)
    have b := d.below e
    refine ⟨rfl, .inr ⟨a, b⟩, jp 15 [15] rfl (.bool ((gget (kv ws) c.2).isSome)) ⟨a, b⟩ (hq := (zA (zC (zA (zA (zC (zA zG))))))) (vQ zk (zD (yC (yC (yP zk zk (yD (.bool ((gget (kv ws) c.2).isSome)) zf (yL ((gget (kv ws) c.2).isSome) ?_ ?_)))))))⟩
    ·intro dx
     have n := zH (zB n z.below) am u
     refine xF true zk (zU (qw (yD (pt bd 2) zf (qw (zX bd 2 (U8 ((lookB (kv ws) c.2).2.2)) zk zf (zQ h rfl) (qw (yD (pt af 2) zf (qw (zX af 2 (U8 ((lookB (kv ws) c.1).2.2)) zk zf (zQ n rfl) (qw (xB .u8 ((lookB (kv ws) c.2).2.2) ((lookB (kv ws) c.1).2.2) ((lookB (kv ws) c.2).2.2 ≠ (lookB (kv ws) c.1).2.2) rfl (xN ((lookB (kv ws) c.2).2.2) ((lookB (kv ws) c.1).2.2)) zk zk ?_ ?_)))))))))))
     ·intro bz
      replace bz : (lookB (kv ws) c.2).2.2 ≠ (lookB (kv ws) c.1).2.2 := by omega
      exfalso; exact qA hok i2 za (qY za bz)
     intro cx
     replace cx : (lookB (kv ws) c.2).2.2 = (lookB (kv ws) c.1).2.2 := by omega
     refine qF (zU (qw (zU (qw (zU (qw (zU (qw (zU (qw ?_))))))))))
     have hz := (b).at (k := 2) zj ac
     obtain ⟨bm, aw, cb, cc⟩ := hz
     have j := o.below e
     have q := t.below e
     refine yM (k := .i64) s i _ bm aw xV cb (by first | omega | assumption) zk zk (qw (yD (pt bm ((aw + i * 2) + 1)) zf (qw (zX bm ((aw + i * 2) + 1) (I3 c.2) zk zf (cc 1 _ rfl) (qw (xE 55 [(pt r 0), s, (I3 c.2)] (.bool (tldF ws l c.2)) zg (fun wq hbq => c_told8 r p ws y wt s l c.2 wq (zB a hbq) (j.below hbq) (q.below hbq) (b.below hbq) (by first | omega | assumption) (by first | omega | assumption)) (yL (tldF ws l c.2) ?_ ?_)))))))
     ·intro cp
      exfalso; exact qA hok i2 za (bt_p3 za cp)
     intro dh
     refine qF (zU (qw (zU (qw (zU (qw (yD (pt af 1) zf (qw (zX af 1 (I3 ((lookB (kv ws) c.1).2.1)) zk zf (zQ n rfl) (qw (xE 56 [(pt r 0), s, (I3 ((lookB (kv ws) c.1).2.1))] (I3 (twF ws l ((lookB (kv ws) c.1).2.1))) zg (fun wq hbq => c_twin8 r p ws y wt s l ((lookB (kv ws) c.1).2.1) wq (zB a hbq) (j.below hbq) (q.below hbq) (b.below hbq) (by first | omega | assumption) (by first | omega | assumption)) (qw (yD (pt bd 1) zf (qw (zX bd 1 (I3 ((lookB (kv ws) c.2).2.1)) zk zf (zQ h rfl) (qw (xB .i32 (twF ws l ((lookB (kv ws) c.1).2.1)) ((lookB (kv ws) c.2).2.1) ((twF ws l ((lookB (kv ws) c.1).2.1)) ≠ (lookB (kv ws) c.2).2.1) rfl (xN (twF ws l ((lookB (kv ws) c.1).2.1)) ((lookB (kv ws) c.2).2.1)) zk zk ?_ ?_)))))))))))))))))
     ·intro b2
      replace b2 : (twF ws l ((lookB (kv ws) c.1).2.1)) ≠ (lookB (kv ws) c.2).2.1 := by omega
      exfalso; exact qA hok i2 za (bt_p4 za b2)
     intro cu
     replace cu : (twF ws l ((lookB (kv ws) c.1).2.1)) = (lookB (kv ws) c.2).2.1 := by omega
     refine qF (yG ?_)
     intro dv a9
     refine zD (zF (zW (zD (zY (zJ (zJ (zJ ?_)))))))
     have e := e.tr a9
     have b := d.below e
     have g := g.below a9
     refine zEA b xV i ac [(I3 c.1), (I3 c.2)] rfl fun _ => (qE xV w.heap.size ag ad (c.1, c.2) e.size g zo zk rfl rfl zk rfl zk zk ?_)
     intro cm dq ca bg cy
     have e := e.tg e.size bg g
     have a := zB a a9
     have a := yO a bg (g.ne a zi)
     have g := ca
     refine zK (zS (zL (zD (zY (zJ (xR i 1 (zK (zS ?_))))))))
     have b := d.below e
     have j := o.below e
     have q := t.below e
     refine zD ⟨_, zo, (i + 1), (ad ++ [(c.1, c.2)]), cm, rfl, a6, zk, b, j, q, g, a, e, zo, ?_, ?_, ?_⟩
     ·exact i2.step za (bt_pok za za za za za)
     ·exact fl_on i3 za za
     (simp only [List.length_append, List.length_cons, List.length_nil]; omega)
    intro ct
    exfalso; exact qA hok i2 za (qZ za ct)
   skip
   refine wY 13 rfl ?_ rfl
   refine zN [(I3 0), (I3 0), (U8 0)] 26 ?_
   intro be d4 aa
   have n := zB n ae
   have u := yS (yE n) aa
   have ab := aa.ge e.size
   have h := aa.here
   refine zS ?_
   have e := e.tr aa.below
   have a := zB a aa.below
   have b := d.below e
   refine ⟨rfl, .inr ⟨a, b⟩, wF 9 zk (wY 9 rfl ?_ rfl)⟩
   have j := o.below e
   refine zc (wB p ws c.2 _ j (by first | omega | assumption)) ?_
   rintro _ dj ⟨rfl, ai⟩
   refine zS ?_
   have e := e.tr ai
   have a := zB a ai
   have b := d.below e
   refine ⟨rfl, .inr ⟨a, b⟩, jp 10 [10, 11, 12, 14, 15] rfl (.tuple #[(Value.agg #[(I3 ((lookB (kv ws) c.2).1)), (I3 ((lookB (kv ws) c.2).2.1)), (U8 ((lookB (kv ws) c.2).2.2))]), (.bool ((gget (kv ws) c.2).isSome))]) ⟨a, b⟩ (hq := (zA (zC (zA (zA (zC (zA zG))))))) (jp 11 [11, 14, 15] rfl (Value.agg #[(I3 ((lookB (kv ws) c.2).1)), (I3 ((lookB (kv ws) c.2).2.1)), (U8 ((lookB (kv ws) c.2).2.2))]) ⟨a, b⟩ (hq := (zA (zC (zA (zA (zC (zA zG))))))) (jp 12 [12, 15] rfl (.bool ((gget (kv ws) c.2).isSome)) ⟨a, b⟩ (hq := (zA (zC (zA (zA (zC (zA zG))))))) (wF 14 zk (wY 14 rfl ?_ rfl))))⟩
   have h := zB h ai
   refine wE [(I3 ((lookB (kv ws) c.2).1)), (I3 ((lookB (kv ws) c.2).2.1)), (U8 ((lookB (kv ws) c.2).2.2))] h ?_
   intro dk aj
   have a := zH a aj (zP a h zi)
   have g := ((g.below ae).below aa.below).below ai
   have g := g.wrote aj (g.ne h zi)
   have h := aj.here
   refine zS ?_
   have e := e.trans (aj.below ab)
   have b := d.below e
   refine ⟨rfl, .inr ⟨a, b⟩, jp 15 [15] rfl (.bool ((gget (kv ws) c.2).isSome)) ⟨a, b⟩ (hq := (zA (zC (zA (zA (zC (zA zG))))))) (vQ zk (zD (yC (yC (yP zk zk (yD (.bool ((gget (kv ws) c.2).isSome)) zf (yL ((gget (kv ws) c.2).isSome) ?_ ?_)))))))⟩
   ·intro dp
    have n := zH (zB (zB n aa.below) ai) aj u
    refine xF true zk (zU (qw (yD (pt be 2) zf (qw (zX be 2 (U8 ((lookB (kv ws) c.2).2.2)) zk zf (zQ h rfl) (qw (yD (pt af 2) zf (qw (zX af 2 (U8 ((lookB (kv ws) c.1).2.2)) zk zf (zQ n rfl) (qw (xB .u8 ((lookB (kv ws) c.2).2.2) ((lookB (kv ws) c.1).2.2) ((lookB (kv ws) c.2).2.2 ≠ (lookB (kv ws) c.1).2.2) rfl (xN ((lookB (kv ws) c.2).2.2) ((lookB (kv ws) c.1).2.2)) zk zk ?_ ?_)))))))))))
    ·intro bt
     replace bt : (lookB (kv ws) c.2).2.2 ≠ (lookB (kv ws) c.1).2.2 := by omega
     exfalso; exact qA hok i2 za (qY za bt)
    intro ch
    replace ch : (lookB (kv ws) c.2).2.2 = (lookB (kv ws) c.1).2.2 := by omega
    refine qF (zU (qw (zU (qw (zU (qw (zU (qw (zU (qw ?_))))))))))
    have hz := (b).at (k := 2) zj ac
    obtain ⟨bk, ax, b7, b8⟩ := hz
    have j := o.below e
    have q := t.below e
    refine yM (k := .i64) s i _ bk ax xV b7 (by first | omega | assumption) zk zk (qw (yD (pt bk ((ax + i * 2) + 1)) zf (qw (zX bk ((ax + i * 2) + 1) (I3 c.2) zk zf (b8 1 _ rfl) (qw (xE 55 [(pt r 0), s, (I3 c.2)] (.bool (tldF ws l c.2)) zg (fun wq hbq => c_told8 r p ws y wt s l c.2 wq (zB a hbq) (j.below hbq) (q.below hbq) (b.below hbq) (by first | omega | assumption) (by first | omega | assumption)) (yL (tldF ws l c.2) ?_ ?_)))))))
    ·intro ck
     exfalso; exact qA hok i2 za (bt_p3 za ck)
    intro d2
    refine qF (zU (qw (zU (qw (zU (qw (yD (pt af 1) zf (qw (zX af 1 (I3 ((lookB (kv ws) c.1).2.1)) zk zf (zQ n rfl) (qw (xE 56 [(pt r 0), s, (I3 ((lookB (kv ws) c.1).2.1))] (I3 (twF ws l ((lookB (kv ws) c.1).2.1))) zg (fun wq hbq => c_twin8 r p ws y wt s l ((lookB (kv ws) c.1).2.1) wq (zB a hbq) (j.below hbq) (q.below hbq) (b.below hbq) (by first | omega | assumption) (by first | omega | assumption)) (qw (yD (pt be 1) zf (qw (zX be 1 (I3 ((lookB (kv ws) c.2).2.1)) zk zf (zQ h rfl) (qw (xB .i32 (twF ws l ((lookB (kv ws) c.1).2.1)) ((lookB (kv ws) c.2).2.1) ((twF ws l ((lookB (kv ws) c.1).2.1)) ≠ (lookB (kv ws) c.2).2.1) rfl (xN (twF ws l ((lookB (kv ws) c.1).2.1)) ((lookB (kv ws) c.2).2.1)) zk zk ?_ ?_)))))))))))))))))
    ·intro bw
     replace bw : (twF ws l ((lookB (kv ws) c.1).2.1)) ≠ (lookB (kv ws) c.2).2.1 := by omega
     exfalso; exact qA hok i2 za (bt_p4 za bw)
    intro cr
    replace cr : (twF ws l ((lookB (kv ws) c.1).2.1)) = (lookB (kv ws) c.2).2.1 := by omega
    refine qF (yG ?_)
    intro di ba
    refine zD (zF (zW (zD (zY (zJ (zJ (zJ ?_)))))))
    have e := e.tr ba
    have b := d.below e
    have g := g.below ba
    refine zEA b xV i ac [(I3 c.1), (I3 c.2)] rfl fun _ => (qE xV w.heap.size ag ad (c.1, c.2) e.size g zo zk rfl rfl zk rfl zk zk ?_)
    intro cw dw b4 bj cz
    have e := e.tg e.size bj g
    have a := zB a ba
    have a := yO a bj (g.ne a zi)
    have g := b4
    refine zK (zS (zL (zD (zY (zJ (xR i 1 (zK (zS ?_))))))))
    have b := d.below e
    have j := o.below e
    have q := t.below e
    refine zD ⟨_, zo, (i + 1), (ad ++ [(c.1, c.2)]), cw, rfl, a6, zk, b, j, q, g, a, e, zo, ?_, ?_, ?_⟩
    ·exact i2.step za (bt_pok za za za za za)
    ·exact fl_on i3 za za
    (simp only [List.length_append, List.length_cons, List.length_nil]; omega)
   intro cs
   exfalso; exact qA hok i2 za (qZ za cs)
  intro dy
  refine qW false (nQ (zT (yU (zV (yI (zD (zY (zJ (xR i 1 (zK (zS ?_)))))))))))
  have j := o.below e
  have q := t.below e
  refine zD ⟨_, zo, (i + 1), ad, ag, rfl, a6, zk, b, j, q, g, a, e, zo, ?_, ?_, zo⟩
  ·exact i2.step za (bt_no za)
  exact fl_no i3 za za
 intro dg
 refine nQ (zF (yU (zV (zV (yI (zD (wR (zJ (zr (pt r 0) (zFO 0 a rfl (zJ (L_run (Value.agg #[p, ag]) (by obtain ⟨a_, c_, e_⟩ := j.len; subst e_; obtain ⟨a_, c_, e_⟩ := g.rd.len; subst e_; kernel_rfl) zk (zN [p, ag] 78 ?_)))))))))))))
 intro bv dm az
 have b9 := az.ge e.size
 have b6 := az.here
 have e := e.tr az.below
 have g := g.below az.below
 exact zK (zK (zK (nQ (yA (yK [(pt bv 0), (I6 0), (I6 0)] (hd := a6) ⟨ag, bv, rfl, g.cast (by (rw [i3, List.take_of_length_le zo]; done)), b6, b9, e⟩)))))
end Go.Proofs.YtddnhlobnembaaaGreatDoor
end

/- === Wrb7 === -/
section
/- Walks, written by my program walk.py out of the specification rb7.py: each theorem says what one function returns and that it leaves memory as it was. -/
namespace Go.Proofs.YtddnhlobnembaaaGreatDoor
open Go Go.RowKit Go.FK _root_.Go.Proofs.Tryz
set_option maxHeartbeats 4000000
set_option maxRecDepth 100000
section
variable {rows : List Brk} {l acc one : List (Int × Int)} {x y z : Int × Int} {i : Nat} {t : List (Int × Int)}
theorem nt_rel (h : newB rows = none) : twE (kv (rowsB (kv rows))) l = twE (kv rows) l := (twE_alike (RelB.new h).get).symm
theorem nt_i (h : newB rows = none) : twI (kv rows) l = twI (kv (rowsB (kv rows))) l := by unfold twI; rw [nt_rel h]
theorem nt_m7 {r : List (Int × Int)} (hx : (([] ++ one) ++ (y :: r))[one.length]? = some x) : x = y := by
 rw [List.nil_append, List.getElem?_append_right (Nat.le_refl _), Nat.sub_self] at hx; exact (Option.some.inj hx).symm
theorem nt_m8 {r : List (Int × Int)} (hx : (([] ++ one) ++ (y :: z :: r))[one.length + 1]? = some x) : x = z := by
 rw [List.nil_append, List.getElem?_append_right zo, show one.length + 1 - one.length = 1 by omega] at hx; exact (Option.some.inj hx).symm
theorem nt_at (h : acc.drop i = one.drop i ++ t) (hx : acc[i]? = some x) (hy : one[i]? = some y) : x = y := by
 rw [wL hx, wL hy, List.cons_append] at h
 exact (List.cons.inj h).1
theorem nt_on (h : acc.drop i = one.drop i ++ t) (hx : acc[i]? = some x) (hy : one[i]? = some y) : (acc.set i z).drop (i + 1) = one.drop (i + 1) ++ t := by
 rw [wL hx, wL hy, List.cons_append] at h
 rw [List.drop_set_of_lt (Nat.lt_succ_self i)]; exact (List.cons.inj h).2
theorem twn_nb {x y : Int × Int} (h : (x.1 == y.1 && x.2 == y.2) = false) (e : x = y) : False := by subst e; simp at h
end
attribute [local irreducible] parF writeB rowsB newB kv twE
theorem eqagg52 (a0 : Int) (a1 : Int) (c0 : Int) (c1 : Int) (w : World) : (Op.equalIn 10000 52 (.agg #[.int .i32 a0, .int .i32 a1]) (.agg #[.int .i32 c0, .int .i32 c1])).run Tryz.prog w = .ok (a0 == c0 && a1 == c1) w := by
 have g : Tryz.prog.underlying 52 = some (.struct (Tryz.prog.fieldsOf 52)) := by kernel_rfl
 have d : Tryz.prog.stoodInHeld 52 = false := by kernel_rfl
 rw [show (10000 : Nat) = 9999 + 1 from rfl, run_equalIn_agg w 9999 52 _ _ g d]
 simp only [Program.fieldsOf, Tryz.underlying52]
 have c := Tryz.isAgg21
 have b := Tryz.sizeOf21
 have a := Tryz.underlying21
 try simp only [S]
 go_simp
 by_cases f : a0 = c0 <;> by_cases e : a1 = c1 <;> simp [f, e]
theorem c_furrowlaw08_BracketsTwins (al : Value) (rows : List (Int × Int × Int)) (am : Value) (one : List (Int × Int)) (ao : Value) (two : List (Int × Int)) (t : Value) (asked : List (Int)) (w : World) (r : Rd w encBrk al rows) (n : Rd w encTw am one) (z : Rd w encTw ao two) (c : Rd w encI32 t asked) (hty : w.cell? ⟨0, 0, none⟩ = some (.iface 180 (.agg #[.pointer (some ⟨7, 39, none⟩)]))) (hcap : CapOk al) (hl : rows.length ≤ 1048576) (hl1 : one.length ≤ 1048576) (hl2 : two.length ≤ 1048576) (ha : asked.length ≤ 9223372036854775807) :
  Calls Tryz.prog 6 #[al, am, ao, t] w (Ret fun v w' => v = (.bool true) ∧ Below w.heap.size w w') := by
 refine wO 170 func6 rfl ?_
 have g := Below.refl w.heap.size w
 have ai := r
 have ae := n
 have af := z
 have q := c
 refine wR (zK (nR (zJ ?_)))
 by_cases d7 : newB rows = none
 ·skip
  refine zc (c_New_ok al rows _ r zo za) ?_
  rintro _ w2 ⟨bu, bz, rfl, d, cw, e, cq, e7⟩
  replace cw := Nat.le_trans g.size cw
  replace cq := Nat.le_trans g.size cq
  have g := g.tr e7
  have r := ai.below g
  refine zJ (zr (pt bu 0) (zr (I6 0) (zr (I6 0) (zK (zK (zK (nR (zJ (zc (c_New8_ok al rows _ r za zo (by exact d7)) ?_)))))))))
  rintro _ w8 ⟨q6, q7, ba, rfl, b, o, a, ch, dc⟩
  replace ch := Nat.le_trans g.size ch
  have b := b.base g.size
  have o := o.base g.size
  have g := g.tr dc
  have n := ae.below g
  refine zJ (zr (pt ba 0) (zr (I6 0) (zr (I6 0) (zK (zK (zK (nW (wR (zJ (zJ (zr (.bool false) (zJ (zw (zJ (zw (zr (.bool false) (zw (zJ (zw (zr (.bool false) (zw (zr (.bool false) (xY (nQ (zF (zW (zD (yC (wR (zJ (zr (.bool false) (nQ (zF (zW (zD (wR (zJ (L_appAll xV w.heap.size (.slice none 0 0) am ([] : List (Int × Int)) one g.size (Row.nil _ w.heap.size 52 2 encTw) n (by (simp only [List.length_append, List.length_cons, List.length_nil]; omega)) zj zj zk zk zk ?_))))))))))))))))))))))))))))))))))))))
  intro dh f9 eu bn dt 
  have bc := ap_app2 o dt (ap_nil _)
  have g := g.grown bn g.size (fun k hk => by simp [Value.ownBlock] at hk)
  have d := zB d dc
  have d := yO d bn (by simp [Value.ownBlock])
  have e := zB e dc
  have e := yO e bn (by simp [Value.ownBlock])
  have a := yO a bn (by simp [Value.ownBlock])
  have r := ai.below g
  have n := ae.below g
  have z := af.below g
  have c := q.below g
  have b := b.grown bn (by cases h : Value.ownBlock _ <;> simp [Value.ownBlock])
  have o := o.grown bn (by cases h : Value.ownBlock _ <;> simp [Value.ownBlock])
  have ag := bc
  have ab := eu
  refine zK (nR (zJ (zr (Value.agg #[(I3 (-7)), (I3 0)]) (zr (Value.agg #[(I3 (-8)), (I3 0)]) (zM 2 [(I3 (-7)), (I3 0), (I3 (-8)), (I3 0)] 52 ?_)))))
  intro br e8 a3
  have dj := a3.ge g.size
  have bk : Value.ownBlock dh = none ∨ Value.ownBlock dh ≠ Value.ownBlock (.slice (some ⟨br, 0, none⟩) 2 2) := .inr (ab.new_ne a3)
  have ac := ap_comm bk
  have aa : Row e8 w.heap.size 52 2 encTw (.slice (some ⟨br, 0, none⟩) 2 2) ([(-7, 0), (-8, 0)] : List (Int × Int)) := Row.made ([(-7, 0), (-8, 0)] : List (Int × Int)) a3 dj rfl rfl (by first | decide | (simp; done))
  have g := g.tr a3.below
  have ab := ab.below a3.below
  refine L_appAll xV w.heap.size dh (.slice (some ⟨br, 0, none⟩) 2 2) (([] : List (Int × Int)) ++ one) ([(-7, 0), (-8, 0)] : List (Int × Int)) g.size ab aa.rd (by (simp only [List.length_append, List.length_cons, List.length_nil]; omega)) zj zj zk zk zk ?_
  intro b1 gm ev bi cn 
  have o := o.below a3.below
  have bc := ap_app2 o cn ag
  have b0 := ap_app2 aa cn ac
  have g := g.tg g.size bi ab
  have d := zB d a3.below
  have d := yO d bi (ab.ne d zi)
  have e := zB e a3.below
  have e := yO e bi (ab.ne e (by simp [gmObj]))
  have a := zB a a3.below
  have a := yO a bi (ab.ne a zi)
  have b := b.below a3.below
  have b := b.grown bi (b.apart ab zk)
  have o := o.grown bi ag
  have ag := bc
  have aa := aa.grown bi ac
  have ac := b0
  have ab := ev
  have n := ae.below g
  refine zK (nR (zJ (zJ (zJ (zln underlying50 (n).len (L_slto xV b1 ((([] : List (Int × Int)) ++ one) ++ ([(-7, 0), (-8, 0)] : List (Int × Int))) ((one).length) ab zj (by (simp only [List.length_append, List.length_cons, List.length_nil]; omega)) zk ⟨.i64, zk⟩ ?_))))))
  intro ew b4
  have hz : (List.take ((one).length) ((([] : List (Int × Int)) ++ one) ++ ([(-7, 0), (-8, 0)] : List (Int × Int)))) = one := zi; rw [hz] at b4
  by_cases c2 : twE (kv rows) one = none
  ·skip
   refine zc (c_Twins_ok bu bz (kv rows) (.map none) ew one _ d e b4 zo za) ?_
   rintro _ gl ⟨be, bj, bh, rfl, l, b9, j, cg, s, b8, fq, bf⟩
   replace b9 := Nat.le_trans g.size b9
   replace cg := Nat.le_trans g.size cg
   replace b8 := Nat.le_trans g.size b8
   refine zJ (zr (pt be 0) (zr (I6 0) (zr (I6 0) (zK (zK (zK (nR (zJ (zJ ?_)))))))))
   by_cases ed : twE (kv (rowsB (kv rows))) one = none
   ·skip
    have g := g.tr bf
    have a := zB a bf
    have n := ae.below g
    have b := b.below bf
    have o := o.below bf
    refine zc (c_Twinned_ok ba q6 (rowsB (kv rows)) q7 ([] : List (Int × Int)) am one _ a b.rd o.rd n (by (rw [vM, kv_len]; omega)) zo za) ?_
    rintro _ gj ⟨bq, bd, rfl, y, p, b7, ay⟩
    replace b7 := Nat.le_trans g.size b7
    have ab := ab.below bf
    have ax := ap_call y ab; have cv := ap_comm ax
    have y := y.base g.size
    have g := g.tr ay
    have n := ae.below g
    refine zJ (zr (pt bd 0) (zr (I6 0) (zr (I6 0) (zK (zK (zK (nW (wR (zJ (zJ (zr (.bool false) (zJ (zw (zJ (zw (zJ (zw (zr (.bool false) (xY (zJ (zw (zJ (zw (zJ (zw (zln underlying50 (n).len (zw ?_)))))))))))))))))))))))))))
    have hz := yB ((([] : List (Int × Int)) ++ one) ++ ([(-7, 0), (-8, 0)] : List (Int × Int))) ((one).length) (by (simp only [List.length_append, List.length_cons, List.length_nil]; omega)); obtain ⟨eh, er⟩ := hz
    have ab := ab.below ay
    have hz := (ab.rd).at (k := 2) zj er
    obtain ⟨dx, b2, ea, eg⟩ := hz
    refine xO (k := .i64) b1 ((one).length) _ dx b2 xV ea (by (simp only [List.length_append, List.length_cons, List.length_nil]; omega)) zk zk (zw (zr (pt dx (b2 + ((one).length) * 2)) (zw (wT dx (b2 + ((one).length) * 2) (I3 eh.1) zk zk (eg 0 _ rfl) (zw (zNe .i32 eh.1 (-7) ?_ ?_))))))
    ·intro ey
     exfalso; (have hq := nt_m7 za; rw [hq] at ey; exact ey rfl)
    intro f7
    refine xY (zJ (zw (zJ (zw (zJ (zw (zln underlying50 (n).len (zw (xR ((one).length) 1 (zw ?_))))))))))
    have hz := yB ((([] : List (Int × Int)) ++ one) ++ ([(-7, 0), (-8, 0)] : List (Int × Int))) ((one).length + 1) (by (simp only [List.length_append, List.length_cons, List.length_nil]; omega)); obtain ⟨e1, ep⟩ := hz
    have hz := (ab.rd).at (k := 2) zj ep
    obtain ⟨dz, b5, ek, ee⟩ := hz
    refine xO (k := .i64) b1 ((one).length + 1) _ dz b5 xV ek (by (simp only [List.length_append, List.length_cons, List.length_nil]; omega)) zk zk (zw (zr (pt dz (b5 + ((one).length + 1) * 2)) (zw (wT dz (b5 + ((one).length + 1) * 2) (I3 e1.1) zk zk (ee 0 _ rfl) (zw (zNe .i32 e1.1 (-8) ?_ ?_))))))
    ·intro em
     exfalso; (have hq := nt_m8 za; rw [hq] at em; exact em rfl)
    intro gg
    refine xY (nQ (zF (zW (zD (yC (wR (zK (nQ (yF ?_)))))))))
    have a := zB a ay
    have l := zB l ay
    have d := zB (zB d bf) ay
    have j := zB j ay
    have e := zB (zB e bf) ay
    have s := zB s ay
    have c := q.below g
    have r := ai.below g
    have z := af.below g
    have aa := (aa.below bf).below ay
    have b := b.below ay
    have o := o.below ay
    refine xG (fun m s0 w0 => ∃ (i : Nat) (a9 : List (Int × Int)) (aj : Value), (m = one.length - i) ∧ (s0.ds = []) ∧ ([1, 2, 3, 9, 11, 12, 14, 16, 17, 18, 19, 15, 20].map s0.f = [am, ao, t, (pt bu 0), (I6 0), (pt ba 0), (I6 0), (pt be 0), (I6 0), (pt bd 0), (I6 0), aj, (N6 i)]) ∧ (Rd w0 encBrk al rows) ∧ (Rd w0 encTw am one) ∧ (Rd w0 encTw ao two) ∧ (Rd w0 encI32 t asked) ∧ (Row w0 w.heap.size 26 3 encBrk q6 (rowsB (kv rows))) ∧ (Row w0 w.heap.size 52 2 encTw q7 ([] : List (Int × Int))) ∧ (Row w0 w.heap.size 52 2 encTw (.slice (some ⟨br, 0, none⟩) 2 2) ([(-7, 0), (-8, 0)] : List (Int × Int))) ∧ (Row w0 w.heap.size 52 2 encTw bq (one.filter (cntT (kv (rowsB (kv rows)))))) ∧ (Row w0 w.heap.size 52 2 encTw aj a9) ∧ (w0.heap[bu]? = some (.cells [(.map (some bz)), (.map none)].toArray 69 (0, 0))) ∧ (w0.heap[bz]? = some (gmObj .i32 vBrk (kv rows))) ∧ (w0.heap[ba]? = some (.cells [q6, q7].toArray 78 (0, 0))) ∧ (w0.heap[be]? = some (.cells [(.map (some bj)), (.map (some bh))].toArray 69 (0, 0))) ∧ (w0.heap[bj]? = some (gmObj .i32 vBrk (kv rows))) ∧ (w0.heap[bh]? = some (gmObj .i32 vI32 (twsM (kv rows) one))) ∧ (w0.heap[bd]? = some (.cells [q6, bq].toArray 78 (0, 0))) ∧ (Value.ownBlock q7 = none ∨ Value.ownBlock q7 ≠ Value.ownBlock aj) ∧ (Value.ownBlock (.slice (some ⟨br, 0, none⟩) 2 2) = none ∨ Value.ownBlock (.slice (some ⟨br, 0, none⟩) 2 2) ≠ Value.ownBlock aj) ∧ (Value.ownBlock bq = none ∨ Value.ownBlock bq ≠ Value.ownBlock aj) ∧ (Below w.heap.size w w0) ∧ (i ≤ one.length) ∧ (a9.length = one.length + 2) ∧ (a9.drop i = one.drop i ++ [(-7, 0), (-8, 0)])) _ ⟨0, ((([] : List (Int × Int)) ++ one) ++ ([(-7, 0), (-8, 0)] : List (Int × Int))), b1, rfl, zk, zk, r, n, z, c, b, o, aa, y, ab, d, e, a, l, j, s, p, ag, ac, ax, g, (Nat.zero_le _), zi, zi⟩ ?_
    rintro gp f8 gc ⟨i, a9, aj, hm, ci, d0, r, n, z, c, b, o, aa, y, u, d, e, a, l, j, s, p, ah, ad, av, g, i1, i2, i3⟩
    refine yZ d0 (yC (wR (zJ (zJ (zln underlying50 (n).len (nLt i ((one).length) ?_ ?_))))))
    ·intro gn
     refine nQ (zT (zW (zD (yC (yF (yC (yC (yP zk zk (zU (zU ?_))))))))))
     have hz := yB a9 i zo; obtain ⟨bm, cr⟩ := hz
     have hz := (u.rd).at (k := 2) zj cr
     obtain ⟨e0, ck, ec, ex⟩ := hz
     refine yM (k := .i64) aj i _ e0 ck xV ec zo zk zk (xZ e0 (ck + i * 2) [(I3 bm.1), (I3 bm.2)] zk zf zf ex (zU (zU ?_)))
     have hz := yB one i zo; obtain ⟨bl, ef⟩ := hz
     have hz := (n).at (k := 2) zj ef
     obtain ⟨eo, cm, es, e2⟩ := hz
     refine yM (k := .i64) am i _ eo cm xV es zo zk zk (xZ eo (cm + i * 2) [(I3 bl.1), (I3 bl.2)] zk zf zf e2 (vD [(I3 bm.1), (I3 bm.2)] [(I3 bl.1), (I3 bl.2)] (bm.1 == bl.1 && bm.2 == bl.2) zk zk zk (eqagg52 bm.1 bm.2 bl.1 bl.2) ?_ ?_))
     ·intro e5
      exfalso; first | exact twn_nb e5 (nt_at i3 za za)
     intro d9
     replace d9 : bm.1 = bl.1 ∧ bm.2 = bl.2 := by simpa using d9
     refine yG ?_
     intro ga aq
     refine zD (zF (zW (zD (zY (zJ (zJ (zr (Value.agg #[(I3 1), (I3 2)]) ?_)))))))
     have u := u.below aq
     have hz := (u.rd).at (k := 2) zj cr
     obtain ⟨e3, cp, cy, f0⟩ := hz
     refine xO (k := .i64) aj i _ e3 cp xV cy zo zk zk (qP i e3 cp (1, 2) [(I3 1), (I3 2)] u zj zo cy zk zk rfl zk rfl ?_)
     intro gb d6 ar
     have g := g.tr aq
     have g := g.tg g.size ar u
     have d := zB d aq
     have d := yO d ar (u.ne d zi)
     have e := zB e aq
     have e := yO e ar (u.ne e (by simp [gmObj]))
     have a := zB a aq
     have a := yO a ar (u.ne a zi)
     have l := zB l aq
     have l := yO l ar (u.ne l zi)
     have j := zB j aq
     have j := yO j ar (u.ne j (by simp [gmObj]))
     have s := zB s aq
     have s := yO s ar (u.ne s (by simp [gmObj]))
     have p := zB p aq
     have p := yO p ar (u.ne p zi)
     have b := b.below aq
     have b := b.grown ar (b.apart u zk)
     have u := d6
     have fz : (List.set a9 i (1, 2))[i]? = some (1, 2) := xA cr
     refine zS (zL (zD (zY (zJ (xR i 1 (zK (zS ?_)))))))
     have c := q.below g
     have n := ae.below g
     have r := ai.below g
     have z := af.below g
     have aa := (aa.below aq).grown ar ad
     have y := (y.below aq).grown ar av
     have o := (o.below aq).grown ar ah
     refine zD ⟨_, zo, (i + 1), (List.set a9 i (1, 2)), aj, rfl, ci, zk, r, n, z, c, b, o, aa, y, u, d, e, a, l, j, s, p, ah, ad, av, g, zo, ?_, ?_⟩
     ·(rw [List.length_set]; exact i2)
     exact nt_on i3 za za
    intro gf
    refine nQ (zF (yU (zV (zV (yI (zD (yC (wR (zJ (zJ (zJ (zc (c_told8w be bj (kv rows) (.map (some bh)) (twsM (kv rows) one) bd q6 (rowsB (kv rows)) bq (one.filter (cntT (kv (rowsB (kv rows))))) t asked _ l j (GmAt.of s) p b.rd y.rd c (by exact (RelB.new za).twins) (by (rw [kv_len]; omega)) (by exact Nat.le_trans fl_len zo) (by exact nb_v za) zo) ?_))))))))))))
    rintro _ gi ⟨rfl, ak⟩
    have g := g.tr ak
    have a := zB a ak
    have d := zB d ak
    have e := zB e ak
    have c := q.below g
    have b := b.below ak
    have o := o.below ak
    refine qW true (zJ (zw (zJ (zw (zJ (zw (zJ (zw (zc (c_told8w bu bz (kv rows) (.map none) [] ba q6 (rowsB (kv rows)) q7 ([] : List (Int × Int)) t asked _ d e (.inl ⟨rfl, rfl⟩) a b.rd o.rd c (by exact RelB.new za) (by (rw [kv_len]; omega)) (by (simp; done)) (by exact nb_v za) zo) ?_)))))))))
    rintro _ gd ⟨rfl, an⟩
    refine zw (qW true (xY (nQ (zF (zW (zD (yC (wR (zJ (zr (.bool false) (nQ (zF (zW (zD (wR (zJ (zJ ?_)))))))))))))))))
    by_cases c4 : twE (kv rows) two = none
    ·skip
     have g := g.tr an
     have l := zB (zB l ak) an
     have j := zB (zB j ak) an
     have z := af.below g
     refine zc (c_Twins_ok be bj (kv rows) (.map (some bh)) ao two _ l j z zo za) ?_
     rintro _ gk ⟨c5, d8, ei, rfl, bs, ca, bt, ce, bv, cb, fv, bg⟩
     replace ca := Nat.le_trans g.size ca
     replace ce := Nat.le_trans g.size ce
     replace cb := Nat.le_trans g.size cb
     refine zJ (zr (pt c5 0) (zr (I6 0) (zr (I6 0) (zK (zK (zK (nR (zJ (zJ ?_)))))))))
     by_cases dl : twE (kv (rowsB (kv rows))) two = none
     ·skip
      have g := g.tr bg
      have p := zB (zB (zB p ak) an) bg
      have z := af.below g
      have y := ((y.below ak).below an).below bg
      have b := (b.below an).below bg
      refine zc (c_Twinned_ok bd q6 (rowsB (kv rows)) bq (one.filter (cntT (kv (rowsB (kv rows))))) ao two _ p b.rd y.rd z (by (rw [vM, kv_len]; omega)) zo za) ?_
      rintro _ fw ⟨el, cl, rfl, bw, co, bx, ap⟩
      replace bx := Nat.le_trans g.size bx
      have bw := bw.base g.size
      have g := g.tr ap
      have bs := zB bs ap
      have bt := zB bt ap
      have bv := zB bv ap
      have c := q.below g
      have b := b.below ap
      refine zJ (zr (pt cl 0) (zr (I6 0) (zr (I6 0) (zK (zK (zK (nR (zJ (zJ (zr (.bool true) (zJ (zw (zJ (zw (zJ (zw (zr (.bool true) (xS (zJ (zw (zJ (zw (zJ (zw (zJ (zw (zc (c_told8w c5 d8 (kv rows) (.map (some ei)) (twsM (kv rows) two) cl q6 (rowsB (kv rows)) el (two.filter (cntT (kv (rowsB (kv rows))))) t asked _ bs bt (GmAt.of bv) co b.rd bw.rd c (by exact (RelB.new za).twins) (by (rw [kv_len]; omega)) (by exact Nat.le_trans fl_len zo) (by exact nb_v za) zo) ?_)))))))))))))))))))))))))))
      rintro _ f2 ⟨rfl, a8⟩
      have g := g.tr a8
      have l := zB (zB (zB l bg) ap) a8
      have p := zB (zB p ap) a8
      have j := zB (zB (zB j bg) ap) a8
      have s := zB (zB (zB (zB (zB s ak) an) bg) ap) a8
      have c := q.below g
      have y := (y.below ap).below a8
      have b := b.below a8
      refine xS (zJ (zw (zJ (zw (zJ (zw (zJ (zw (zc (c_told8w be bj (kv rows) (.map (some bh)) (twsM (kv rows) one) bd q6 (rowsB (kv rows)) bq (one.filter (cntT (kv (rowsB (kv rows))))) t asked _ l j (GmAt.of s) p b.rd y.rd c (by exact (RelB.new za).twins) (by (rw [kv_len]; omega)) (by exact Nat.le_trans fl_len zo) (by exact nb_v za) zo) ?_)))))))))
      rintro _ f4 ⟨rfl, c9⟩
      have g := g.tr c9
      refine xS (zJ (zw (zc (c_awake8  _ (wU hty g)) ?_)))
      rintro _ fe ⟨rfl, dw⟩
      have g := g.tr dw
      exact xS (zK (nQ (yA (yK [(.bool true)] (hd := ci) ⟨rfl, g⟩))))
     skip
     exfalso; exact dl ((nt_rel za).trans c4)
    skip
    have g := g.tr an
    have l := zB (zB l ak) an
    have j := zB (zB j ak) an
    have z := af.below g
    refine zc (c_Twins_bad be bj (kv rows) (.map (some bh)) ao two _ l j z zo za) ?_
    rintro _ fh ⟨rfl, a4⟩
    refine zJ (zr (.pointer none) (zr (N6 (twI (kv rows) two)) (zr (I6 83) (zK (zK (zK (nR (zJ (zJ ?_)))))))))
    by_cases db : twE (kv (rowsB (kv rows))) two = none
    ·skip
     exfalso; exact c4 ((nt_rel za).symm.trans db)
    skip
    have g := g.tr a4
    have p := zB (zB (zB p ak) an) a4
    have z := af.below g
    have y := ((y.below ak).below an).below a4
    have b := (b.below an).below a4
    refine zc (c_Twinned_bad bd q6 (rowsB (kv rows)) bq (one.filter (cntT (kv (rowsB (kv rows))))) ao two _ p b.rd y.rd z (by (rw [vM, kv_len]; omega)) zo za) ?_
    rintro _ fd ⟨rfl, a7⟩
    refine zJ (zr (.pointer none) (zr (N6 (twI (kv (rowsB (kv rows))) two)) (zr (I6 83) (zK (zK (zK (nR (zJ (zJ (qM .i64 (((twI (kv rows) two) : Nat) : Int) ((twI (kv (rowsB (kv rows))) two : Nat) : Int) ?_ ?_))))))))))
    ·intro f6
     have g := g.tr a7
     have c := q.below g
     refine zJ (zw (zJ (zw (zJ (zw (zr (.bool true) (xS (zJ (zw (zJ (zw (zJ (zw (zJ (zw (zc (c_told_nil t asked _ c) ?_))))))))))))))))
     rintro _ fb ⟨rfl, a5⟩
     have g := g.tr a5
     have l := zB (zB (zB l a4) a7) a5
     have p := zB (zB p a7) a5
     have j := zB (zB (zB j a4) a7) a5
     have s := zB (zB (zB (zB (zB s ak) an) a4) a7) a5
     have c := q.below g
     have y := (y.below a7).below a5
     have b := (b.below a7).below a5
     refine xS (zJ (zw (zJ (zw (zJ (zw (zJ (zw (zc (c_told8w be bj (kv rows) (.map (some bh)) (twsM (kv rows) one) bd q6 (rowsB (kv rows)) bq (one.filter (cntT (kv (rowsB (kv rows))))) t asked _ l j (GmAt.of s) p b.rd y.rd c (by exact (RelB.new za).twins) (by (rw [kv_len]; omega)) (by exact Nat.le_trans fl_len zo) (by exact nb_v za) zo) ?_)))))))))
     rintro _ fa ⟨rfl, da⟩
     have g := g.tr da
     refine xS (zJ (zw (zc (c_awake8  _ (wU hty g)) ?_)))
     rintro _ fi ⟨rfl, dy⟩
     have g := g.tr dy
     exact xS (zK (nQ (yA (yK [(.bool true)] (hd := ci) ⟨rfl, g⟩))))
    intro en
    exfalso; exact en (by rw [nt_i za])
   skip
   exfalso; exact ed ((nt_rel za).trans c2)
  skip
  refine zc (c_Twins_bad bu bz (kv rows) (.map none) ew one _ d e b4 zo za) ?_
  rintro _ f3 ⟨rfl, aw⟩
  refine zJ (zr (.pointer none) (zr (N6 (twI (kv rows) one)) (zr (I6 83) (zK (zK (zK (nR (zJ (zJ ?_)))))))))
  by_cases df : twE (kv (rowsB (kv rows))) one = none
  ·skip
   exfalso; exact c2 ((nt_rel za).symm.trans df)
  skip
  have g := g.tr aw
  have a := zB a aw
  have n := ae.below g
  have b := b.below aw
  have o := o.below aw
  refine zc (c_Twinned_bad ba q6 (rowsB (kv rows)) q7 ([] : List (Int × Int)) am one _ a b.rd o.rd n (by (rw [vM, kv_len]; omega)) zo za) ?_
  rintro _ fj ⟨rfl, a0⟩
  refine zJ (zr (.pointer none) (zr (N6 (twI (kv (rowsB (kv rows))) one)) (zr (I6 83) (zK (zK (zK (nW (wR (zJ (zJ (zNe .i64 (((twI (kv rows) one) : Nat) : Int) ((twI (kv (rowsB (kv rows))) one : Nat) : Int) ?_ ?_)))))))))))
  ·intro ej
   exfalso; exact ej (by rw [nt_i za])
  intro fc
  have g := g.tr a0
  have n := ae.below g
  refine zJ (zw (zJ (zw (zJ (zw (zr (.bool false) (xY (zJ (zw (zJ (zw (zJ (zw (zln underlying50 (n).len (zw ?_)))))))))))))))
  have hz := yB ((([] : List (Int × Int)) ++ one) ++ ([(-7, 0), (-8, 0)] : List (Int × Int))) ((one).length) (by (simp only [List.length_append, List.length_cons, List.length_nil]; omega)); obtain ⟨c3, dr⟩ := hz
  have ab := (ab.below aw).below a0
  have hz := (ab.rd).at (k := 2) zj dr
  obtain ⟨cu, bp, d5, di⟩ := hz
  refine xO (k := .i64) b1 ((one).length) _ cu bp xV d5 (by (simp only [List.length_append, List.length_cons, List.length_nil]; omega)) zk zk (zw (zr (pt cu (bp + ((one).length) * 2)) (zw (wT cu (bp + ((one).length) * 2) (I3 c3.1) zk zk (di 0 _ rfl) (zw (zNe .i32 c3.1 (-7) ?_ ?_))))))
  ·intro cx
   exfalso; (have hq := nt_m7 za; rw [hq] at cx; exact cx rfl)
  intro ft
  refine xY (zJ (zw (zJ (zw (zJ (zw (zln underlying50 (n).len (zw (xR ((one).length) 1 (zw ?_))))))))))
  have hz := yB ((([] : List (Int × Int)) ++ one) ++ ([(-7, 0), (-8, 0)] : List (Int × Int))) ((one).length + 1) (by (simp only [List.length_append, List.length_cons, List.length_nil]; omega)); obtain ⟨cz, dg⟩ := hz
  have hz := (ab.rd).at (k := 2) zj dg
  obtain ⟨ct, bo, dp, d4⟩ := hz
  refine xO (k := .i64) b1 ((one).length + 1) _ ct bo xV dp (by (simp only [List.length_append, List.length_cons, List.length_nil]; omega)) zk zk (zw (zr (pt ct (bo + ((one).length + 1) * 2)) (zw (wT ct (bo + ((one).length + 1) * 2) (I3 cz.1) zk zk (d4 0 _ rfl) (zw (zNe .i32 cz.1 (-8) ?_ ?_))))))
  ·intro c6
   exfalso; (have hq := nt_m8 za; rw [hq] at c6; exact c6 rfl)
  intro fr
  refine xY (nQ (zF (zW (zD (yC (wR (zK (nQ (yF ?_)))))))))
  have a := zB a a0
  have d := zB (zB d aw) a0
  have e := zB (zB e aw) a0
  have c := q.below g
  have r := ai.below g
  have z := af.below g
  have aa := (aa.below aw).below a0
  have b := b.below a0
  have o := o.below a0
  refine xG (fun m s0 w0 => ∃ (i : Nat) (a9 : List (Int × Int)) (aj : Value), (m = one.length - i) ∧ (s0.ds = []) ∧ ([1, 2, 3, 9, 11, 12, 14, 16, 17, 18, 19, 15, 20].map s0.f = [am, ao, t, (pt bu 0), (I6 83), (pt ba 0), (I6 83), (.pointer none), (N6 (twI (kv rows) one)), (.pointer none), (N6 (twI (kv (rowsB (kv rows))) one)), aj, (N6 i)]) ∧ (Rd w0 encBrk al rows) ∧ (Rd w0 encTw am one) ∧ (Rd w0 encTw ao two) ∧ (Rd w0 encI32 t asked) ∧ (Row w0 w.heap.size 26 3 encBrk q6 (rowsB (kv rows))) ∧ (Row w0 w.heap.size 52 2 encTw q7 ([] : List (Int × Int))) ∧ (Row w0 w.heap.size 52 2 encTw (.slice (some ⟨br, 0, none⟩) 2 2) ([(-7, 0), (-8, 0)] : List (Int × Int))) ∧ (Row w0 w.heap.size 52 2 encTw aj a9) ∧ (w0.heap[bu]? = some (.cells [(.map (some bz)), (.map none)].toArray 69 (0, 0))) ∧ (w0.heap[bz]? = some (gmObj .i32 vBrk (kv rows))) ∧ (w0.heap[ba]? = some (.cells [q6, q7].toArray 78 (0, 0))) ∧ (Value.ownBlock q7 = none ∨ Value.ownBlock q7 ≠ Value.ownBlock aj) ∧ (Value.ownBlock (.slice (some ⟨br, 0, none⟩) 2 2) = none ∨ Value.ownBlock (.slice (some ⟨br, 0, none⟩) 2 2) ≠ Value.ownBlock aj) ∧ (Below w.heap.size w w0) ∧ (i ≤ one.length) ∧ (a9.length = one.length + 2) ∧ (a9.drop i = one.drop i ++ [(-7, 0), (-8, 0)])) _ ⟨0, ((([] : List (Int × Int)) ++ one) ++ ([(-7, 0), (-8, 0)] : List (Int × Int))), b1, rfl, zk, zk, r, n, z, c, b, o, aa, ab, d, e, a, ag, ac, g, (Nat.zero_le _), zi, zi⟩ ?_
  rintro ff fm fn ⟨i, a9, aj, hm, ci, d0, r, n, z, c, b, o, aa, u, d, e, a, ah, ad, g, i1, i2, i3⟩
  refine yZ d0 (yC (wR (zJ (zJ (zln underlying50 (n).len (nLt i ((one).length) ?_ ?_))))))
  ·intro fk
   refine nQ (zT (zW (zD (yC (yF (yC (yC (yP zk zk (zU (zU ?_))))))))))
   have hz := yB a9 i zo; obtain ⟨a1, b6⟩ := hz
   have hz := (u.rd).at (k := 2) zj b6
   obtain ⟨c1, cc, dv, dq⟩ := hz
   refine yM (k := .i64) aj i _ c1 cc xV dv zo zk zk (xZ c1 (cc + i * 2) [(I3 a1.1), (I3 a1.2)] zk zf zf dq (zU (zU ?_)))
   have hz := yB one i zo; obtain ⟨a2, dm⟩ := hz
   have hz := (n).at (k := 2) zj dm
   obtain ⟨c8, cd, dd, dk⟩ := hz
   refine yM (k := .i64) am i _ c8 cd xV dd zo zk zk (xZ c8 (cd + i * 2) [(I3 a2.1), (I3 a2.2)] zk zf zf dk (vD [(I3 a1.1), (I3 a1.2)] [(I3 a2.1), (I3 a2.2)] (a1.1 == a2.1 && a1.2 == a2.2) zk zk zk (eqagg52 a1.1 a1.2 a2.1 a2.2) ?_ ?_))
   ·intro et
    exfalso; first | exact twn_nb et (nt_at i3 za za)
   intro c7
   replace c7 : a1.1 = a2.1 ∧ a1.2 = a2.2 := by simpa using c7
   refine yG ?_
   intro fo az
   refine zD (zF (zW (zD (zY (zJ (zJ (zr (Value.agg #[(I3 1), (I3 2)]) ?_)))))))
   have u := u.below az
   have hz := (u.rd).at (k := 2) zj b6
   obtain ⟨c0, cf, cs, e9⟩ := hz
   refine xO (k := .i64) aj i _ c0 cf xV cs zo zk zk (qP i c0 cf (1, 2) [(I3 1), (I3 2)] u zj zo cs zk zk rfl zk rfl ?_)
   intro f1 de a6
   have g := g.tr az
   have g := g.tg g.size a6 u
   have d := zB d az
   have d := yO d a6 (u.ne d zi)
   have e := zB e az
   have e := yO e a6 (u.ne e (by simp [gmObj]))
   have a := zB a az
   have a := yO a a6 (u.ne a zi)
   have b := b.below az
   have b := b.grown a6 (b.apart u zk)
   have u := de
   have e6 : (List.set a9 i (1, 2))[i]? = some (1, 2) := xA b6
   refine zS (zL (zD (zY (zJ (xR i 1 (zK (zS ?_)))))))
   have c := q.below g
   have n := ae.below g
   have r := ai.below g
   have z := af.below g
   have aa := (aa.below az).grown a6 ad
   have o := (o.below az).grown a6 ah
   refine zD ⟨_, zo, (i + 1), (List.set a9 i (1, 2)), aj, rfl, ci, zk, r, n, z, c, b, o, aa, u, d, e, a, ah, ad, g, zo, ?_, ?_⟩
   ·(rw [List.length_set]; exact i2)
   exact nt_on i3 za za
  intro fu
  refine nQ (zF (yU (zV (zV (yI (zD (yC (wR (zJ (zJ (zJ (zc (c_told_nil t asked _ c) ?_))))))))))))
  rintro _ fx ⟨rfl, bb⟩
  have g := g.tr bb
  have a := zB a bb
  have d := zB d bb
  have e := zB e bb
  have c := q.below g
  have b := b.below bb
  have o := o.below bb
  refine qW true (zJ (zw (zJ (zw (zJ (zw (zJ (zw (zc (c_told8w bu bz (kv rows) (.map none) [] ba q6 (rowsB (kv rows)) q7 ([] : List (Int × Int)) t asked _ d e (.inl ⟨rfl, rfl⟩) a b.rd o.rd c (by exact RelB.new za) (by (rw [kv_len]; omega)) (by (simp; done)) (by exact nb_v za) zo) ?_)))))))))
  rintro _ fy ⟨rfl, dn⟩
  have g := g.tr dn
  refine zw (qW true (xY (nQ (zF (zW (zD (yC (wR (zJ (zr (.bool true) (nQ (zT (wR (zc (c_awake8  _ (wU hty g)) ?_))))))))))))))
  rintro _ f5 ⟨rfl, du⟩
  have g := g.tr du
  exact zK (nQ (yA (zI (yK [(.bool true)] (hd := ci) ⟨rfl, g⟩))))
 skip
 refine zc (c_New_bad al rows _ r zo za) ?_
 rintro _ fs ⟨rfl, d3⟩
 have g := g.tr d3
 have r := ai.below g
 refine zJ (zr (.pointer none) (zr (N6 (newI rows)) (zr (I6 (newE rows)) (zK (zK (zK (nR (zJ (zc (c_New8_bad al rows _ r za zo (by exact d7)) ?_)))))))))
 rintro _ fl ⟨rfl, d1⟩
 refine zJ (zr (.pointer none) (zr (N6 (newI rows)) (zr (I6 (newE rows)) (zK (zK (zK (nW (wR (zJ (zJ (zNe .i64 (newE rows) (newE rows) ?_ ?_)))))))))))
 ·intro ez
  exact (ez rfl).elim
 intro fp
 have g := g.tr d1
 refine zJ (zw (zJ (zw (zr (.bool true) (zw (zJ (zw (zr (.bool true) (zw (zr (.bool false) (xY (nQ (zF (zW (zD (yC (wR (zJ (zr (.bool true) (nQ (zT (wR (zc (c_awake8  _ (wU hty g)) ?_)))))))))))))))))))))))
 rintro _ fg ⟨rfl, d2⟩
 have g := g.tr d2
 exact zK (nQ (yA (zI (yK [(.bool true)] ⟨rfl, g⟩))))
end Go.Proofs.YtddnhlobnembaaaGreatDoor
end
