/- Joined by my program pack2.py out of my own texts: Wcb4 Wcb5 Wcb6 FKbg Wrb1 Wrb2 Wrb3. -/
import Derived.Test.YtddnhlobnembaaaGreatDoorProg
import Derived.Tactics2
import Derived.Test.YtddnhlobnembaaaGreatDoorP1
import Derived.Test.YtddnhlobnembaaaGreatDoorP2
import Derived.Test.YtddnhlobnembaaaGreatDoorP3
import Derived.Test.YtddnhlobnembaaaGreatDoorP4
set_option linter.unusedVariables false
set_option linter.unusedSimpArgs false
/- === Wcb4 === -/
section
/- Walks, written by my program walk.py out of the specification cb4.py: each theorem says what one function returns and that it leaves memory as it was. -/
namespace Go.Proofs.YtddnhlobnembaaaGreatDoor
open Go Go.RowKit Go.FK _root_.Go.Proofs.Tryz
set_option maxHeartbeats 4000000
set_option maxRecDepth 100000
theorem el79 : Elem Tryz.prog 79 3 1 8 := ⟨underlying79, zk, rfl⟩
theorem c_itoa2 (n : Int) (w : World) (hn0 : 0 ≤ n ∧ n < 100) :
  Calls Tryz.prog 186 #[(I6 n)] w (Ret fun v w' => v = (S (dg2 n)) ∧ Below w.heap.size w w') :=
 itoa2 Tryz.strconv_Itoa_small n w hn0
theorem c_Errno_Error (e : Int) (w : World) (he0 : 0 ≤ e ∧ e < 100) :
  Calls Tryz.prog 185 #[(I6 e)] w (Ret fun v w' => v = (S (errD e)) ∧ Below w.heap.size w w') := by
 refine wI 6 func185 rfl ?_
 have a := Below.refl w.heap.size w
 refine wR (zG (nR (zD (zc (c_itoa2 e _ zo) ?_))))
 rintro _ c ⟨rfl, b⟩
 have := dg2_len e
 have a := a.tr b
 exact wE ([101, 114, 114, 111, 114, 32] : List UInt8) (dg2 e) (by (simp only [List.length_append, List.length_cons, List.length_nil]; omega)) zk zk (zG (nQ (zS (yC [(S (([101, 114, 114, 111, 114, 32] : List UInt8) ++ (dg2 e)))] ⟨congrArg S (by rfl), a⟩))))
theorem c_Fault_Error (a : Nat) (fl : List UInt8) (ln : Int) (cd : Int) (w : World) (m : w.heap[a]? = some (.cells [(S fl), (I6 ln), (I6 cd)].toArray 85 (0, 0))) (hf : fl.length ≤ 1073741824) (hl0 : 0 ≤ ln ∧ ln < 100) (hc0 : 0 ≤ cd ∧ cd < 100) :
  Calls Tryz.prog 199 #[(pt a 0)] w (Ret fun v w' => v = (S (fltD fl ln cd)) ∧ Below w.heap.size w w') := by
 refine wI 41 func199 rfl ?_
 have l := Below.refl w.heap.size w
 have i6 := dg2_len ln
 have i5 := errD_len cd
 refine wR (zG (nW (wR (zD (zr (.bool false) (nQ (zF (zK (zB (zY (wR (zD (zr (pt a 0) (uF 0 m rfl (vD fl ([] : List UInt8) rfl zk zk ?_ ?_)))))))))))))))
 ·intro h1
  refine nQ (zT (zY (W_invL 13 14 1 [10, 11, 12, 13, 14, 15, 16, 17, 18, 19, 20, 21, 22] [(fun v _ => v = (pt a 0)), (fun v _ => v = (pt a 0)), (fun v _ => v = (pt a 1)), (fun v _ => v = (I6 ln)), (fun v _ => v = (S (dg2 ln))), (fun v _ => v = (S (([108, 105, 110, 101, 32] : List UInt8) ++ (dg2 ln)))), (fun v _ => v = (S ((([108, 105, 110, 101, 32] : List UInt8) ++ (dg2 ln)) ++ ([58, 32] : List UInt8)))), (fun v _ => v = (pt a 0)), (fun v _ => v = (pt a 0)), (fun v _ => v = (pt a 2)), (fun v _ => v = (I6 cd)), (fun v _ => v = (S (errD cd))), (fun v _ => v = (S (((([108, 105, 110, 101, 32] : List UInt8) ++ (dg2 ln)) ++ ([58, 32] : List UInt8)) ++ (errD cd))))] zk zk zk zk zk zk zk zk ⟨(fun v A B h l => h), (fun v A B h l => h), (fun v A B h l => h), (fun v A B h l => h), (fun v A B h l => h), (fun v A B h l => h), (fun v A B h l => h), (fun v A B h l => h), (fun v A B h l => h), (fun v A B h l => h), (fun v A B h l => h), (fun v A B h l => h), (fun v A B h l => h), trivial⟩ ?_ ?_)))
  ·intro w3 j
   refine ⟨?_, ?_, ?_, ?_, ?_, ?_, ?_, ?_, ?_, ?_, ?_, ?_, ?_, trivial⟩
   ·skip
    intro s4 w5 gi i3 g2 i7 Z10 fe
    have hw := j.trans (gi.mono j.size)
    have n : s4.f 0 = (pt a 0) := (g2 0 zk).trans zk
    have d : (s4.put (some 0) (pt a 0)) = s4 := by rw [xH n]
    rw [← d]
    have b := Below.refl w5.heap.size w5
    refine zD (zR ?_)
    exact ⟨rfl, fe _ _ b (wB.trans (congrArg Fm.ds d)) (fun t ht => (xD ht).trans (congrArg (fun q => q.f t) d)) (show Fm.f _ _ = _ from by kernel_rfl)⟩
   ·skip
    intro em fc fs ia ib et Z19 fj
    have io := j.trans (fs.mono j.size)
    have u : em.f 10 = (pt a 0) := et 0 zk
    have d : (em.put (some 10) (pt a 0)) = em := by rw [xH u]
    rw [← d]
    have b := Below.refl fc.heap.size fc
    refine zr (pt a 0) (zR ?_)
    exact ⟨rfl, fj _ _ b (wB.trans (congrArg Fm.ds d)) (fun t ht => (xD ht).trans (congrArg (fun q => q.f t) d)) (show Fm.f _ _ = _ from by kernel_rfl)⟩
   ·skip
    intro ea e3 fu il hz ey Z28 e8
    have h9 := j.trans (fu.mono j.size)
    have a0 : ea.f 11 = (pt a 0) := ey 1 zk
    have d : (ea.put (some 11) (pt a 0)) = ea := by rw [xH a0]
    rw [← d]
    have b := Below.refl e3.heap.size e3
    refine zr (pt a 1) (zR ?_)
    exact ⟨rfl, e8 _ _ b (wB.trans (congrArg Fm.ds d)) (fun t ht => (xD ht).trans (congrArg (fun q => q.f t) d)) (show Fm.f _ _ = _ from by kernel_rfl)⟩
   ·skip
    intro cq fm fx i1 ig fq Z37 fk
    have eu := j.trans (fx.mono j.size)
    have z : cq.f 12 = (pt a 1) := fq 2 zk
    have d : (cq.put (some 12) (pt a 1)) = cq := by rw [xH z]
    rw [← d]
    have b := Below.refl fm.heap.size fm
    have m := zA m eu
    refine zO 1 m rfl (zR ?_)
    exact ⟨rfl, fk _ _ b (wB.trans (congrArg Fm.ds d)) (fun t ht => (xD ht).trans (congrArg (fun q => q.f t) d)) (show Fm.f _ _ = _ from by kernel_rfl)⟩
   ·skip
    intro ee e0 e6 id hx ff Z46 fr
    have ie := j.trans (e6.mono j.size)
    have au : ee.f 13 = (I6 ln) := ff 3 zk
    have d : (ee.put (some 13) (I6 ln)) = ee := by rw [xH au]
    rw [← d]
    have b := Below.refl e0.heap.size e0
    refine zc (c_itoa2 ln _ (by first | omega | (simp; omega))) ?_
    rintro _ i4 ⟨rfl, ft⟩
    replace b := b.trans (ft.mono b.size)
    have := dg2_len ln
    refine zR ?_
    exact ⟨rfl, fr _ _ b (wB.trans (congrArg Fm.ds d)) (fun t ht => (xD ht).trans (congrArg (fun q => q.f t) d)) (show Fm.f _ _ = _ from by kernel_rfl)⟩
   ·skip
    intro d4 e5 ex h2 ik fh Z58 fv
    have im := j.trans (ex.mono j.size)
    have ay : d4.f 14 = (S (dg2 ln)) := fh 4 zk
    have d : (d4.put (some 14) (S (dg2 ln))) = d4 := by rw [xH ay]
    rw [← d]
    have b := Below.refl e5.heap.size e5
    refine wE ([108, 105, 110, 101, 32] : List UInt8) (dg2 ln) (by (simp only [List.length_append, List.length_cons, List.length_nil]; omega)) zk zk (zR ?_)
    exact ⟨rfl, fv _ _ b (wB.trans (congrArg Fm.ds d)) (fun t ht => (xD ht).trans (congrArg (fun q => q.f t) d)) (show Fm.f _ _ = _ from by kernel_rfl)⟩
   ·skip
    intro cv fw e9 h7 i2 fn Z67 es
    have iq := j.trans (e9.mono j.size)
    have ad : cv.f 15 = (S (([108, 105, 110, 101, 32] : List UInt8) ++ (dg2 ln))) := fn 5 zk
    have d : (cv.put (some 15) (S (([108, 105, 110, 101, 32] : List UInt8) ++ (dg2 ln)))) = cv := by rw [xH ad]
    rw [← d]
    have b := Below.refl fw.heap.size fw
    refine wE (([108, 105, 110, 101, 32] : List UInt8) ++ (dg2 ln)) ([58, 32] : List UInt8) (by (simp only [List.length_append, List.length_cons, List.length_nil]; omega)) zk zk (zR ?_)
    exact ⟨rfl, es _ _ b (wB.trans (congrArg Fm.ds d)) (fun t ht => (xD ht).trans (congrArg (fun q => q.f t) d)) (show Fm.f _ _ = _ from by kernel_rfl)⟩
   ·skip
    intro d7 e1 fg h6 fd ih Z76 fy
    have iu := j.trans (fg.mono j.size)
    have n : d7.f 0 = (pt a 0) := (fd 0 zk).trans zk
    have d : (d7.put (some 0) (pt a 0)) = d7 := by rw [xH n]
    rw [← d]
    have b := Below.refl e1.heap.size e1
    refine zD (zR ?_)
    exact ⟨rfl, fy _ _ b (wB.trans (congrArg Fm.ds d)) (fun t ht => (xD ht).trans (congrArg (fun q => q.f t) d)) (show Fm.f _ _ = _ from by kernel_rfl)⟩
   ·skip
    intro dp fa ev ii iv fb Z85 fi
    have ij := j.trans (ev.mono j.size)
    have af : dp.f 17 = (pt a 0) := fb 7 zk
    have d : (dp.put (some 17) (pt a 0)) = dp := by rw [xH af]
    rw [← d]
    have b := Below.refl fa.heap.size fa
    refine zr (pt a 0) (zR ?_)
    exact ⟨rfl, fi _ _ b (wB.trans (congrArg Fm.ds d)) (fun t ht => (xD ht).trans (congrArg (fun q => q.f t) d)) (show Fm.f _ _ = _ from by kernel_rfl)⟩
   ·skip
    intro d3 e7 e4 ix ir fp Z94 ew
    have ic := j.trans (e4.mono j.size)
    have ac : d3.f 18 = (pt a 0) := fp 8 zk
    have d : (d3.put (some 18) (pt a 0)) = d3 := by rw [xH ac]
    rw [← d]
    have b := Below.refl e7.heap.size e7
    refine zr (pt a 2) (zR ?_)
    exact ⟨rfl, ew _ _ b (wB.trans (congrArg Fm.ds d)) (fun t ht => (xD ht).trans (congrArg (fun q => q.f t) d)) (show Fm.f _ _ = _ from by kernel_rfl)⟩
   ·skip
    intro dk ez fo gl hg d5 Z103 er
    have ci := j.trans (fo.mono j.size)
    have ai : dk.f 19 = (pt a 2) := d5 9 zk
    have d : (dk.put (some 19) (pt a 2)) = dk := by rw [xH ai]
    rw [← d]
    have b := Below.refl ez.heap.size ez
    have m := zA m ci
    refine zO 2 m rfl (zR ?_)
    exact ⟨rfl, er _ _ b (wB.trans (congrArg Fm.ds d)) (fun t ht => (xD ht).trans (congrArg (fun q => q.f t) d)) (show Fm.f _ _ = _ from by kernel_rfl)⟩
   ·skip
    intro a3 br ch f8 f6 cg Z112 ce
    have f4 := j.trans (ch.mono j.size)
    have al : a3.f 20 = (I6 cd) := cg 10 zk
    have d : (a3.put (some 20) (I6 cd)) = a3 := by rw [xH al]
    rw [← d]
    have b := Below.refl br.heap.size br
    refine zc (c_Errno_Error cd _ (by first | omega | (simp; omega))) ?_
    rintro _ iz ⟨rfl, cp⟩
    replace b := b.trans (cp.mono b.size)
    have := errD_len cd
    refine zR ?_
    exact ⟨rfl, ce _ _ b (wB.trans (congrArg Fm.ds d)) (fun t ht => (xD ht).trans (congrArg (fun q => q.f t) d)) (show Fm.f _ _ = _ from by kernel_rfl)⟩
   skip
   intro aj bo c6 hu go a1 Z124 dy
   have gw := j.trans (c6.mono j.size)
   have ak : aj.f 16 = (S ((([108, 105, 110, 101, 32] : List UInt8) ++ (dg2 ln)) ++ ([58, 32] : List UInt8))) := a1 6 zk
   have aq : aj.f 21 = (S (errD cd)) := a1 11 zk
   have d : ((aj.put (some 16) (S ((([108, 105, 110, 101, 32] : List UInt8) ++ (dg2 ln)) ++ ([58, 32] : List UInt8)))).put (some 21) (S (errD cd))) = aj := by rw [xH ak, xH aq]
   rw [← d]
   have b := Below.refl bo.heap.size bo
   refine wE ((([108, 105, 110, 101, 32] : List UInt8) ++ (dg2 ln)) ++ ([58, 32] : List UInt8)) (errD cd) (by (simp only [List.length_append, List.length_cons, List.length_nil]; omega)) zk zk (zR ?_)
   exact ⟨rfl, dy _ _ b (wB.trans (congrArg Fm.ds d)) (fun t ht => (xD ht).trans (congrArg (fun q => q.f t) d)) (show Fm.f _ _ = _ from by kernel_rfl)⟩
  skip
  intro h0 k hy a7 el c1 dw i
  have dj := a7.trans (el.mono a7.size)
  have u : k.f 10 = (pt a 0) := i 0 zo
  have a0 : k.f 11 = (pt a 0) := i 1 zo
  have z : k.f 12 = (pt a 1) := i 2 zo
  have au : k.f 13 = (I6 ln) := i 3 zo
  have ay : k.f 14 = (S (dg2 ln)) := i 4 zo
  have ad : k.f 15 = (S (([108, 105, 110, 101, 32] : List UInt8) ++ (dg2 ln))) := i 5 zo
  have ak : k.f 16 = (S ((([108, 105, 110, 101, 32] : List UInt8) ++ (dg2 ln)) ++ ([58, 32] : List UInt8))) := i 6 zo
  have af : k.f 17 = (pt a 0) := i 7 zo
  have ac : k.f 18 = (pt a 0) := i 8 zo
  have ai : k.f 19 = (pt a 2) := i 9 zo
  have al : k.f 20 = (I6 cd) := i 10 zo
  have aq : k.f 21 = (S (errD cd)) := i 11 zo
  have bz : k.f 22 = (S (((([108, 105, 110, 101, 32] : List UInt8) ++ (dg2 ln)) ++ ([58, 32] : List UInt8)) ++ (errD cd))) := i 12 zo
  have b6 := frm_eq [10, 11, 12, 13, 14, 15, 16, 17, 18, 19, 20, 21, 22] [(pt a 0), (pt a 0), (pt a 1), (I6 ln), (S (dg2 ln)), (S (([108, 105, 110, 101, 32] : List UInt8) ++ (dg2 ln))), (S ((([108, 105, 110, 101, 32] : List UInt8) ++ (dg2 ln)) ++ ([58, 32] : List UInt8))), (pt a 0), (pt a 0), (pt a 2), (I6 cd), (S (errD cd)), (S (((([108, 105, 110, 101, 32] : List UInt8) ++ (dg2 ln)) ++ ([58, 32] : List UInt8)) ++ (errD cd)))] rfl c1 dw ⟨u, a0, z, au, ay, ad, ak, af, ac, ai, al, aq, bz, trivial⟩
  rw [b6]
  clear b6 u a0 z au ay ad ak af ac ai al aq bz
  refine ip 13 rfl (S (((([108, 105, 110, 101, 32] : List UInt8) ++ (dg2 ln)) ++ ([58, 32] : List UInt8)) ++ (errD cd))) (I_done zk ?_)
  have l := l.tr dj
  exact zB (zS (zH (yC [(S (((([108, 105, 110, 101, 32] : List UInt8) ++ (dg2 ln)) ++ ([58, 32] : List UInt8)) ++ (errD cd)))] ⟨congrArg S (by (unfold fltD; rw [if_pos za]; done)), l⟩)))
 intro h8
 refine nQ (zF (zK (zB (zY (W_invL 18 19 1 [23, 24, 25, 26, 27, 28, 29, 30, 31, 32, 33, 34, 35, 36, 37, 38, 39, 40] [(fun v _ => v = (pt a 0)), (fun v _ => v = (pt a 0)), (fun v _ => v = (pt a 0)), (fun v _ => v = (S fl)), (fun v _ => v = (S (fl ++ ([58] : List UInt8)))), (fun v _ => v = (pt a 0)), (fun v _ => v = (pt a 0)), (fun v _ => v = (pt a 1)), (fun v _ => v = (I6 ln)), (fun v _ => v = (S (dg2 ln))), (fun v _ => v = (S ((fl ++ ([58] : List UInt8)) ++ (dg2 ln)))), (fun v _ => v = (S (((fl ++ ([58] : List UInt8)) ++ (dg2 ln)) ++ ([58, 32] : List UInt8)))), (fun v _ => v = (pt a 0)), (fun v _ => v = (pt a 0)), (fun v _ => v = (pt a 2)), (fun v _ => v = (I6 cd)), (fun v _ => v = (S (errD cd))), (fun v _ => v = (S ((((fl ++ ([58] : List UInt8)) ++ (dg2 ln)) ++ ([58, 32] : List UInt8)) ++ (errD cd))))] zk zk zk zk zk zk zk zk ⟨(fun v A B h l => h), (fun v A B h l => h), (fun v A B h l => h), (fun v A B h l => h), (fun v A B h l => h), (fun v A B h l => h), (fun v A B h l => h), (fun v A B h l => h), (fun v A B h l => h), (fun v A B h l => h), (fun v A B h l => h), (fun v A B h l => h), (fun v A B h l => h), (fun v A B h l => h), (fun v A B h l => h), (fun v A B h l => h), (fun v A B h l => h), (fun v A B h l => h), trivial⟩ ?_ ?_)))))
 ·intro iy c
  refine ⟨?_, ?_, ?_, ?_, ?_, ?_, ?_, ?_, ?_, ?_, ?_, ?_, ?_, ?_, ?_, ?_, ?_, ?_, trivial⟩
  ·skip
   intro a5 bp cz ho c7 gp Z146 cw
   have gx := c.trans (cz.mono c.size)
   have n : a5.f 0 = (pt a 0) := (c7 0 zk).trans zk
   have d : (a5.put (some 0) (pt a 0)) = a5 := by rw [xH n]
   rw [← d]
   have b := Below.refl bp.heap.size bp
   refine zD (zR ?_)
   exact ⟨rfl, cw _ _ b (wB.trans (congrArg Fm.ds d)) (fun t ht => (xD ht).trans (congrArg (fun q => q.f t) d)) (show Fm.f _ _ = _ from by kernel_rfl)⟩
  ·skip
   intro a2 bs df g7 f3 cr Z155 c5
   have g3 := c.trans (df.mono c.size)
   have ap : a2.f 23 = (pt a 0) := cr 0 zk
   have d : (a2.put (some 23) (pt a 0)) = a2 := by rw [xH ap]
   rw [← d]
   have b := Below.refl bs.heap.size bs
   refine zr (pt a 0) (zR ?_)
   exact ⟨rfl, c5 _ _ b (wB.trans (congrArg Fm.ds d)) (fun t ht => (xD ht).trans (congrArg (fun q => q.f t) d)) (show Fm.f _ _ = _ from by kernel_rfl)⟩
  ·skip
   intro bi b9 ec gc ga cs Z164 d0
   have hs := c.trans (ec.mono c.size)
   have p : bi.f 24 = (pt a 0) := cs 1 zk
   have d : (bi.put (some 24) (pt a 0)) = bi := by rw [xH p]
   rw [← d]
   have b := Below.refl b9.heap.size b9
   refine zr (pt a 0) (zR ?_)
   exact ⟨rfl, d0 _ _ b (wB.trans (congrArg Fm.ds d)) (fun t ht => (xD ht).trans (congrArg (fun q => q.f t) d)) (show Fm.f _ _ = _ from by kernel_rfl)⟩
  ·skip
   intro a4 b5 dh gd f9 dn Z173 co
   have cf := c.trans (dh.mono c.size)
   have ar : a4.f 25 = (pt a 0) := dn 2 zk
   have d : (a4.put (some 25) (pt a 0)) = a4 := by rw [xH ar]
   rw [← d]
   have b := Below.refl b5.heap.size b5
   have m := zA m cf
   refine zO 0 m rfl (zR ?_)
   exact ⟨rfl, co _ _ b (wB.trans (congrArg Fm.ds d)) (fun t ht => (xD ht).trans (congrArg (fun q => q.f t) d)) (show Fm.f _ _ = _ from by kernel_rfl)⟩
  ·skip
   intro be b4 d6 gv gf dc Z182 c2
   have gy := c.trans (d6.mono c.size)
   have av : be.f 26 = (S fl) := dc 3 zk
   have d : (be.put (some 26) (S fl)) = be := by rw [xH av]
   rw [← d]
   have b := Below.refl b4.heap.size b4
   refine wE fl ([58] : List UInt8) (by (simp only [List.length_append, List.length_cons, List.length_nil]; omega)) zk zk (zR ?_)
   exact ⟨rfl, c2 _ _ b (wB.trans (congrArg Fm.ds d)) (fun t ht => (xD ht).trans (congrArg (fun q => q.f t) d)) (show Fm.f _ _ = _ from by kernel_rfl)⟩
  ·skip
   intro bc b2 dv gj du gb Z191 cc
   have hm := c.trans (dv.mono c.size)
   have n : bc.f 0 = (pt a 0) := (du 0 zk).trans zk
   have d : (bc.put (some 0) (pt a 0)) = bc := by rw [xH n]
   rw [← d]
   have b := Below.refl b2.heap.size b2
   refine zD (zR ?_)
   exact ⟨rfl, cc _ _ b (wB.trans (congrArg Fm.ds d)) (fun t ht => (xD ht).trans (congrArg (fun q => q.f t) d)) (show Fm.f _ _ = _ from by kernel_rfl)⟩
  ·skip
   intro bg b0 di f1 g6 dz Z200 ed
   have hk := c.trans (di.mono c.size)
   have ag : bg.f 28 = (pt a 0) := dz 5 zk
   have d : (bg.put (some 28) (pt a 0)) = bg := by rw [xH ag]
   rw [← d]
   have b := Below.refl b0.heap.size b0
   refine zr (pt a 0) (zR ?_)
   exact ⟨rfl, ed _ _ b (wB.trans (congrArg Fm.ds d)) (fun t ht => (xD ht).trans (congrArg (fun q => q.f t) d)) (show Fm.f _ _ = _ from by kernel_rfl)⟩
  ·skip
   intro bl bt cn hi gu da Z209 c4
   have f5 := c.trans (cn.mono c.size)
   have ah : bl.f 29 = (pt a 0) := da 6 zk
   have d : (bl.put (some 29) (pt a 0)) = bl := by rw [xH ah]
   rw [← d]
   have b := Below.refl bt.heap.size bt
   refine zr (pt a 1) (zR ?_)
   exact ⟨rfl, c4 _ _ b (wB.trans (congrArg Fm.ds d)) (fun t ht => (xD ht).trans (congrArg (fun q => q.f t) d)) (show Fm.f _ _ = _ from by kernel_rfl)⟩
  ·skip
   intro bb bu c8 hr gn db Z218 c0
   have dx := c.trans (c8.mono c.size)
   have ao : bb.f 30 = (pt a 1) := db 7 zk
   have d : (bb.put (some 30) (pt a 1)) = bb := by rw [xH ao]
   rw [← d]
   have b := Below.refl bu.heap.size bu
   have m := zA m dx
   refine zO 1 m rfl (zR ?_)
   exact ⟨rfl, c0 _ _ b (wB.trans (congrArg Fm.ds d)) (fun t ht => (xD ht).trans (congrArg (fun q => q.f t) d)) (show Fm.f _ _ = _ from by kernel_rfl)⟩
  ·skip
   intro bj bv dr gz gq d1 Z227 cm
   have gr := c.trans (dr.mono c.size)
   have o : bj.f 31 = (I6 ln) := d1 8 zk
   have d : (bj.put (some 31) (I6 ln)) = bj := by rw [xH o]
   rw [← d]
   have b := Below.refl bv.heap.size bv
   refine zc (c_itoa2 ln _ (by first | omega | (simp; omega))) ?_
   rintro _ h5 ⟨rfl, ct⟩
   replace b := b.trans (ct.mono b.size)
   have := dg2_len ln
   refine zR ?_
   exact ⟨rfl, cm _ _ b (wB.trans (congrArg Fm.ds d)) (fun t ht => (xD ht).trans (congrArg (fun q => q.f t) d)) (show Fm.f _ _ = _ from by kernel_rfl)⟩
  ·skip
   intro aa bq ek g5 hl bf Z239 ep
   have hc := c.trans (ek.mono c.size)
   have ab : aa.f 27 = (S (fl ++ ([58] : List UInt8))) := bf 4 zk
   have az : aa.f 32 = (S (dg2 ln)) := bf 9 zk
   have d : ((aa.put (some 27) (S (fl ++ ([58] : List UInt8)))).put (some 32) (S (dg2 ln))) = aa := by rw [xH ab, xH az]
   rw [← d]
   have b := Below.refl bq.heap.size bq
   refine wE (fl ++ ([58] : List UInt8)) (dg2 ln) (by (simp only [List.length_append, List.length_cons, List.length_nil]; omega)) zk zk (zR ?_)
   exact ⟨rfl, ep _ _ b (wB.trans (congrArg Fm.ds d)) (fun t ht => (xD ht).trans (congrArg (fun q => q.f t) d)) (show Fm.f _ _ = _ from by kernel_rfl)⟩
  ·skip
   intro bd bn cl he g0 en Z248 c3
   have gs := c.trans (cl.mono c.size)
   have ae : bd.f 33 = (S ((fl ++ ([58] : List UInt8)) ++ (dg2 ln))) := en 10 zk
   have d : (bd.put (some 33) (S ((fl ++ ([58] : List UInt8)) ++ (dg2 ln)))) = bd := by rw [xH ae]
   rw [← d]
   have b := Below.refl bn.heap.size bn
   refine wE ((fl ++ ([58] : List UInt8)) ++ (dg2 ln)) ([58, 32] : List UInt8) (by (simp only [List.length_append, List.length_cons, List.length_nil]; omega)) zk zk (zR ?_)
   exact ⟨rfl, c3 _ _ b (wB.trans (congrArg Fm.ds d)) (fun t ht => (xD ht).trans (congrArg (fun q => q.f t) d)) (show Fm.f _ _ = _ from by kernel_rfl)⟩
  ·skip
   intro bh cb d8 gk dq hp Z257 d2
   have g1 := c.trans (d8.mono c.size)
   have n : bh.f 0 = (pt a 0) := (dq 0 zk).trans zk
   have d : (bh.put (some 0) (pt a 0)) = bh := by rw [xH n]
   rw [← d]
   have b := Below.refl cb.heap.size cb
   refine zD (zR ?_)
   exact ⟨rfl, d2 _ _ b (wB.trans (congrArg Fm.ds d)) (fun t ht => (xD ht).trans (congrArg (fun q => q.f t) d)) (show Fm.f _ _ = _ from by kernel_rfl)⟩
  ·skip
   intro ba ca cy ha f0 eo Z266 eb
   have gg := c.trans (cy.mono c.size)
   have y : ba.f 35 = (pt a 0) := eo 12 zk
   have d : (ba.put (some 35) (pt a 0)) = ba := by rw [xH y]
   rw [← d]
   have b := Below.refl ca.heap.size ca
   refine zr (pt a 0) (zR ?_)
   exact ⟨rfl, eb _ _ b (wB.trans (congrArg Fm.ds d)) (fun t ht => (xD ht).trans (congrArg (fun q => q.f t) d)) (show Fm.f _ _ = _ from by kernel_rfl)⟩
  ·skip
   intro a9 bw cu f7 g4 ef Z275 cx
   have fz := c.trans (cu.mono c.size)
   have an : a9.f 36 = (pt a 0) := ef 13 zk
   have d : (a9.put (some 36) (pt a 0)) = a9 := by rw [xH an]
   rw [← d]
   have b := Below.refl bw.heap.size bw
   refine zr (pt a 2) (zR ?_)
   exact ⟨rfl, cx _ _ b (wB.trans (congrArg Fm.ds d)) (fun t ht => (xD ht).trans (congrArg (fun q => q.f t) d)) (show Fm.f _ _ = _ from by kernel_rfl)⟩
  ·skip
   intro bk b3 dt gm gh ei Z284 dd
   have de := c.trans (dt.mono c.size)
   have ax : bk.f 37 = (pt a 2) := ei 14 zk
   have d : (bk.put (some 37) (pt a 2)) = bk := by rw [xH ax]
   rw [← d]
   have b := Below.refl b3.heap.size b3
   have m := zA m de
   refine zO 2 m rfl (zR ?_)
   exact ⟨rfl, dd _ _ b (wB.trans (congrArg Fm.ds d)) (fun t ht => (xD ht).trans (congrArg (fun q => q.f t) d)) (show Fm.f _ _ = _ from by kernel_rfl)⟩
  ·skip
   intro bm bx dg hh hv c9 Z293 dl
   have hj := c.trans (dg.mono c.size)
   have r : bm.f 38 = (I6 cd) := c9 15 zk
   have d : (bm.put (some 38) (I6 cd)) = bm := by rw [xH r]
   rw [← d]
   have b := Below.refl bx.heap.size bx
   refine zc (c_Errno_Error cd _ (by first | omega | (simp; omega))) ?_
   rintro _ i0 ⟨rfl, dm⟩
   replace b := b.trans (dm.mono b.size)
   have := errD_len cd
   refine zR ?_
   exact ⟨rfl, dl _ _ b (wB.trans (congrArg Fm.ds d)) (fun t ht => (xD ht).trans (congrArg (fun q => q.f t) d)) (show Fm.f _ _ = _ from by kernel_rfl)⟩
  skip
  intro am b7 ej g8 hn a8 Z305 cj
  have g9 := c.trans (ej.mono c.size)
  have s : am.f 34 = (S (((fl ++ ([58] : List UInt8)) ++ (dg2 ln)) ++ ([58, 32] : List UInt8))) := a8 11 zk
  have aw : am.f 39 = (S (errD cd)) := a8 16 zk
  have d : ((am.put (some 34) (S (((fl ++ ([58] : List UInt8)) ++ (dg2 ln)) ++ ([58, 32] : List UInt8)))).put (some 39) (S (errD cd))) = am := by rw [xH s, xH aw]
  rw [← d]
  have b := Below.refl b7.heap.size b7
  refine wE (((fl ++ ([58] : List UInt8)) ++ (dg2 ln)) ++ ([58, 32] : List UInt8)) (errD cd) (by (simp only [List.length_append, List.length_cons, List.length_nil]; omega)) zk zk (zR ?_)
  exact ⟨rfl, cj _ _ b (wB.trans (congrArg Fm.ds d)) (fun t ht => (xD ht).trans (congrArg (fun q => q.f t) d)) (show Fm.f _ _ = _ from by kernel_rfl)⟩
 skip
 intro h3 g iw a6 eh eg ck e
 have d9 := a6.trans (eh.mono a6.size)
 have ap : g.f 23 = (pt a 0) := e 0 zo
 have p : g.f 24 = (pt a 0) := e 1 zo
 have ar : g.f 25 = (pt a 0) := e 2 zo
 have av : g.f 26 = (S fl) := e 3 zo
 have ab : g.f 27 = (S (fl ++ ([58] : List UInt8))) := e 4 zo
 have ag : g.f 28 = (pt a 0) := e 5 zo
 have ah : g.f 29 = (pt a 0) := e 6 zo
 have ao : g.f 30 = (pt a 1) := e 7 zo
 have o : g.f 31 = (I6 ln) := e 8 zo
 have az : g.f 32 = (S (dg2 ln)) := e 9 zo
 have ae : g.f 33 = (S ((fl ++ ([58] : List UInt8)) ++ (dg2 ln))) := e 10 zo
 have s : g.f 34 = (S (((fl ++ ([58] : List UInt8)) ++ (dg2 ln)) ++ ([58, 32] : List UInt8))) := e 11 zo
 have y : g.f 35 = (pt a 0) := e 12 zo
 have an : g.f 36 = (pt a 0) := e 13 zo
 have ax : g.f 37 = (pt a 2) := e 14 zo
 have r : g.f 38 = (I6 cd) := e 15 zo
 have aw : g.f 39 = (S (errD cd)) := e 16 zo
 have b8 : g.f 40 = (S ((((fl ++ ([58] : List UInt8)) ++ (dg2 ln)) ++ ([58, 32] : List UInt8)) ++ (errD cd))) := e 17 zo
 have b1 := frm_eq [23, 24, 25, 26, 27, 28, 29, 30, 31, 32, 33, 34, 35, 36, 37, 38, 39, 40] [(pt a 0), (pt a 0), (pt a 0), (S fl), (S (fl ++ ([58] : List UInt8))), (pt a 0), (pt a 0), (pt a 1), (I6 ln), (S (dg2 ln)), (S ((fl ++ ([58] : List UInt8)) ++ (dg2 ln))), (S (((fl ++ ([58] : List UInt8)) ++ (dg2 ln)) ++ ([58, 32] : List UInt8))), (pt a 0), (pt a 0), (pt a 2), (I6 cd), (S (errD cd)), (S ((((fl ++ ([58] : List UInt8)) ++ (dg2 ln)) ++ ([58, 32] : List UInt8)) ++ (errD cd)))] rfl eg ck ⟨ap, p, ar, av, ab, ag, ah, ao, o, az, ae, s, y, an, ax, r, aw, b8, trivial⟩
 rw [b1]
 clear b1 ap p ar av ab ag ah ao o az ae s y an ax r aw b8
 refine ip 18 rfl (S ((((fl ++ ([58] : List UInt8)) ++ (dg2 ln)) ++ ([58, 32] : List UInt8)) ++ (errD cd))) (I_done zk ?_)
 have l := l.tr d9
 exact zB (zS (yC [(S ((((fl ++ ([58] : List UInt8)) ++ (dg2 ln)) ++ ([58, 32] : List UInt8)) ++ (errD cd)))] ⟨congrArg S (by (unfold fltD; rw [if_neg za]; done)), l⟩))
theorem c_read_ok (no : Int) (k : Int) (m : List UInt8) (z : Value) (f : List (List UInt8)) (t : List UInt8) (w : World) (g : Rd w encStr z f) (hf : ∀ x ∈ f, x.length ≤ 1073741824) (hn : f.length ≤ 1073741824) (hok : (readB k f).2.2 = 0) :
  Calls Tryz.prog 40 #[(Value.agg #[(I6 no), (U8 k), (S m), z, (S t)])] w (Ret fun v w' => v = (.tuple #[(Value.agg #[(I3 ((readB k f).1.1)), (I3 ((readB k f).1.2.1)), (U8 ((readB k f).1.2.2))]), (.bool ((readB k f).2.1)), .nilIface]) ∧ Below w.heap.size w w') := by
 refine wI 67 func40 rfl ?_
 have n := Below.refl w.heap.size w
 refine wR (zN [(I6 no), (U8 k), (S m), z, (S t)] 90 ?_)
 intro b1 w2 o
 have ak := o.ge n.size
 have b := o.here
 refine zN [(I3 0), (I3 0), (U8 0)] 26 ?_
 intro b4 w5 j
 have n := n.tr o.below
 have u := j.ge n.size
 have a := j.here
 have b := zA b j.below
 refine zG (zG (nW (wR (uF 1 b rfl (nQ (zX (wR (qA .u8 k 2 ?_ ?_))))))))
 ·intro h7
  refine zG (nQ (zT (wR (zr (Value.agg #[(I3 0), (I3 0), (U8 0)]) (zr (.iface 28 (I6 80)) (wG [(I3 0), (I3 0), (U8 0)] a ?_))))))
  intro w8 aj
  have a := aj.here
  refine zG (zG (nQ (zS (zP (zH (yV [.cell 2 26, .tmp 3, .tmp 4] [(Value.agg #[(I3 0), (I3 0), (U8 0)]), (.bool false), (.iface 28 (I6 80))] rfl rfl ⟨⟨⟨b4, 0, none⟩, zk, yP [(I3 0), (I3 0), (U8 0)] zk zk (yI a)⟩, zk, zk, trivial⟩ ?_))))))
  exfalso; first | (rw [uI za] at hok; first | exact absurd hok za | exact absurd hok (by decide)) | (rw [rd_few za za] at hok; first | exact absurd hok za | exact absurd hok (by decide)) | (rw [rd_none za za] at hok; first | exact absurd hok za | exact absurd hok (by decide)) | (rw [rd_a za za za za] at hok; first | exact absurd hok za | exact absurd hok (by decide)) | (rw [rd_b za za za za za za] at hok; first | exact absurd hok za | exact absurd hok (by decide)) | (rw [rd_s za za za za za za za za] at hok; first | exact absurd hok za | exact absurd hok (by decide)) | (rw [rd_ok za za za za za za za za] at hok; first | exact absurd hok za | exact absurd hok (by decide))
 intro a3
 refine zG (nQ (zF (wR (qA .u8 k 1 ?_ ?_))))
 ·intro a0
  have g := (g.below o.below).below j.below
  refine zG (nQ (zT (wR (uF 3 b rfl (zln underlying88 (g).len (nNe ((f).length) 3 ?_ ?_))))))
  ·intro a1
   refine nQ (zT (wR (zr (Value.agg #[(I3 0), (I3 0), (U8 0)]) (zr (.iface 28 (I6 80)) (wG [(I3 0), (I3 0), (U8 0)] a ?_)))))
   intro aq af
   have a := af.here
   refine zG (zG (nQ (zS (zP (zH (yV [.cell 2 26, .tmp 3, .tmp 4] [(Value.agg #[(I3 0), (I3 0), (U8 0)]), (.bool false), (.iface 28 (I6 80))] rfl rfl ⟨⟨⟨b4, 0, none⟩, zk, yP [(I3 0), (I3 0), (U8 0)] zk zk (yI a)⟩, zk, zk, trivial⟩ ?_))))))
   exfalso; first | (rw [uI za] at hok; first | exact absurd hok za | exact absurd hok (by decide)) | (rw [rd_few za za] at hok; first | exact absurd hok za | exact absurd hok (by decide)) | (rw [rd_none za za] at hok; first | exact absurd hok za | exact absurd hok (by decide)) | (rw [rd_a za za za za] at hok; first | exact absurd hok za | exact absurd hok (by decide)) | (rw [rd_b za za za za za za] at hok; first | exact absurd hok za | exact absurd hok (by decide)) | (rw [rd_s za za za za za za za za] at hok; first | exact absurd hok za | exact absurd hok (by decide)) | (rw [rd_ok za za za za za za za za] at hok; first | exact absurd hok za | exact absurd hok (by decide))
  intro a5
  refine nQ (zF (zK (zI (zB (wR (uF 3 b rfl ?_))))))
  have hz := zV f 0 zo; obtain ⟨e, y⟩ := hz
  have ad := hf _ (List.mem_of_getElem? y)
  refine zE1 g el88 0 y rfl fun _ => (zc (c_points_Hex e _ zo) ?_)
  rintro _ az ⟨rfl, c⟩
  refine zD (zr (I3 ((hexF e).1)) (zr (I6 ((hexF e).2)) (zG (zG (nW (wR (zD (zNe .i64 ((hexF e).2) 0 ?_ ?_))))))))
  ·intro ax
   have a := zA a c
   refine nQ (zT (wR (zr (Value.agg #[(I3 0), (I3 0), (U8 0)]) (zD (zr (.iface 28 (I6 ((hexF e).2))) (wG [(I3 0), (I3 0), (U8 0)] a ?_))))))
   intro ay ai
   have a := ai.here
   refine zG (zG (nQ (zS (zH (yV [.cell 2 26, .tmp 3, .tmp 4] [(Value.agg #[(I3 0), (I3 0), (U8 0)]), (.bool false), (.iface 28 (I6 ((hexF e).2)))] rfl rfl ⟨⟨⟨b4, 0, none⟩, zk, yP [(I3 0), (I3 0), (U8 0)] zk zk (yI a)⟩, zk, zk, trivial⟩ ?_)))))
   exfalso; first | (rw [uI za] at hok; first | exact absurd hok za | exact absurd hok (by decide)) | (rw [rd_few za za] at hok; first | exact absurd hok za | exact absurd hok (by decide)) | (rw [rd_none za za] at hok; first | exact absurd hok za | exact absurd hok (by decide)) | (rw [rd_a za za za za] at hok; first | exact absurd hok za | exact absurd hok (by decide)) | (rw [rd_b za za za za za za] at hok; first | exact absurd hok za | exact absurd hok (by decide)) | (rw [rd_s za za za za za za za za] at hok; first | exact absurd hok za | exact absurd hok (by decide)) | (rw [rd_ok za za za za za za za za] at hok; first | exact absurd hok za | exact absurd hok (by decide))
  intro aw
  have b := zA b c
  refine nQ (zF (zK (zB (wR (uF 3 b rfl ?_)))))
  have hz := zV f 1 zo; obtain ⟨h, s⟩ := hz
  have ag := hf _ (List.mem_of_getElem? s)
  have g := g.below c
  refine zE1 g el88 1 s rfl fun _ => (zc (c_points_Hex h _ zo) ?_)
  rintro _ a2 ⟨rfl, i⟩
  refine zD (zr (I3 ((hexF h).1)) (zr (I6 ((hexF h).2)) (zG (zG (nW (wR (zD (zNe .i64 ((hexF h).2) 0 ?_ ?_))))))))
  ·intro ap
   have a := zA (zA a c) i
   refine nQ (zT (wR (zr (Value.agg #[(I3 0), (I3 0), (U8 0)]) (zD (zr (.iface 28 (I6 ((hexF h).2))) (wG [(I3 0), (I3 0), (U8 0)] a ?_))))))
   intro a6 ac
   have a := ac.here
   refine zG (zG (nQ (zS (zH (yV [.cell 2 26, .tmp 3, .tmp 4] [(Value.agg #[(I3 0), (I3 0), (U8 0)]), (.bool false), (.iface 28 (I6 ((hexF h).2)))] rfl rfl ⟨⟨⟨b4, 0, none⟩, zk, yP [(I3 0), (I3 0), (U8 0)] zk zk (yI a)⟩, zk, zk, trivial⟩ ?_)))))
   exfalso; first | (rw [uI za] at hok; first | exact absurd hok za | exact absurd hok (by decide)) | (rw [rd_few za za] at hok; first | exact absurd hok za | exact absurd hok (by decide)) | (rw [rd_none za za] at hok; first | exact absurd hok za | exact absurd hok (by decide)) | (rw [rd_a za za za za] at hok; first | exact absurd hok za | exact absurd hok (by decide)) | (rw [rd_b za za za za za za] at hok; first | exact absurd hok za | exact absurd hok (by decide)) | (rw [rd_s za za za za za za za za] at hok; first | exact absurd hok za | exact absurd hok (by decide)) | (rw [rd_ok za za za za za za za za] at hok; first | exact absurd hok za | exact absurd hok (by decide))
  intro av
  have b := zA b i
  refine nQ (zF (zK (zB (wR (uF 3 b rfl ?_)))))
  have hz := zV f 2 zo; obtain ⟨d, p⟩ := hz
  have ae := hf _ (List.mem_of_getElem? p)
  have g := g.below i
  refine zE1 g el88 2 p rfl fun _ => (zc (c_words_Side d _ zo) ?_)
  rintro _ a4 ⟨rfl, l⟩
  refine zD (zr (U8 ((sideF d).1)) (zr (I6 ((sideF d).2)) (zG (zG (nW (wR (zD (zNe .i64 ((sideF d).2) 0 ?_ ?_))))))))
  ·intro al
   have a := zA (zA (zA a c) i) l
   refine nQ (zT (wR (zr (Value.agg #[(I3 0), (I3 0), (U8 0)]) (zD (zr (.iface 28 (I6 ((sideF d).2))) (wG [(I3 0), (I3 0), (U8 0)] a ?_))))))
   intro au ah
   have a := ah.here
   refine zG (zG (nQ (zS (zH (yV [.cell 2 26, .tmp 3, .tmp 4] [(Value.agg #[(I3 0), (I3 0), (U8 0)]), (.bool false), (.iface 28 (I6 ((sideF d).2)))] rfl rfl ⟨⟨⟨b4, 0, none⟩, zk, yP [(I3 0), (I3 0), (U8 0)] zk zk (yI a)⟩, zk, zk, trivial⟩ ?_)))))
   exfalso; first | (rw [uI za] at hok; first | exact absurd hok za | exact absurd hok (by decide)) | (rw [rd_few za za] at hok; first | exact absurd hok za | exact absurd hok (by decide)) | (rw [rd_none za za] at hok; first | exact absurd hok za | exact absurd hok (by decide)) | (rw [rd_a za za za za] at hok; first | exact absurd hok za | exact absurd hok (by decide)) | (rw [rd_b za za za za za za] at hok; first | exact absurd hok za | exact absurd hok (by decide)) | (rw [rd_s za za za za za za za za] at hok; first | exact absurd hok za | exact absurd hok (by decide)) | (rw [rd_ok za za za za za za za za] at hok; first | exact absurd hok za | exact absurd hok (by decide))
  intro am
  have a := zA (zA (zA a c) i) l
  refine nQ (zF (zK (zB (wR (zD (zD (zD (zr (Value.agg #[(I3 ((hexF e).1)), (I3 ((hexF h).1)), (U8 ((sideF d).1))]) (wG [(I3 ((hexF e).1)), (I3 ((hexF h).1)), (U8 ((sideF d).1))] a ?_)))))))))
  intro an r
  have a := r.here
  refine zG (zG (nQ (zS (yV [.cell 2 26, .tmp 3, .tmp 4] [(Value.agg #[(I3 ((hexF e).1)), (I3 ((hexF h).1)), (U8 ((sideF d).1))]), (.bool true), .nilIface] rfl rfl ⟨⟨⟨b4, 0, none⟩, zk, yP [(I3 ((hexF e).1)), (I3 ((hexF h).1)), (U8 ((sideF d).1))] zk zk (yI a)⟩, zk, zk, trivial⟩ ?_))))
  have n := ((((n.tr j.below).tr c).tr i).tr l).trans (r.below u)
  exact ⟨tup3 (by (rw [rd_ok za za za za za za za za]; done)) (eb (by (rw [rd_ok za za za za za za za za]; done))) rfl, n⟩
 intro ao
 refine zG (nQ (zF (wR (zr (Value.agg #[(I3 0), (I3 0), (U8 0)]) (wG [(I3 0), (I3 0), (U8 0)] a ?_)))))
 intro ar q
 have a := q.here
 refine zG (zG (nQ (zS (zP (zH (yV [.cell 2 26, .tmp 3, .tmp 4] [(Value.agg #[(I3 0), (I3 0), (U8 0)]), (.bool false), .nilIface] rfl rfl ⟨⟨⟨b4, 0, none⟩, zk, yP [(I3 0), (I3 0), (U8 0)] zk zk (yI a)⟩, zk, zk, trivial⟩ ?_))))))
 have n := (n.tr j.below).trans (q.below u)
 exact ⟨tup3 (by (rw [rd_none za za]; done)) (eb (by (rw [rd_none za za]; done))) rfl, n⟩
theorem c_read_bad (no : Int) (k : Int) (m : List UInt8) (ac : Value) (f : List (List UInt8)) (t : List UInt8) (w : World) (h : Rd w encStr ac f) (hf : ∀ x ∈ f, x.length ≤ 1073741824) (hn : f.length ≤ 1073741824) (hbad : (readB k f).2.2 ≠ 0) :
  Calls Tryz.prog 40 #[(Value.agg #[(I6 no), (U8 k), (S m), ac, (S t)])] w (Ret fun v w' => v = (.tuple #[(Value.agg #[(I3 0), (I3 0), (U8 0)]), (.bool false), (.iface 28 (I6 ((readB k f).2.2)))]) ∧ Below w.heap.size w w') := by
 refine wI 67 func40 rfl ?_
 have j := Below.refl w.heap.size w
 refine wR (zN [(I6 no), (U8 k), (S m), ac, (S t)] 90 ?_)
 intro b1 w2 p
 have al := p.ge j.size
 have b := p.here
 refine zN [(I3 0), (I3 0), (U8 0)] 26 ?_
 intro b4 w5 l
 have j := j.tr p.below
 have n := l.ge j.size
 have a := l.here
 have b := zA b l.below
 refine zG (zG (nW (wR (uF 1 b rfl (nQ (zX (wR (qA .u8 k 2 ?_ ?_))))))))
 ·intro h7
  refine zG (nQ (zT (wR (zr (Value.agg #[(I3 0), (I3 0), (U8 0)]) (zr (.iface 28 (I6 80)) (wG [(I3 0), (I3 0), (U8 0)] a ?_))))))
  intro w8 ak
  have a := ak.here
  refine zG (zG (nQ (zS (zP (zH (yV [.cell 2 26, .tmp 3, .tmp 4] [(Value.agg #[(I3 0), (I3 0), (U8 0)]), (.bool false), (.iface 28 (I6 80))] rfl rfl ⟨⟨⟨b4, 0, none⟩, zk, yP [(I3 0), (I3 0), (U8 0)] zk zk (yI a)⟩, zk, zk, trivial⟩ ?_))))))
  have j := (j.tr l.below).trans (ak.below n)
  exact ⟨tup3 rfl rfl (congrArg (fun z => Value.iface 28 (I6 z)) (by (rw [uI za]; done))), j⟩
 intro a4
 refine zG (nQ (zF (wR (qA .u8 k 1 ?_ ?_))))
 ·intro a1
  have h := (h.below p.below).below l.below
  refine zG (nQ (zT (wR (uF 3 b rfl (zln underlying88 (h).len (nNe ((f).length) 3 ?_ ?_))))))
  ·intro a2
   refine nQ (zT (wR (zr (Value.agg #[(I3 0), (I3 0), (U8 0)]) (zr (.iface 28 (I6 80)) (wG [(I3 0), (I3 0), (U8 0)] a ?_)))))
   intro ar s
   have a := s.here
   refine zG (zG (nQ (zS (zP (zH (yV [.cell 2 26, .tmp 3, .tmp 4] [(Value.agg #[(I3 0), (I3 0), (U8 0)]), (.bool false), (.iface 28 (I6 80))] rfl rfl ⟨⟨⟨b4, 0, none⟩, zk, yP [(I3 0), (I3 0), (U8 0)] zk zk (yI a)⟩, zk, zk, trivial⟩ ?_))))))
   have j := (j.tr l.below).trans (s.below n)
   exact ⟨tup3 rfl rfl (congrArg (fun z => Value.iface 28 (I6 z)) (by (rw [rd_few za za]; done))), j⟩
  intro a6
  refine nQ (zF (zK (zI (zB (wR (uF 3 b rfl ?_))))))
  have hz := zV f 0 zo; obtain ⟨g, ab⟩ := hz
  have af := hf _ (List.mem_of_getElem? ab)
  refine zE1 h el88 0 ab rfl fun _ => (zc (c_points_Hex g _ zo) ?_)
  rintro _ a0 ⟨rfl, c⟩
  refine zD (zr (I3 ((hexF g).1)) (zr (I6 ((hexF g).2)) (zG (zG (nW (wR (zD (zNe .i64 ((hexF g).2) 0 ?_ ?_))))))))
  ·intro ay
   have a := zA a c
   refine nQ (zT (wR (zr (Value.agg #[(I3 0), (I3 0), (U8 0)]) (zD (zr (.iface 28 (I6 ((hexF g).2))) (wG [(I3 0), (I3 0), (U8 0)] a ?_))))))
   intro az aa
   have a := aa.here
   refine zG (zG (nQ (zS (zH (yV [.cell 2 26, .tmp 3, .tmp 4] [(Value.agg #[(I3 0), (I3 0), (U8 0)]), (.bool false), (.iface 28 (I6 ((hexF g).2)))] rfl rfl ⟨⟨⟨b4, 0, none⟩, zk, yP [(I3 0), (I3 0), (U8 0)] zk zk (yI a)⟩, zk, zk, trivial⟩ ?_)))))
   have j := ((j.tr l.below).tr c).trans (aa.below n)
   exact ⟨tup3 rfl rfl (congrArg (fun z => Value.iface 28 (I6 z)) (by (rw [rd_a za za za za]; done))), j⟩
  intro ax
  have b := zA b c
  refine nQ (zF (zK (zB (wR (uF 3 b rfl ?_)))))
  have hz := zV f 1 zo; obtain ⟨i, u⟩ := hz
  have aj := hf _ (List.mem_of_getElem? u)
  have h := h.below c
  refine zE1 h el88 1 u rfl fun _ => (zc (c_points_Hex i _ zo) ?_)
  rintro _ a3 ⟨rfl, d⟩
  refine zD (zr (I3 ((hexF i).1)) (zr (I6 ((hexF i).2)) (zG (zG (nW (wR (zD (zNe .i64 ((hexF i).2) 0 ?_ ?_))))))))
  ·intro aq
   have a := zA (zA a c) d
   refine nQ (zT (wR (zr (Value.agg #[(I3 0), (I3 0), (U8 0)]) (zD (zr (.iface 28 (I6 ((hexF i).2))) (wG [(I3 0), (I3 0), (U8 0)] a ?_))))))
   intro a7 q
   have a := q.here
   refine zG (zG (nQ (zS (zH (yV [.cell 2 26, .tmp 3, .tmp 4] [(Value.agg #[(I3 0), (I3 0), (U8 0)]), (.bool false), (.iface 28 (I6 ((hexF i).2)))] rfl rfl ⟨⟨⟨b4, 0, none⟩, zk, yP [(I3 0), (I3 0), (U8 0)] zk zk (yI a)⟩, zk, zk, trivial⟩ ?_)))))
   have j := (((j.tr l.below).tr c).tr d).trans (q.below n)
   exact ⟨tup3 rfl rfl (congrArg (fun z => Value.iface 28 (I6 z)) (by (rw [rd_b za za za za za za]; done))), j⟩
  intro aw
  have b := zA b d
  refine nQ (zF (zK (zB (wR (uF 3 b rfl ?_)))))
  have hz := zV f 2 zo; obtain ⟨e, r⟩ := hz
  have ah := hf _ (List.mem_of_getElem? r)
  have h := h.below d
  refine zE1 h el88 2 r rfl fun _ => (zc (c_words_Side e _ zo) ?_)
  rintro _ a5 ⟨rfl, o⟩
  refine zD (zr (U8 ((sideF e).1)) (zr (I6 ((sideF e).2)) (zG (zG (nW (wR (zD (zNe .i64 ((sideF e).2) 0 ?_ ?_))))))))
  ·intro am
   have a := zA (zA (zA a c) d) o
   refine nQ (zT (wR (zr (Value.agg #[(I3 0), (I3 0), (U8 0)]) (zD (zr (.iface 28 (I6 ((sideF e).2))) (wG [(I3 0), (I3 0), (U8 0)] a ?_))))))
   intro av y
   have a := y.here
   refine zG (zG (nQ (zS (zH (yV [.cell 2 26, .tmp 3, .tmp 4] [(Value.agg #[(I3 0), (I3 0), (U8 0)]), (.bool false), (.iface 28 (I6 ((sideF e).2)))] rfl rfl ⟨⟨⟨b4, 0, none⟩, zk, yP [(I3 0), (I3 0), (U8 0)] zk zk (yI a)⟩, zk, zk, trivial⟩ ?_)))))
   have j := ((((j.tr l.below).tr c).tr d).tr o).trans (y.below n)
   exact ⟨tup3 rfl rfl (congrArg (fun z => Value.iface 28 (I6 z)) (by (rw [rd_s za za za za za za za za]; done))), j⟩
  intro an
  have a := zA (zA (zA a c) d) o
  refine nQ (zF (zK (zB (wR (zD (zD (zD (zr (Value.agg #[(I3 ((hexF g).1)), (I3 ((hexF i).1)), (U8 ((sideF e).1))]) (wG [(I3 ((hexF g).1)), (I3 ((hexF i).1)), (U8 ((sideF e).1))] a ?_)))))))))
  intro ao ai
  have a := ai.here
  refine zG (zG (nQ (zS (yV [.cell 2 26, .tmp 3, .tmp 4] [(Value.agg #[(I3 ((hexF g).1)), (I3 ((hexF i).1)), (U8 ((sideF e).1))]), (.bool true), .nilIface] rfl rfl ⟨⟨⟨b4, 0, none⟩, zk, yP [(I3 ((hexF g).1)), (I3 ((hexF i).1)), (U8 ((sideF e).1))] zk zk (yI a)⟩, zk, zk, trivial⟩ ?_))))
  exfalso; first | (rw [uI za] at hbad; exact hbad rfl) | (rw [rd_few za za] at hbad; exact hbad rfl) | (rw [rd_none za za] at hbad; exact hbad rfl) | (rw [rd_a za za za za] at hbad; exact hbad rfl) | (rw [rd_b za za za za za za] at hbad; exact hbad rfl) | (rw [rd_s za za za za za za za za] at hbad; exact hbad rfl) | (rw [rd_ok za za za za za za za za] at hbad; exact hbad rfl)
 intro ap
 refine zG (nQ (zF (wR (zr (Value.agg #[(I3 0), (I3 0), (U8 0)]) (wG [(I3 0), (I3 0), (U8 0)] a ?_)))))
 intro au ag
 have a := ag.here
 refine zG (zG (nQ (zS (zP (zH (yV [.cell 2 26, .tmp 3, .tmp 4] [(Value.agg #[(I3 0), (I3 0), (U8 0)]), (.bool false), .nilIface] rfl rfl ⟨⟨⟨b4, 0, none⟩, zk, yP [(I3 0), (I3 0), (U8 0)] zk zk (yI a)⟩, zk, zk, trivial⟩ ?_))))))
 exfalso; first | (rw [uI za] at hbad; exact hbad rfl) | (rw [rd_few za za] at hbad; exact hbad rfl) | (rw [rd_none za za] at hbad; exact hbad rfl) | (rw [rd_a za za za za] at hbad; exact hbad rfl) | (rw [rd_b za za za za za za] at hbad; exact hbad rfl) | (rw [rd_s za za za za za za za za] at hbad; exact hbad rfl) | (rw [rd_ok za za za za za za za za] at hbad; exact hbad rfl)
theorem c_code (e : Int) (w : World) (hty : w.cell? ⟨0, 0, none⟩ = some (.iface 180 (.agg #[.pointer (some ⟨7, 39, none⟩)]))) :
  Calls Tryz.prog 41 #[(.iface 28 (I6 e))] w (Ret fun v w' => v = (I6 e) ∧ Below w.heap.size w w') := by
 refine wI 8 func41 rfl ?_
 have b := Below.refl w.heap.size w
 refine wR (zG (nR (zN [(I6 0)] 28 ?_)))
 intro h k c
 have f := c.ge b.size
 have a := c.here
 have b := b.tr c.below
 refine nR (zD (zr (.iface 143 (pt h 0)) (zc (an_fk e h (I6 0) _ (qL hty b) a) ?_)))
 rintro _ i ⟨rfl, j, g, d⟩
 have a := d.here
 have b := (b.tr g).trans (d.below f)
 exact nR (zO 0 a rfl (zG (nQ (zS (yC [(I6 e)] ⟨rfl, b⟩)))))
end Go.Proofs.YtddnhlobnembaaaGreatDoor
end

/- === Wcb5 === -/
section
/- Walks, written by my program walk.py out of the specification cb5.py: each theorem says what one function returns and that it leaves memory as it was. -/
namespace Go.Proofs.YtddnhlobnembaaaGreatDoor
open Go Go.RowKit Go.FK _root_.Go.Proofs.Tryz
set_option maxHeartbeats 4000000
set_option maxRecDepth 100000
theorem c_Parse_ok (file : List UInt8) (text : List UInt8) (w : World) (hty : w.cell? ⟨0, 0, none⟩ = some (.iface 180 (.agg #[.pointer (some ⟨7, 39, none⟩)]))) (hs : text.length ≤ 67108864) (hok : (parF text).2.2 = 0) :
  Calls Tryz.prog 15 #[(S file), (S text)] w (Ret fun v w' => ∃ (cb0 mb0 : Nat), v = (.tuple #[(pt cb0 0), .nilIface]) ∧ w'.heap[cb0]? = some (.cells [(.map (some mb0)), (.map none)].toArray 69 (0, 0)) ∧ w.heap.size ≤ cb0 ∧ w'.heap[mb0]? = some (gmObj .i32 vBrk (kv (parF text).1.1)) ∧ w.heap.size ≤ mb0 ∧ Below w.heap.size w w') := by
 refine enterM (args := [(S file), (S text)]) func15 rfl (zk : _ = 83) zk ?_
 have hb := Below.refl w.heap.size w
 refine wR (zN [(S file)] 9 ?_)
 intro b1 w2 dp
 have ei := dp.ge hb.size
 have o := dp.here
 refine zN [(.pointer none)] 27 ?_
 intro b4 w5 da
 have hb := hb.tr dp.below
 have dx := da.ge hb.size
 have m := da.here
 refine zN [.nilIface] 39 ?_
 intro b7 w8 c2
 have hb := hb.tr da.below
 have dr := c2.ge hb.size
 have n := c2.here
 refine nR (L_gmk (T := 66) .i32 vBrk ?_)
 intro bn fj a8
 have o := zA (zA o da.below) c2.below
 have cf := yY (yA o) a8
 have m := zA m c2.below
 have bl := yY (yA m) a8
 have cj := NE.symm bl
 have bj := yY (yA n) a8
 have cm := NE.symm bj
 have hb := hb.tr c2.below
 have cg := a8.ge hb.size
 have j := a8.here
 refine zr (Value.agg #[(.map (some bn)), (.map none)]) (zN [(.map (some bn)), (.map none)] 69 ?_)
 intro bb ek be
 have cb := yY (yA j) be
 have b5 := NE.symm cb
 have hb := hb.tr a8.below
 have dh := be.ge hb.size
 have b := be.here
 refine zN [(.pointer none)] 27 ?_
 intro dj ex a5
 have m := zA (zA m a8.below) be.below
 have cs := yY (yA m) a5
 have j := zA j be.below
 have bi := yY (yA j) a5
 have ce := NE.symm bi
 have hb := hb.tr be.below
 have dw := a5.ge hb.size
 have q := a5.here
 refine z1 0 (pt bb 0) [(pt bb 0)] q ?_
 intro ew bh
 have o := zA (zA (zA o a8.below) be.below) a5.below
 have o := zC o bh (zJ o q zi)
 have n := zA (zA (zA n a8.below) be.below) a5.below
 have n := zC n bh (zJ n q zi)
 have b := zA b a5.below
 have b := zC b bh (zJ b q zi)
 have q := bh.here
 refine nR (zN [(.slice none 0 0)] 22 ?_)
 intro de ev a6
 have j := zC (zA j a5.below) bh bi
 have bk := yY (yA j) a6
 have cn := NE.symm bk
 have hb := (hb.tr a5.below).trans (bh.below dw)
 have dz := a6.ge hb.size
 have p := a6.here
 refine nR (zN [(.slice none 0 0)] 79 ?_)
 intro dd eu a3
 have j := zA j a6.below
 have bm := yY (yA j) a3
 have ck := NE.symm bm
 have hb := hb.tr a6.below
 have d1 := a3.ge hb.size
 have r := a3.here
 refine nW (wR (zD (zc (c_lines_Each text _ ) ?_)))
 rintro _ ah ⟨b2, rfl, f, bv, a9⟩
 have j := zA j a3.below
 have bt := NE_ge (yA j) bv
 have bs := NE.symm bt
 have hb := hb.tr a3.below
 replace bv := Nat.le_trans hb.size bv
 refine nQ (zX ?_)
 have o := zA (zA (zA o a6.below) a3.below) a9
 have b6 : b1 < ah.heap.size := yA o
 have m := zA (zA (zA (zC (zA m a5.below) bh cs) a6.below) a3.below) a9
 have bx : b4 < ah.heap.size := yA m
 have n := zA (zA (zA n a6.below) a3.below) a9
 have b0 : b7 < ah.heap.size := yA n
 have j := zA j a9
 have bc : bn < ah.heap.size := yA j
 have b := zA (zA (zA b a6.below) a3.below) a9
 have br : bb < ah.heap.size := yA b
 have q := zA (zA (zA q a6.below) a3.below) a9
 have bw : dj < ah.heap.size := yA q
 have p := zA (zA p a3.below) a9
 have b3 : de < ah.heap.size := yA p
 have r := zA r a9
 have b8 : dd < ah.heap.size := yA r
 have a7 : b2 < ah.heap.size := yA f
 have hb := hb.tr a9
 have cx := hb.size
 have eh := hb
 refine uL 66 [(pt b2 0)] (toldF text) zk (fun _ _ => rfl) (it_lines_Each_1 b2 text (by first | omega | assumption)) f ((fun D A B h hc hd => zU h hc (fun h => Nat.not_lt.2 (hd _ h) a7))) (by intro x; rfl) (fun K cy A => ∃ (ba : List Brk) (bo : List Int) (ml : List (Int × Brk)) (ai : Value) (al : Value), (A.heap[b1]? = some (.cells [(S file)].toArray 9 (0, 0))) ∧ (A.heap[b4]? = some (.cells [(.pointer none)].toArray 27 (0, 0))) ∧ (A.heap[b7]? = some (.cells [.nilIface].toArray 39 (0, 0))) ∧ (A.heap[bn]? = some (gmObj .i32 vBrk ml)) ∧ (A.heap[bb]? = some (.cells [(.map (some bn)), (.map none)].toArray 69 (0, 0))) ∧ (A.heap[dj]? = some (.cells [(pt bb 0)].toArray 27 (0, 0))) ∧ (A.heap[de]? = some (.cells [ai].toArray 22 (0, 0))) ∧ (A.heap[dd]? = some (.cells [al].toArray 79 (0, 0))) ∧ (A.heap[b2]? = some (.cells [(S text)].toArray 9 (0, 0))) ∧ (Row A w.heap.size 26 3 encBrk ai ba) ∧ (∀ g, Value.ownBlock ai = some g → ¬ Iv ah.heap.size K g) ∧ (Row A w.heap.size 3 1 encInt al bo) ∧ (∀ g, Value.ownBlock al = some g → ¬ Iv ah.heap.size K g) ∧ (Below w.heap.size w A) ∧ (ParI cy ba bo) ∧ (ml = kv ba) ∧ (ba.length ≤ cy.length) ∧ (bo.length = ba.length)) (fun K c cy A => False) ?_ ?_ ?_ ?_ ?_ ?_
 ·intro A hA
  exact ⟨[], [], [], (.slice none 0 0), (.slice none 0 0), zA o hA, zA m hA, zA n hA, zA j hA, zA b hA, zA q hA, zA p hA, zA r hA, zA f hA, Row.nil _ _ _ _ _, nr_nil _ _, Row.nil _ _ _ _ _, nr_nil _ _, hb.trans (hA.mono hb.size), by exact ParI.nil, by rfl, by exact Nat.le_refl _, by rfl⟩
 ·rintro K cy A B ⟨ba, bo, ml, ai, al, o, m, n, j, b, q, p, r, f, a, z, i, y, hb, p1, p2, p3, p4⟩ hc
  exact ⟨ba, bo, ml, ai, al, zU o hc (fun h => Nat.not_lt.2 h.1 b6), zU m hc (fun h => Nat.not_lt.2 h.1 bx), zU n hc (fun h => Nat.not_lt.2 h.1 b0), zU j hc (fun h => Nat.not_lt.2 h.1 bc), zU b hc (fun h => Nat.not_lt.2 h.1 br), zU q hc (fun h => Nat.not_lt.2 h.1 bw), zU p hc (fun h => Nat.not_lt.2 h.1 b3), zU r hc (fun h => Nat.not_lt.2 h.1 b8), zU f hc (fun h => Nat.not_lt.2 h.1 a7), a.ch hc z, z, i.ch hc y, y, hc.below hb hb.size (fun k h => Nat.le_trans cx h.1), p1, p2, p3, p4⟩
 ·intro K c _ A B h hc; exact h.elim
 ·intro l K cy x A hi hN e2 hK ca
  obtain ⟨ba, bo, ml, ai, al, o, m, n, j, b, q, p, r, f, a, z, i, y, hb, p1, p2, p3, p4⟩ := hi
  have hk := Kp.refl (ah.heap.size) K A
  have dn : ¬ Iv (ah.heap.size) K b1 := fun h => Nat.not_lt.2 h.1 b6
  have dg : ¬ Iv (ah.heap.size) K b4 := fun h => Nat.not_lt.2 h.1 bx
  have di : ¬ Iv (ah.heap.size) K b7 := fun h => Nat.not_lt.2 h.1 b0
  have co : ¬ Iv (ah.heap.size) K bn := fun h => Nat.not_lt.2 h.1 bc
  have dc : ¬ Iv (ah.heap.size) K bb := fun h => Nat.not_lt.2 h.1 br
  have dl : ¬ Iv (ah.heap.size) K dj := fun h => Nat.not_lt.2 h.1 bw
  have c5 : ¬ Iv (ah.heap.size) K de := fun h => Nat.not_lt.2 h.1 b3
  have ct : ¬ Iv (ah.heap.size) K dd := fun h => Nat.not_lt.2 h.1 b8
  have cw : ¬ Iv (ah.heap.size) K b2 := fun h => Nat.not_lt.2 h.1 a7
  have f := hN
  have e9 := told_short (pre_mem ca)
  have ef := ca.length_le; rw [List.length_append, List.length_singleton] at ef
  have en := told_len text
  have e7 := scan_flen x.1 x.2
  have eg := scan_parts (no := x.1) (s := x.2) 1073741824 zo
  refine wR (zN [(I6 0)] 3 ?_)
  intro d2 fk aj
  have bf := yY (yA j) aj
  have cl := NE.symm bf
  have d3 := aj.ge hb.size
  have c4 : ¬ Iv ah.heap.size K d2 := fun h => by have := h.2; have := aj.num; omega
  have an := i.new_ne aj
  replace hk := hk.ch (Ch.of_below aj.below) hK (fun _ h => h.elim)
  replace hK := Nat.le_trans hK (aj.below.size)
  have u := aj.here
  refine z1 0 (I6 x.1) [(I6 x.1)] u ?_
  intro eo aq
  replace hk := hk.ch (Ch.of_wrote aq) hK (fun k e h => c4 (e ▸ h))
  replace hK := Nat.le_trans hK (Nat.le_of_eq aq.size.symm)
  have o := zA o aj.below
  have o := zC o aq (zJ o u zi)
  have m := zA m aj.below
  have m := zC m aq (zJ m u zi)
  have n := zA n aj.below
  have n := zC n aq (zJ n u zi)
  have b := zA b aj.below
  have b := zC b aq (zJ b u zi)
  have q := zA q aj.below
  have q := zC q aq (zJ q u zi)
  have p := zA p aj.below
  have p := zC p aq (zJ p u zi)
  have r := zA r aj.below
  have r := zC r aq (zJ r u zi)
  have f := zA f aj.below
  have f := zC f aq (zJ f u zi)
  have a := a.below aj.below
  have a := a.wrote aq (a.ne u zi)
  have u := aq.here
  refine nQ (zQ (zG (zR (zB ⟨hk, ?_⟩))))
  intro ea aw
  have hb := (hb.tr aj.below).trans (aq.below d3)
  have hb := aw.below hb hb.size (fun k h => Nat.le_trans cx h.1)
  replace hK := Nat.le_trans hK aw.size
  replace hk := Kp.refl (ah.heap.size) K ea
  have u := zU u aw c4
  refine zX (wR (zr (.func (.func 38) #[] #[(pt b1 0), (pt d2 0)]) (zG (nR (zO 0 u rfl (zD (zc (c_lines_Scan x.1 x.2 _ (by first | omega | assumption)) ?_)))))))
  rintro _ es ⟨db, rfl, am, av⟩
  have dq := nr_row (K0 := ah.heap.size) am hK
  have o := zU o aw dn
  have cz := Row.nb_call am o
  have f := zU f aw cw
  have cr := Row.nb_call am f
  have am := am.base hb.size
  replace hk := hk.ch (Ch.of_below av) hK (fun _ h => h.elim)
  replace hK := Nat.le_trans hK (av.size)
  have := scan_err x.1 x.2
  refine zD (zr (Value.agg #[(I6 ((scanF x.1 x.2).1.1)), (U8 ((scanF x.1 x.2).1.2.1)), (S ((scanF x.1 x.2).1.2.2.1)), db, (S ((scanF x.1 x.2).1.2.2.2.2))]) (zr (I6 ((scanF x.1 x.2).2)) (zN [(I6 0), (U8 0), (S []), (.slice none 0 0), (S [])] 90 ?_)))
  intro dt er ad
  have j := zA (zU (zC (zA j aj.below) aq bf) aw co) av
  have bd := yY (yA j) ad
  have hb := hb.tr av
  have c1 := ad.ge hb.size
  have c9 : ¬ Iv ah.heap.size K dt := fun h => by have := h.2; have := ad.num; omega
  replace hk := hk.ch (Ch.of_below ad.below) hK (fun _ h => h.elim)
  replace hK := Nat.le_trans hK (ad.below.size)
  have ae := ad.here
  have am := am.below ad.below
  refine xP dt 0 [(I6 ((scanF x.1 x.2).1.1)), (U8 ((scanF x.1 x.2).1.2.1)), (S ((scanF x.1 x.2).1.2.2.1)), db, (S ((scanF x.1 x.2).1.2.2.2.2))] [(I6 0), (U8 0), (S []), (.slice none 0 0), (S [])] [(I6 ((scanF x.1 x.2).1.1)), (U8 ((scanF x.1 x.2).1.2.1)), (S ((scanF x.1 x.2).1.2.2.1)), db, (S ((scanF x.1 x.2).1.2.2.2.2))] 90 zk zk (xC rfl (xC rfl (xC rfl (xC am.one (xC rfl rfl))))) zk ae zk rfl ?_
  intro fc ag
  replace hk := hk.ch (Ch.of_wrote ag) hK (fun k e h => c9 (e ▸ h))
  replace hK := Nat.le_trans hK (Nat.le_of_eq ag.size.symm)
  have o := zA (zA o av) ad.below
  have o := zC o ag (zJ o ae zi)
  have m := zA (zA (zU m aw dg) av) ad.below
  have m := zC m ag (zJ m ae zi)
  have n := zA (zA (zU n aw di) av) ad.below
  have n := zC n ag (zJ n ae zi)
  have b := zA (zA (zU b aw dc) av) ad.below
  have b := zC b ag (zJ b ae zi)
  have q := zA (zA (zU q aw dl) av) ad.below
  have q := zC q ag (zJ q ae zi)
  have p := zA (zA (zU p aw c5) av) ad.below
  have p := zC p ag (zJ p ae zi)
  have r := zA (zA (zU r aw ct) av) ad.below
  have r := zC r ag (zJ r ae zi)
  have f := zA (zA f av) ad.below
  have f := zC f ag (zJ f ae zi)
  have u := zA (zA u av) ad.below
  have u := zC u ag (zJ u ae zi)
  have a := ((a.ch aw z).below av).below ad.below
  have a := a.wrote ag (a.ne ae zi)
  have i := ((((i.below aj.below).wrote aq an).ch aw y).below av).below ad.below
  have i := i.wrote ag (i.ne ae zi)
  have am := am.wrote ag (am.ne ae zi)
  have ae := ag.here
  refine zG (nW (wR (zD (zNe .i64 ((scanF x.1 x.2).2) 0 ?_ ?_))))
  ·intro d4
   exfalso; (rw [par_scan p1 ca d4] at hok; exact d4 hok)
  intro e1
  refine nQ (zF (zK (zB (wR (zOW ae ?_)))))
  by_cases df : (readB ((scanF x.1 x.2).1.2.1) ((scanF x.1 x.2).1.2.2.2.1)).2.2 = 0
  ·skip
   refine zc (c_read_ok ((scanF x.1 x.2).1.1) ((scanF x.1 x.2).1.2.1) ((scanF x.1 x.2).1.2.2.1) db ((scanF x.1 x.2).1.2.2.2.1) ((scanF x.1 x.2).1.2.2.2.2) _ am.rd (by exact eg.1) zo (by first | omega | assumption)) ?_
   rintro _ ej ⟨rfl, ab⟩
   replace hk := hk.ch (Ch.of_below ab) hK (fun _ h => h.elim)
   replace hK := Nat.le_trans hK (ab.size)
   refine zD (zr (Value.agg #[(I3 ((readB ((scanF x.1 x.2).1.2.1) ((scanF x.1 x.2).1.2.2.2.1)).1.1)), (I3 ((readB ((scanF x.1 x.2).1.2.1) ((scanF x.1 x.2).1.2.2.2.1)).1.2.1)), (U8 ((readB ((scanF x.1 x.2).1.2.1) ((scanF x.1 x.2).1.2.2.2.1)).1.2.2))]) (zr (.bool ((readB ((scanF x.1 x.2).1.2.1) ((scanF x.1 x.2).1.2.2.2.1)).2.1)) (yK ((readB ((scanF x.1 x.2).1.2.1) ((scanF x.1 x.2).1.2.2.2.1)).2.1) ?_ ?_)))
   ·intro e4
    refine zr .nilIface (zN [(I3 0), (I3 0), (U8 0)] 26 ?_)
    intro d9 et af
    have j := zA (zC (zA j ad.below) ag bd) ab
    have az := yY (yA j) af
    have b9 := NE.symm az
    have hb := ((hb.tr ad.below).trans (ag.below c1)).tr ab
    have ci := af.ge hb.size
    have bu : ¬ Iv ah.heap.size K d9 := fun h => by have := h.2; have := af.num; omega
    have a := a.below ab
    have aa := a.new_ne af
    replace hk := hk.ch (Ch.of_below af.below) hK (fun _ h => h.elim)
    replace hK := Nat.le_trans hK (af.below.size)
    have t := af.here
    refine wG [(I3 ((readB ((scanF x.1 x.2).1.2.1) ((scanF x.1 x.2).1.2.2.2.1)).1.1)), (I3 ((readB ((scanF x.1 x.2).1.2.1) ((scanF x.1 x.2).1.2.2.2.1)).1.2.1)), (U8 ((readB ((scanF x.1 x.2).1.2.1) ((scanF x.1 x.2).1.2.2.2.1)).1.2.2))] t ?_
    intro el ap
    replace hk := hk.ch (Ch.of_wrote ap) hK (fun k e h => bu (e ▸ h))
    replace hK := Nat.le_trans hK (Nat.le_of_eq ap.size.symm)
    have o := zA (zA o ab) af.below
    have o := zC o ap (zJ o t zi)
    have m := zA (zA m ab) af.below
    have m := zC m ap (zJ m t zi)
    have n := zA (zA n ab) af.below
    have n := zC n ap (zJ n t zi)
    have b := zA (zA b ab) af.below
    have b := zC b ap (zJ b t zi)
    have q := zA (zA q ab) af.below
    have q := zC q ap (zJ q t zi)
    have p := zA (zA p ab) af.below
    have p := zC p ap (zJ p t zi)
    have r := zA (zA r ab) af.below
    have r := zC r ap (zJ r t zi)
    have f := zA (zA f ab) af.below
    have f := zC f ap (zJ f t zi)
    have u := zA (zA u ab) af.below
    have u := zC u ap (zJ u t zi)
    have i := (i.below ab).below af.below
    have i := i.wrote ap (i.ne t zi)
    have t := ap.here
    have hb := (hb.tr af.below).trans (ap.below ci)
    have j := zC (zA j af.below) ap az
    refine zG (zG (nW (wR (zD (zr (.bool false) (nQ (zF (zK (zB (zY (wR (zD (wW true (nQ (zF (zK (zB (zY (wR (zO 0 q rfl (zOW t (zc (c_add bb bn ml (.map none) ((readB ((scanF x.1 x.2).1.2.1) ((scanF x.1 x.2).1.2.2.2.1)).1.1) ((readB ((scanF x.1 x.2).1.2.1) ((scanF x.1 x.2).1.2.2.2.1)).1.2.1) ((readB ((scanF x.1 x.2).1.2.1) ((scanF x.1 x.2).1.2.2.2.1)).1.2.2) w.heap.size _ hb.size b j cg) ?_))))))))))))))))))))))
    rintro _ e6 ⟨rfl, du, au⟩
    replace hk := hk.ch au hK (fun k e h => co (e ▸ h))
    replace hK := Nat.le_trans hK au.size
    have hb := au.below hb hb.size (fun k e => e ▸ cg)
    have a := (a.below af.below).wrote ap aa
    have a := a.ch au (fun g e d => (a.ne j (by simp [gmObj])) (d ▸ e))
    have i := i.ch au (fun g e d => (i.ne j (by simp [gmObj])) (d ▸ e))
    have j := du
    refine zG (nR (zD (zNe .i64 (addE ml (((readB ((scanF x.1 x.2).1.2.1) ((scanF x.1 x.2).1.2.2.2.1)).1.1), ((readB ((scanF x.1 x.2).1.2.1) ((scanF x.1 x.2).1.2.2.2.1)).1.2.1), ((readB ((scanF x.1 x.2).1.2.1) ((scanF x.1 x.2).1.2.2.2.1)).1.2.2))) 0 ?_ ?_)))
    ·intro dv
     exfalso; (rw [par_add2 p1 ca p2 za za za dv] at hok; exact dv hok)
    intro fd
    have t := zU t au (fun e => b9 e)
    have p := zU p au (fun e => cn e)
    refine nQ (zF (zK (zB (wR (zO 0 p rfl (zOW t (xW qJ w.heap.size ai ba ((readB ((scanF x.1 x.2).1.2.1) ((scanF x.1 x.2).1.2.2.2.1)).1.1, (readB ((scanF x.1 x.2).1.2.1) ((scanF x.1 x.2).1.2.2.2.1)).1.2.1, (readB ((scanF x.1 x.2).1.2.1) ((scanF x.1 x.2).1.2.2.2.1)).1.2.2) hb.size a zo zk rfl rfl zk rfl zk zk ?_)))))))
    intro dm ey d0 ax c3
    have c0 := nr_app c3 z hK
    have cp := wM c3 aa (yA t)
    have hb := hb.tg hb.size ax a
    replace hk := hk.ch (Ch.of_grown ax) hK (fun k e => z k e)
    replace hK := Nat.le_trans hK (ax.size)
    have o := zU o au (fun e => cf e)
    have o := yG o ax (a.ne o zi)
    have m := zU m au (fun e => bl e)
    have m := yG m ax (a.ne m zi)
    have n := zU n au (fun e => bj e)
    have n := yG n ax (a.ne n zi)
    have j := yG j ax (a.ne j (by simp [gmObj]))
    have b := zU b au (fun e => b5 e)
    have b := yG b ax (a.ne b zi)
    have q := zU q au (fun e => ce e)
    have q := yG q ax (a.ne q zi)
    have p := yG p ax (a.ne p zi)
    have r := zU r au (fun e => ck e)
    have r := yG r ax (a.ne r zi)
    have f := zU f au (fun e => bs e)
    have f := yG f ax (a.ne f zi)
    have u := zU u au (fun e => cl e)
    have u := yG u ax (a.ne u zi)
    have i := i.grown ax (i.apart a zk)
    have aa := cp
    have a := d0
    have z := c0; clear c0
    refine wL de 0 dm [ai] [dm] 22 zk zk a.one zk p zi rfl ?_
    intro fa ar
    replace hk := hk.ch (Ch.of_wrote ar) hK (fun k e h => c5 (e ▸ h))
    replace hK := Nat.le_trans hK (Nat.le_of_eq ar.size.symm)
    have o := zC o ar (zJ o p zi)
    have m := zC m ar (zJ m p zi)
    have n := zC n ar (zJ n p zi)
    have b := zC b ar (zJ b p zi)
    have q := zC q ar (zJ q p zi)
    have r := zC r ar (zJ r p zi)
    have f := zC f ar (zJ f p zi)
    have u := zC u ar (zJ u p zi)
    have a := a.wrote ar (a.ne p zi)
    have i := i.wrote ar (i.ne p zi)
    have p := ar.here
    have hb := hb.trans (ar.below dz)
    refine nQ (zQ (zO 0 r rfl (zO 0 u rfl (xW el79 w.heap.size al bo x.1 hb.size i zo zk rfl rfl zk rfl zk zk ?_))))
    intro dk e3 dy a1 cv
    have c0 := nr_app cv y hK
    have cu := wM cv an (yA u)
    have hb := hb.tg hb.size a1 i
    replace hk := hk.ch (Ch.of_grown a1) hK (fun k e => y k e)
    replace hK := Nat.le_trans hK (a1.size)
    have o := yG o a1 (i.ne o zi)
    have m := yG m a1 (i.ne m zi)
    have n := yG n a1 (i.ne n zi)
    have j := zC j ar bk
    have j := yG j a1 (i.ne j (by simp [gmObj]))
    have b := yG b a1 (i.ne b zi)
    have q := yG q a1 (i.ne q zi)
    have p := yG p a1 (i.ne p zi)
    have r := yG r a1 (i.ne r zi)
    have f := yG f a1 (i.ne f zi)
    have a := a.grown a1 (a.apart i zk)
    have an := cu
    have i := dy
    have y := c0; clear c0
    refine wL dd 0 dk [al] [dk] 79 zk zk i.one zk r zi rfl ?_
    intro fe a0
    replace hk := hk.ch (Ch.of_wrote a0) hK (fun k e h => ct (e ▸ h))
    replace hK := Nat.le_trans hK (Nat.le_of_eq a0.size.symm)
    have o := zC o a0 (zJ o r zi)
    have m := zC m a0 (zJ m r zi)
    have n := zC n a0 (zJ n r zi)
    have b := zC b a0 (zJ b r zi)
    have q := zC q a0 (zJ q r zi)
    have p := zC p a0 (zJ p r zi)
    have f := zC f a0 (zJ f r zi)
    have a := a.wrote a0 (a.ne r zi)
    have i := i.wrote a0 (i.ne r zi)
    have r := a0.here
    refine zR (zI ?_)
    have hb := hb.trans (a0.below d1)
    have j := zC j a0 bm
    refine wA hk f ⟨(ba ++ [((readB ((scanF x.1 x.2).1.2.1) ((scanF x.1 x.2).1.2.2.2.1)).1.1, (readB ((scanF x.1 x.2).1.2.1) ((scanF x.1 x.2).1.2.2.2.1)).1.2.1, (readB ((scanF x.1 x.2).1.2.1) ((scanF x.1 x.2).1.2.2.2.1)).1.2.2)]), (bo ++ [x.1]), (addM ml (((readB ((scanF x.1 x.2).1.2.1) ((scanF x.1 x.2).1.2.2.2.1)).1.1), ((readB ((scanF x.1 x.2).1.2.1) ((scanF x.1 x.2).1.2.2.2.1)).1.2.1), ((readB ((scanF x.1 x.2).1.2.1) ((scanF x.1 x.2).1.2.2.2.1)).1.2.2))), dm, dk, o, m, n, j, b, q, p, r, f, a, z, i, y, hb, ?_, ?_, ?_, ?_⟩
    ·exact ParI.add p1 za za za (add_kv p2 za)
    ·exact addM_kv p2 za
    ·(simp only [List.length_append, List.length_cons, List.length_nil]; omega)
    (simp only [List.length_append, List.length_cons, List.length_nil]; omega)
   intro e5
   refine zr .nilIface (zN [(I3 0), (I3 0), (U8 0)] 26 ?_)
   intro eb ff ak
   have j := zA (zC (zA j ad.below) ag bd) ab
   have az := yY (yA j) ak
   have hb := ((hb.tr ad.below).trans (ag.below c1)).tr ab
   have ci := ak.ge hb.size
   have bu : ¬ Iv ah.heap.size K eb := fun h => by have := h.2; have := ak.num; omega
   have a := a.below ab
   have aa := a.new_ne ak
   replace hk := hk.ch (Ch.of_below ak.below) hK (fun _ h => h.elim)
   replace hK := Nat.le_trans hK (ak.below.size)
   have t := ak.here
   refine wG [(I3 ((readB ((scanF x.1 x.2).1.2.1) ((scanF x.1 x.2).1.2.2.2.1)).1.1)), (I3 ((readB ((scanF x.1 x.2).1.2.1) ((scanF x.1 x.2).1.2.2.2.1)).1.2.1)), (U8 ((readB ((scanF x.1 x.2).1.2.1) ((scanF x.1 x.2).1.2.2.2.1)).1.2.2))] t ?_
   intro fl ay
   replace hk := hk.ch (Ch.of_wrote ay) hK (fun k e h => bu (e ▸ h))
   replace hK := Nat.le_trans hK (Nat.le_of_eq ay.size.symm)
   have o := zA (zA o ab) ak.below
   have o := zC o ay (zJ o t zi)
   have m := zA (zA m ab) ak.below
   have m := zC m ay (zJ m t zi)
   have n := zA (zA n ab) ak.below
   have n := zC n ay (zJ n t zi)
   have b := zA (zA b ab) ak.below
   have b := zC b ay (zJ b t zi)
   have q := zA (zA q ab) ak.below
   have q := zC q ay (zJ q t zi)
   have p := zA (zA p ab) ak.below
   have p := zC p ay (zJ p t zi)
   have r := zA (zA r ab) ak.below
   have r := zC r ay (zJ r t zi)
   have f := zA (zA f ab) ak.below
   have f := zC f ay (zJ f t zi)
   have i := (i.below ab).below ak.below
   have i := i.wrote ay (i.ne t zi)
   refine zG (zG (nW (wR (zD (zr (.bool false) (nQ (zF (zK (zB (zY (wR (zD (wW false (nQ (zT (yH (zL (yB ?_))))))))))))))))))
   have hb := (hb.tr ak.below).trans (ay.below ci)
   have j := zC (zA j ak.below) ay az
   have a := (a.below ak.below).wrote ay aa
   refine wA hk f ⟨ba, bo, ml, ai, al, o, m, n, j, b, q, p, r, f, a, z, i, y, hb, ?_, ?_, ?_, ?_⟩
   ·exact ParI.skip p1 za za za
   ·exact p2
   ·(simp only [List.length_append, List.length_cons, List.length_nil]; omega)
   exact p4
  skip
  exfalso; rw [par_read p1 ca za df] at hok; exact df hok
 ·intro K A hi e8 a2
  obtain ⟨ba, bo, ml, ai, al, o, m, n, j, b, q, p, r, f, a, z, i, y, hb, p1, p2, p3, p4⟩ := hi
  have cd : NE bn (ah.heap.size) := Nat.ne_of_lt bc
  refine zI (zB (zY (wR (zO 0 p rfl (zO 0 q rfl (zr (.func (.func 30) #[(pt bb 0)] #[]) (zc (c_idx ai ba bb bn ml (.map none) [] _ a.rd b (GmAt.of j) (.inl ⟨rfl, rfl⟩) (by (have := told_len text; omega))) ?_)))))))
  rintro _ ep ⟨rfl, bg⟩
  refine zG (nR (zD (zGe .i64 (idxL ml ba) 0 ?_ ?_)))
  ·intro ec
   exfalso; (rw [par_lone2 p1 p2 ec] at hok; cases hok)
  intro fb
  have m := zA m bg
  have q := zA q bg
  refine nQ (zF (zK (zB (wR (zO 0 q rfl (z1 0 (pt bb 0) [(pt bb 0)] m ?_))))))
  intro e0 bp
  have n := zA n bg
  have n := zC n bp (zJ n m zi)
  have b := zA b bg
  have b := zC b bp (zJ b m zi)
  have a2 := zA a2 bg
  have a2 := zC a2 bp (zJ a2 m zi)
  have m := bp.here
  refine z1 0 .nilIface [.nilIface] n ?_
  intro fi bq
  have m := zC m bq (zJ m n zi)
  have b := zC b bq (zJ b n zi)
  have a2 := zC a2 bq (zJ a2 n zi)
  have n := bq.here
  refine nQ (zS (wQ (ds := [⟨.collected ah.heap.size, #[]⟩]) zk (wF a2 ?_)))
  intro ez bz
  have m := zC m bz (zJ m a2 zi)
  have n := zC n bz (zJ n a2 zi)
  have b := zC b bz (zJ b a2 zi)
  refine vQ [.cell 4 27, .cell 5 39] [(pt bb 0), .nilIface] rfl ⟨⟨⟨b4, 0, none⟩, zk, wH zk (zW m rfl)⟩, ⟨⟨b7, 0, none⟩, zk, wH zk (zW n rfl)⟩, trivial⟩ ?_
  have em : ml = (kv (parF text).1.1) := by (rw [par_ok2 p1 p2 za]; exact p2)
  have j := zC (zC (zC (zA j bg) bp cj) bq cm) bz cd
  rw [em] at j
  have hb := (((hb.tr bg).trans (bp.below dx)).trans (bq.below dr)).trans (bz.below cx)
  exact ⟨bb, bn, rfl, b, dh, j, cg, hb⟩
 intro K c _ x A _ h; exact h.elim
theorem c_Parse_bad (file : List UInt8) (text : List UInt8) (w : World) (hty : w.cell? ⟨0, 0, none⟩ = some (.iface 180 (.agg #[.pointer (some ⟨7, 39, none⟩)]))) (hs : text.length ≤ 67108864) (hbad : (parF text).2.2 ≠ 0) :
  Calls Tryz.prog 15 #[(S file), (S text)] w (Ret fun v w' => ∃ (cb0 : Nat), v = (.tuple #[(.pointer none), (.iface 83 (pt cb0 0))]) ∧ w'.heap[cb0]? = some (.cells [(S file), (I6 ((parF text).2.1)), (I6 ((parF text).2.2))].toArray 85 (0, 0)) ∧ w.heap.size ≤ cb0 ∧ Below w.heap.size w w') := by
 refine enterM (args := [(S file), (S text)]) func15 rfl (zk : _ = 83) zk ?_
 have y := Below.refl w.heap.size w
 refine wR (zN [(S file)] 9 ?_)
 intro b1 w2 e4
 have gg := e4.ge y.size
 have i := e4.here
 refine zN [(.pointer none)] 27 ?_
 intro b4 w5 ev
 have y := y.tr e4.below
 have dh := ev.ge y.size
 have b := ev.here
 refine zN [.nilIface] 39 ?_
 intro b7 w8 ei
 have y := y.tr ev.below
 have dg := ei.ge y.size
 have f := ei.here
 refine nR (L_gmk (T := 66) .i32 vBrk ?_)
 intro c5 hm bx
 have i := zA (zA i ev.below) ei.below
 have cj := yY (yA i) bx
 have b := zA b ei.below
 have cv := yY (yA b) bx
 have cm := yY (yA f) bx
 have y := y.tr ei.below
 have d6 := bx.ge y.size
 have q := bx.here
 refine zr (Value.agg #[(.map (some c5)), (.map none)]) (zN [(.map (some c5)), (.map none)] 69 ?_)
 intro co gl b9
 have dm := yY (yA q) b9
 have b6 := NE.symm dm
 have y := y.tr bx.below
 have fp := b9.ge y.size
 have m := b9.here
 refine zN [(.pointer none)] 27 ?_
 intro eu g3 bp
 have b := zA (zA b bx.below) b9.below
 have c4 := yY (yA b) bp
 have b3 := NE.symm c4
 have q := zA q b9.below
 have ck := yY (yA q) bp
 have cf := NE.symm ck
 have y := y.tr b9.below
 have e9 := bp.ge y.size
 have o := bp.here
 refine z1 0 (pt co 0) [(pt co 0)] o ?_
 intro g2 ci
 have i := zA (zA (zA i bx.below) b9.below) bp.below
 have i := zC i ci (zJ i o zi)
 have f := zA (zA (zA f bx.below) b9.below) bp.below
 have f := zC f ci (zJ f o zi)
 have m := zA m bp.below
 have m := zC m ci (zJ m o zi)
 have o := ci.here
 refine nR (zN [(.slice none 0 0)] 22 ?_)
 intro ex g1 br
 have q := zC (zA q bp.below) ci ck
 have cn := yY (yA q) br
 have du := NE.symm cn
 have y := (y.tr bp.below).trans (ci.below e9)
 have fb := br.ge y.size
 have r := br.here
 refine nR (zN [(.slice none 0 0)] 79 ?_)
 intro dy g0 bo
 have q := zA q br.below
 have cw := yY (yA q) bo
 have dn := NE.symm cw
 have y := y.tr br.below
 have fe := bo.ge y.size
 have p := bo.here
 refine nW (wR (zD (zc (c_lines_Each text _ ) ?_)))
 rintro _ ai ⟨c2, rfl, a, dd, b0⟩
 have q := zA q bo.below
 have da := NE_ge (yA q) dd
 have bz := NE.symm da
 have y := y.tr bo.below
 replace dd := Nat.le_trans y.size dd
 refine nQ (zX ?_)
 have i := zA (zA (zA i br.below) bo.below) b0
 have cu : b1 < ai.heap.size := yA i
 have b := zA (zA (zA (zC (zA b bp.below) ci c4) br.below) bo.below) b0
 have ce : b4 < ai.heap.size := yA b
 have f := zA (zA (zA f br.below) bo.below) b0
 have cp : b7 < ai.heap.size := yA f
 have q := zA q b0
 have c3 : c5 < ai.heap.size := yA q
 have m := zA (zA (zA m br.below) bo.below) b0
 have b5 : co < ai.heap.size := yA m
 have o := zA (zA (zA o br.below) bo.below) b0
 have cd : eu < ai.heap.size := yA o
 have r := zA (zA r bo.below) b0
 have dj : ex < ai.heap.size := yA r
 have p := zA p b0
 have dk : dy < ai.heap.size := yA p
 have bi : c2 < ai.heap.size := yA a
 have y := y.tr b0
 have cy := y.size
 have f5 := y
 refine uL 66 [(pt c2 0)] (toldF text) zk (fun _ _ => rfl) (it_lines_Each_1 c2 text (by first | omega | assumption)) a ((fun D A B h hc hd => zU h hc (fun h => Nat.not_lt.2 (hd _ h) bi))) (by intro x; rfl) (fun K db A => ∃ (be : List Brk) (ca : List Int) (ml : List (Int × Brk)) (aq : Value) (af : Value), (A.heap[b1]? = some (.cells [(S file)].toArray 9 (0, 0))) ∧ (A.heap[b4]? = some (.cells [(.pointer none)].toArray 27 (0, 0))) ∧ (A.heap[b7]? = some (.cells [.nilIface].toArray 39 (0, 0))) ∧ (A.heap[c5]? = some (gmObj .i32 vBrk ml)) ∧ (A.heap[co]? = some (.cells [(.map (some c5)), (.map none)].toArray 69 (0, 0))) ∧ (A.heap[eu]? = some (.cells [(pt co 0)].toArray 27 (0, 0))) ∧ (A.heap[ex]? = some (.cells [aq].toArray 22 (0, 0))) ∧ (A.heap[dy]? = some (.cells [af].toArray 79 (0, 0))) ∧ (A.heap[c2]? = some (.cells [(S text)].toArray 9 (0, 0))) ∧ (Row A w.heap.size 26 3 encBrk aq be) ∧ (∀ g, Value.ownBlock aq = some g → ¬ Iv ai.heap.size K g) ∧ (Row A w.heap.size 3 1 encInt af ca) ∧ (∀ g, Value.ownBlock af = some g → ¬ Iv ai.heap.size K g) ∧ (Below w.heap.size w A) ∧ (ParI db be ca) ∧ (ml = kv be) ∧ (be.length ≤ db.length) ∧ (ca.length = be.length)) (fun K c db A => (∃ (bq : Nat) (no : Int) (e : Int), (c = .ret) ∧ (A.heap[b1]? = some (.cells [(S file)].toArray 9 (0, 0))) ∧ (A.heap[b4]? = some (.cells [(.pointer none)].toArray 27 (0, 0))) ∧ (A.heap[b7]? = some (.cells [(.iface 83 (pt bq 0))].toArray 39 (0, 0))) ∧ (A.heap[co]? = some (.cells [(.map (some c5)), (.map none)].toArray 69 (0, 0))) ∧ (A.heap[eu]? = some (.cells [(pt co 0)].toArray 27 (0, 0))) ∧ (A.heap[c2]? = some (.cells [(S text)].toArray 9 (0, 0))) ∧ (A.heap[bq]? = some (.cells [(S file), (I6 no), (I6 e)].toArray 85 (0, 0))) ∧ (w.heap.size ≤ bq) ∧ (¬ Iv ai.heap.size K bq) ∧ (Below w.heap.size w A) ∧ ((parF text).2 = (no, e)) ∧ (e ≠ 0))) ?_ ?_ ?_ ?_ ?_ ?_
 ·intro A hA
  exact ⟨[], [], [], (.slice none 0 0), (.slice none 0 0), zA i hA, zA b hA, zA f hA, zA q hA, zA m hA, zA o hA, zA r hA, zA p hA, zA a hA, Row.nil _ _ _ _ _, nr_nil _ _, Row.nil _ _ _ _ _, nr_nil _ _, y.trans (hA.mono y.size), by exact ParI.nil, by rfl, by exact Nat.le_refl _, by rfl⟩
 ·rintro K db A B ⟨be, ca, ml, aq, af, i, b, f, q, m, o, r, p, a, n, ad, j, ac, y, p1, p2, p3, p4⟩ hc
  exact ⟨be, ca, ml, aq, af, zU i hc (fun h => Nat.not_lt.2 h.1 cu), zU b hc (fun h => Nat.not_lt.2 h.1 ce), zU f hc (fun h => Nat.not_lt.2 h.1 cp), zU q hc (fun h => Nat.not_lt.2 h.1 c3), zU m hc (fun h => Nat.not_lt.2 h.1 b5), zU o hc (fun h => Nat.not_lt.2 h.1 cd), zU r hc (fun h => Nat.not_lt.2 h.1 dj), zU p hc (fun h => Nat.not_lt.2 h.1 dk), zU a hc (fun h => Nat.not_lt.2 h.1 bi), n.ch hc ad, ad, j.ch hc ac, ac, hc.below y y.size (fun k h => Nat.le_trans cy h.1), p1, p2, p3, p4⟩
 ·rintro K c db A B (⟨bq, no, e, fy, i, b, f, m, o, a, cz, d5, dq, y, q1, q2⟩) hc
  exact ⟨bq, no, e, fy, zU i hc (fun h => Nat.not_lt.2 h.1 cu), zU b hc (fun h => Nat.not_lt.2 h.1 ce), zU f hc (fun h => Nat.not_lt.2 h.1 cp), zU m hc (fun h => Nat.not_lt.2 h.1 b5), zU o hc (fun h => Nat.not_lt.2 h.1 cd), zU a hc (fun h => Nat.not_lt.2 h.1 bi), zU cz hc dq, d5, dq, hc.below y y.size (fun k h => Nat.le_trans cy h.1), q1, q2⟩
 ·intro l K db x A hi hN g6 hK cx
  obtain ⟨be, ca, ml, aq, af, i, b, f, q, m, o, r, p, a, n, ad, j, ac, y, p1, p2, p3, p4⟩ := hi
  have hk := Kp.refl (ai.heap.size) K A
  have e2 : ¬ Iv (ai.heap.size) K b1 := fun h => Nat.not_lt.2 h.1 cu
  have c8 : ¬ Iv (ai.heap.size) K b4 := fun h => Nat.not_lt.2 h.1 ce
  have c9 : ¬ Iv (ai.heap.size) K b7 := fun h => Nat.not_lt.2 h.1 cp
  have dv : ¬ Iv (ai.heap.size) K c5 := fun h => Nat.not_lt.2 h.1 c3
  have ew : ¬ Iv (ai.heap.size) K co := fun h => Nat.not_lt.2 h.1 b5
  have e1 : ¬ Iv (ai.heap.size) K eu := fun h => Nat.not_lt.2 h.1 cd
  have em : ¬ Iv (ai.heap.size) K ex := fun h => Nat.not_lt.2 h.1 dj
  have d2 : ¬ Iv (ai.heap.size) K dy := fun h => Nat.not_lt.2 h.1 dk
  have d4 : ¬ Iv (ai.heap.size) K c2 := fun h => Nat.not_lt.2 h.1 bi
  have a := hN
  have he := told_short (pre_mem cx)
  have fz := cx.length_le; rw [List.length_append, List.length_singleton] at fz
  have gp := told_len text
  have g9 := scan_flen x.1 x.2
  have fl := scan_parts (no := x.1) (s := x.2) 1073741824 zo
  refine wR (zN [(I6 0)] 3 ?_)
  intro ee hv ar
  have cc := yY (yA q) ar
  have ct := NE.symm cc
  have fg := ar.ge y.size
  have ej : ¬ Iv ai.heap.size K ee := fun h => by have := h.2; have := ar.num; omega
  have av := j.new_ne ar
  replace hk := hk.ch (Ch.of_below ar.below) hK (fun _ h => h.elim)
  replace hK := Nat.le_trans hK (ar.below.size)
  have u := ar.here
  refine z1 0 (I6 x.1) [(I6 x.1)] u ?_
  intro gq a0
  replace hk := hk.ch (Ch.of_wrote a0) hK (fun k e h => ej (e ▸ h))
  replace hK := Nat.le_trans hK (Nat.le_of_eq a0.size.symm)
  have i := zA i ar.below
  have i := zC i a0 (zJ i u zi)
  have b := zA b ar.below
  have b := zC b a0 (zJ b u zi)
  have f := zA f ar.below
  have f := zC f a0 (zJ f u zi)
  have m := zA m ar.below
  have m := zC m a0 (zJ m u zi)
  have o := zA o ar.below
  have o := zC o a0 (zJ o u zi)
  have r := zA r ar.below
  have r := zC r a0 (zJ r u zi)
  have p := zA p ar.below
  have p := zC p a0 (zJ p u zi)
  have a := zA a ar.below
  have a := zC a a0 (zJ a u zi)
  have n := n.below ar.below
  have n := n.wrote a0 (n.ne u zi)
  have u := a0.here
  refine nQ (zQ (zG (zR (zB ⟨hk, ?_⟩))))
  intro fr a6
  have y := (y.tr ar.below).trans (a0.below fg)
  have y := a6.below y y.size (fun k h => Nat.le_trans cy h.1)
  replace hK := Nat.le_trans hK a6.size
  replace hk := Kp.refl (ai.heap.size) K fr
  have u := zU u a6 ej
  refine zX (wR (zr (.func (.func 38) #[] #[(pt b1 0), (pt ee 0)]) (zG (nR (zO 0 u rfl (zD (zc (c_lines_Scan x.1 x.2 _ (by first | omega | assumption)) ?_)))))))
  rintro _ gx ⟨ed, rfl, au, a5⟩
  have e5 := nr_row (K0 := ai.heap.size) au hK
  have i := zU i a6 e2
  have ea := Row.nb_call au i
  have a := zU a a6 d4
  have dx := Row.nb_call au a
  have au := au.base y.size
  replace hk := hk.ch (Ch.of_below a5) hK (fun _ h => h.elim)
  replace hK := Nat.le_trans hK (a5.size)
  have := scan_err x.1 x.2
  refine zD (zr (Value.agg #[(I6 ((scanF x.1 x.2).1.1)), (U8 ((scanF x.1 x.2).1.2.1)), (S ((scanF x.1 x.2).1.2.2.1)), ed, (S ((scanF x.1 x.2).1.2.2.2.2))]) (zr (I6 ((scanF x.1 x.2).2)) (zN [(I6 0), (U8 0), (S []), (.slice none 0 0), (S [])] 90 ?_)))
  intro e8 gr ah
  have q := zA (zU (zC (zA q ar.below) a0 cc) a6 dv) a5
  have b8 := yY (yA q) ah
  have y := y.tr a5
  have de := ah.ge y.size
  have et : ¬ Iv ai.heap.size K e8 := fun h => by have := h.2; have := ah.num; omega
  replace hk := hk.ch (Ch.of_below ah.below) hK (fun _ h => h.elim)
  replace hK := Nat.le_trans hK (ah.below.size)
  have am := ah.here
  have au := au.below ah.below
  refine xP e8 0 [(I6 ((scanF x.1 x.2).1.1)), (U8 ((scanF x.1 x.2).1.2.1)), (S ((scanF x.1 x.2).1.2.2.1)), ed, (S ((scanF x.1 x.2).1.2.2.2.2))] [(I6 0), (U8 0), (S []), (.slice none 0 0), (S [])] [(I6 ((scanF x.1 x.2).1.1)), (U8 ((scanF x.1 x.2).1.2.1)), (S ((scanF x.1 x.2).1.2.2.1)), ed, (S ((scanF x.1 x.2).1.2.2.2.2))] 90 zk zk (xC rfl (xC rfl (xC rfl (xC au.one (xC rfl rfl))))) zk am zk rfl ?_
  intro hf ak
  replace hk := hk.ch (Ch.of_wrote ak) hK (fun k e h => et (e ▸ h))
  replace hK := Nat.le_trans hK (Nat.le_of_eq ak.size.symm)
  have i := zA (zA i a5) ah.below
  have i := zC i ak (zJ i am zi)
  have b := zA (zA (zU b a6 c8) a5) ah.below
  have b := zC b ak (zJ b am zi)
  have f := zA (zA (zU f a6 c9) a5) ah.below
  have f := zC f ak (zJ f am zi)
  have m := zA (zA (zU m a6 ew) a5) ah.below
  have m := zC m ak (zJ m am zi)
  have o := zA (zA (zU o a6 e1) a5) ah.below
  have o := zC o ak (zJ o am zi)
  have r := zA (zA (zU r a6 em) a5) ah.below
  have r := zC r ak (zJ r am zi)
  have p := zA (zA (zU p a6 d2) a5) ah.below
  have p := zC p ak (zJ p am zi)
  have a := zA (zA a a5) ah.below
  have a := zC a ak (zJ a am zi)
  have u := zA (zA u a5) ah.below
  have u := zC u ak (zJ u am zi)
  have n := ((n.ch a6 ad).below a5).below ah.below
  have n := n.wrote ak (n.ne am zi)
  have j := ((((j.below ar.below).wrote a0 av).ch a6 ac).below a5).below ah.below
  have j := j.wrote ak (j.ne am zi)
  have au := au.wrote ak (au.ne am zi)
  have am := ak.here
  refine zG (nW (wR (zD (zNe .i64 ((scanF x.1 x.2).2) 0 ?_ ?_))))
  ·intro hw
   refine nQ (zT (wR (zD (zD (L_inline 38 [(I6 ((scanF x.1 x.2).2)), (pt b1 0), (pt ee 0)] zk zk (wI 11 func38 rfl (wR (zG (nR (zO 0 i rfl (zO 0 u rfl (zD (zr (Value.agg #[(S file), (I6 x.1), (I6 ((scanF x.1 x.2).2))]) (zN [(S file), (I6 x.1), (I6 ((scanF x.1 x.2).2))] 85 ?_))))))))))))))
   intro dr gz bl
   have y := (y.tr ah.below).trans (ak.below de)
   have ek := bl.ge y.size
   have d1 : ¬ Iv ai.heap.size K dr := fun h => by have := h.2; have := bl.num; omega
   replace hk := hk.ch (Ch.of_below bl.below) hK (fun _ h => h.elim)
   replace hK := Nat.le_trans hK (bl.below.size)
   have a3 := bl.here
   refine zr (.iface 83 (pt dr 0)) (zG (nQ (zS (yC [(.iface 83 (pt dr 0))] ?_))))
   show L _ _ _ _ _ _ (Fm.put _ _ (.iface 83 (pt dr 0))) _
   have b := zA b bl.below
   refine z1 0 (.pointer none) [(.pointer none)] b ?_
   intro hg bu
   replace hk := hk.ch (Ch.of_wrote bu) hK (fun k e h => c8 (e ▸ h))
   replace hK := Nat.le_trans hK (Nat.le_of_eq bu.size.symm)
   have i := zA i bl.below
   have i := zC i bu (zJ i b zi)
   have f := zA f bl.below
   have f := zC f bu (zJ f b zi)
   have m := zA m bl.below
   have m := zC m bu (zJ m b zi)
   have a := zA a bl.below
   have a := zC a bu (zJ a b zi)
   have a3 := zC a3 bu (zJ a3 b zi)
   have b := bu.here
   refine z1 0 (.iface 83 (pt dr 0)) [(.iface 83 (pt dr 0))] f ?_
   intro gy bt
   replace hk := hk.ch (Ch.of_wrote bt) hK (fun k e h => c9 (e ▸ h))
   replace hK := Nat.le_trans hK (Nat.le_of_eq bt.size.symm)
   have i := zC i bt (zJ i f zi)
   have b := zC b bt (zJ b f zi)
   have m := zC m bt (zJ m f zi)
   have o := zC (zA o bl.below) bu b3
   have o := zC o bt (zJ o f zi)
   have a := zC a bt (zJ a f zi)
   have a3 := zC a3 bt (zJ a3 f zi)
   have f := bt.here
   refine nQ (zS (zH (zP ?_)))
   have y := ((y.tr bl.below).trans (bu.below dh)).trans (bt.below dg)
   refine round_ret hk (⟨dr, x.1, ((scanF x.1 x.2).2), rfl, i, b, f, m, o, a, a3, ek, d1, y, ?_, ?_⟩)
   ·exact par_scan p1 cx za
   assumption
  intro gs
  refine nQ (zF (zK (zB (wR (zOW am ?_)))))
  by_cases ga : (readB ((scanF x.1 x.2).1.2.1) ((scanF x.1 x.2).1.2.2.2.1)).2.2 = 0
  ·skip
   refine zc (c_read_ok ((scanF x.1 x.2).1.1) ((scanF x.1 x.2).1.2.1) ((scanF x.1 x.2).1.2.2.1) ed ((scanF x.1 x.2).1.2.2.2.1) ((scanF x.1 x.2).1.2.2.2.2) _ au.rd (by exact fl.1) zo (by first | omega | assumption)) ?_
   rintro _ gm ⟨rfl, ae⟩
   replace hk := hk.ch (Ch.of_below ae) hK (fun _ h => h.elim)
   replace hK := Nat.le_trans hK (ae.size)
   refine zD (zr (Value.agg #[(I3 ((readB ((scanF x.1 x.2).1.2.1) ((scanF x.1 x.2).1.2.2.2.1)).1.1)), (I3 ((readB ((scanF x.1 x.2).1.2.1) ((scanF x.1 x.2).1.2.2.2.1)).1.2.1)), (U8 ((readB ((scanF x.1 x.2).1.2.1) ((scanF x.1 x.2).1.2.2.2.1)).1.2.2))]) (zr (.bool ((readB ((scanF x.1 x.2).1.2.1) ((scanF x.1 x.2).1.2.2.2.1)).2.1)) (yK ((readB ((scanF x.1 x.2).1.2.1) ((scanF x.1 x.2).1.2.2.2.1)).2.1) ?_ ?_)))
   ·intro g8
    refine zr .nilIface (zN [(I3 0), (I3 0), (U8 0)] 26 ?_)
    intro fs g7 an
    have q := zA (zC (zA q ah.below) ak b8) ae
    have a9 := yY (yA q) an
    have dl := NE.symm a9
    have y := ((y.tr ah.below).trans (ak.below de)).tr ae
    have cl := an.ge y.size
    have b2 : ¬ Iv ai.heap.size K fs := fun h => by have := h.2; have := an.num; omega
    have n := n.below ae
    have z := n.new_ne an
    replace hk := hk.ch (Ch.of_below an.below) hK (fun _ h => h.elim)
    replace hK := Nat.le_trans hK (an.below.size)
    have t := an.here
    refine wG [(I3 ((readB ((scanF x.1 x.2).1.2.1) ((scanF x.1 x.2).1.2.2.2.1)).1.1)), (I3 ((readB ((scanF x.1 x.2).1.2.1) ((scanF x.1 x.2).1.2.2.2.1)).1.2.1)), (U8 ((readB ((scanF x.1 x.2).1.2.1) ((scanF x.1 x.2).1.2.2.2.1)).1.2.2))] t ?_
    intro gw ax
    replace hk := hk.ch (Ch.of_wrote ax) hK (fun k e h => b2 (e ▸ h))
    replace hK := Nat.le_trans hK (Nat.le_of_eq ax.size.symm)
    have i := zA (zA i ae) an.below
    have i := zC i ax (zJ i t zi)
    have b := zA (zA b ae) an.below
    have b := zC b ax (zJ b t zi)
    have f := zA (zA f ae) an.below
    have f := zC f ax (zJ f t zi)
    have m := zA (zA m ae) an.below
    have m := zC m ax (zJ m t zi)
    have o := zA (zA o ae) an.below
    have o := zC o ax (zJ o t zi)
    have r := zA (zA r ae) an.below
    have r := zC r ax (zJ r t zi)
    have p := zA (zA p ae) an.below
    have p := zC p ax (zJ p t zi)
    have a := zA (zA a ae) an.below
    have a := zC a ax (zJ a t zi)
    have u := zA (zA u ae) an.below
    have u := zC u ax (zJ u t zi)
    have j := (j.below ae).below an.below
    have j := j.wrote ax (j.ne t zi)
    have t := ax.here
    have y := (y.tr an.below).trans (ax.below cl)
    have q := zC (zA q an.below) ax a9
    refine zG (zG (nW (wR (zD (zr (.bool false) (nQ (zF (zK (zB (zY (wR (zD (wW true (nQ (zF (zK (zB (zY (wR (zO 0 o rfl (zOW t (zc (c_add co c5 ml (.map none) ((readB ((scanF x.1 x.2).1.2.1) ((scanF x.1 x.2).1.2.2.2.1)).1.1) ((readB ((scanF x.1 x.2).1.2.1) ((scanF x.1 x.2).1.2.2.2.1)).1.2.1) ((readB ((scanF x.1 x.2).1.2.1) ((scanF x.1 x.2).1.2.2.2.1)).1.2.2) w.heap.size _ y.size m q d6) ?_))))))))))))))))))))))
    rintro _ gu ⟨rfl, ff, aj⟩
    replace hk := hk.ch aj hK (fun k e h => dv (e ▸ h))
    replace hK := Nat.le_trans hK aj.size
    have y := aj.below y y.size (fun k e => e ▸ d6)
    have n := (n.below an.below).wrote ax z
    have n := n.ch aj (fun g e d => (n.ne q (by simp [gmObj])) (d ▸ e))
    have j := j.ch aj (fun g e d => (j.ne q (by simp [gmObj])) (d ▸ e))
    have q := ff
    refine zG (nR (zD (zNe .i64 (addE ml (((readB ((scanF x.1 x.2).1.2.1) ((scanF x.1 x.2).1.2.2.2.1)).1.1), ((readB ((scanF x.1 x.2).1.2.1) ((scanF x.1 x.2).1.2.2.2.1)).1.2.1), ((readB ((scanF x.1 x.2).1.2.1) ((scanF x.1 x.2).1.2.2.2.1)).1.2.2))) 0 ?_ ?_)))
    ·intro hp
     refine nQ (zT (wR (zD (zD (L_inline 38 [(I6 (addE ml (((readB ((scanF x.1 x.2).1.2.1) ((scanF x.1 x.2).1.2.2.2.1)).1.1), ((readB ((scanF x.1 x.2).1.2.1) ((scanF x.1 x.2).1.2.2.2.1)).1.2.1), ((readB ((scanF x.1 x.2).1.2.1) ((scanF x.1 x.2).1.2.2.2.1)).1.2.2)))), (pt b1 0), (pt ee 0)] zk zk (wI 11 func38 rfl ?_))))))
     have i := zU i aj (fun e => cj e)
     have u := zU u aj (fun e => ct e)
     refine wR (zG (nR (zO 0 i rfl (zO 0 u rfl (zD (zr (Value.agg #[(S file), (I6 x.1), (I6 (addE ml (((readB ((scanF x.1 x.2).1.2.1) ((scanF x.1 x.2).1.2.2.2.1)).1.1), ((readB ((scanF x.1 x.2).1.2.1) ((scanF x.1 x.2).1.2.2.2.1)).1.2.1), ((readB ((scanF x.1 x.2).1.2.1) ((scanF x.1 x.2).1.2.2.2.1)).1.2.2))))]) (zN [(S file), (I6 x.1), (I6 (addE ml (((readB ((scanF x.1 x.2).1.2.1) ((scanF x.1 x.2).1.2.2.2.1)).1.1), ((readB ((scanF x.1 x.2).1.2.1) ((scanF x.1 x.2).1.2.2.2.1)).1.2.1), ((readB ((scanF x.1 x.2).1.2.1) ((scanF x.1 x.2).1.2.2.2.1)).1.2.2))))] 85 ?_)))))))
     intro dt gn bk
     have ec := bk.ge y.size
     have dz : ¬ Iv ai.heap.size K dt := fun h => by have := h.2; have := bk.num; omega
     replace hk := hk.ch (Ch.of_below bk.below) hK (fun _ h => h.elim)
     replace hK := Nat.le_trans hK (bk.below.size)
     have ay := bk.here
     refine zr (.iface 83 (pt dt 0)) (zG (nQ (zS (yC [(.iface 83 (pt dt 0))] ?_))))
     show L _ _ _ _ _ _ (Fm.put _ _ (.iface 83 (pt dt 0))) _
     have b := zA (zU b aj (fun e => cv e)) bk.below
     refine z1 0 (.pointer none) [(.pointer none)] b ?_
     intro hy bv
     replace hk := hk.ch (Ch.of_wrote bv) hK (fun k e h => c8 (e ▸ h))
     replace hK := Nat.le_trans hK (Nat.le_of_eq bv.size.symm)
     have i := zA i bk.below
     have i := zC i bv (zJ i b zi)
     have f := zA (zU f aj (fun e => cm e)) bk.below
     have f := zC f bv (zJ f b zi)
     have m := zA (zU m aj (fun e => b6 e)) bk.below
     have m := zC m bv (zJ m b zi)
     have a := zA (zU a aj (fun e => bz e)) bk.below
     have a := zC a bv (zJ a b zi)
     have ay := zC ay bv (zJ ay b zi)
     have b := bv.here
     refine z1 0 (.iface 83 (pt dt 0)) [(.iface 83 (pt dt 0))] f ?_
     intro gv bs
     replace hk := hk.ch (Ch.of_wrote bs) hK (fun k e h => c9 (e ▸ h))
     replace hK := Nat.le_trans hK (Nat.le_of_eq bs.size.symm)
     have i := zC i bs (zJ i f zi)
     have b := zC b bs (zJ b f zi)
     have m := zC m bs (zJ m f zi)
     have o := zC (zA (zU o aj (fun e => cf e)) bk.below) bv b3
     have o := zC o bs (zJ o f zi)
     have a := zC a bs (zJ a f zi)
     have ay := zC ay bs (zJ ay f zi)
     have f := bs.here
     refine nQ (zS (zH (zP ?_)))
     have y := ((y.tr bk.below).trans (bv.below dh)).trans (bs.below dg)
     refine round_ret hk (⟨dt, x.1, (addE ml (((readB ((scanF x.1 x.2).1.2.1) ((scanF x.1 x.2).1.2.2.2.1)).1.1), ((readB ((scanF x.1 x.2).1.2.1) ((scanF x.1 x.2).1.2.2.2.1)).1.2.1), ((readB ((scanF x.1 x.2).1.2.1) ((scanF x.1 x.2).1.2.2.2.1)).1.2.2))), rfl, i, b, f, m, o, a, ay, ec, dz, y, ?_, ?_⟩)
     ·exact par_add2 p1 cx p2 za za za za
     assumption
    intro g5
    have t := zU t aj (fun e => dl e)
    have r := zU r aj (fun e => du e)
    refine nQ (zF (zK (zB (wR (zO 0 r rfl (zOW t (xW qJ w.heap.size aq be ((readB ((scanF x.1 x.2).1.2.1) ((scanF x.1 x.2).1.2.2.2.1)).1.1, (readB ((scanF x.1 x.2).1.2.1) ((scanF x.1 x.2).1.2.2.2.1)).1.2.1, (readB ((scanF x.1 x.2).1.2.1) ((scanF x.1 x.2).1.2.2.2.1)).1.2.2) y.size n zo zk rfl rfl zk rfl zk zk ?_)))))))
    intro ey hj fc a7 d8
    have ef := nr_app d8 ad hK
    have dw := wM d8 z (yA t)
    have y := y.tg y.size a7 n
    replace hk := hk.ch (Ch.of_grown a7) hK (fun k e => ad k e)
    replace hK := Nat.le_trans hK (a7.size)
    have i := zU i aj (fun e => cj e)
    have i := yG i a7 (n.ne i zi)
    have b := zU b aj (fun e => cv e)
    have b := yG b a7 (n.ne b zi)
    have f := zU f aj (fun e => cm e)
    have f := yG f a7 (n.ne f zi)
    have q := yG q a7 (n.ne q (by simp [gmObj]))
    have m := zU m aj (fun e => b6 e)
    have m := yG m a7 (n.ne m zi)
    have o := zU o aj (fun e => cf e)
    have o := yG o a7 (n.ne o zi)
    have r := yG r a7 (n.ne r zi)
    have p := zU p aj (fun e => dn e)
    have p := yG p a7 (n.ne p zi)
    have a := zU a aj (fun e => bz e)
    have a := yG a a7 (n.ne a zi)
    have u := zU u aj (fun e => ct e)
    have u := yG u a7 (n.ne u zi)
    have j := j.grown a7 (j.apart n zk)
    have z := dw
    have n := fc
    have ad := ef; clear ef
    refine wL ex 0 ey [aq] [ey] 22 zk zk n.one zk r zi rfl ?_
    intro ho a1
    replace hk := hk.ch (Ch.of_wrote a1) hK (fun k e h => em (e ▸ h))
    replace hK := Nat.le_trans hK (Nat.le_of_eq a1.size.symm)
    have i := zC i a1 (zJ i r zi)
    have b := zC b a1 (zJ b r zi)
    have f := zC f a1 (zJ f r zi)
    have m := zC m a1 (zJ m r zi)
    have o := zC o a1 (zJ o r zi)
    have p := zC p a1 (zJ p r zi)
    have a := zC a a1 (zJ a r zi)
    have u := zC u a1 (zJ u r zi)
    have n := n.wrote a1 (n.ne r zi)
    have j := j.wrote a1 (j.ne r zi)
    have r := a1.here
    have y := y.trans (a1.below fb)
    refine nQ (zQ (zO 0 p rfl (zO 0 u rfl (xW el79 w.heap.size af ca x.1 y.size j zo zk rfl rfl zk rfl zk zk ?_))))
    intro e3 go fk bg eg
    have ef := nr_app eg ac hK
    have d3 := wM eg av (yA u)
    have y := y.tg y.size bg j
    replace hk := hk.ch (Ch.of_grown bg) hK (fun k e => ac k e)
    replace hK := Nat.le_trans hK (bg.size)
    have i := yG i bg (j.ne i zi)
    have b := yG b bg (j.ne b zi)
    have f := yG f bg (j.ne f zi)
    have q := zC q a1 cn
    have q := yG q bg (j.ne q (by simp [gmObj]))
    have m := yG m bg (j.ne m zi)
    have o := yG o bg (j.ne o zi)
    have r := yG r bg (j.ne r zi)
    have p := yG p bg (j.ne p zi)
    have a := yG a bg (j.ne a zi)
    have n := n.grown bg (n.apart j zk)
    have av := d3
    have j := fk
    have ac := ef; clear ef
    refine wL dy 0 e3 [af] [e3] 79 zk zk j.one zk p zi rfl ?_
    intro hh ba
    replace hk := hk.ch (Ch.of_wrote ba) hK (fun k e h => d2 (e ▸ h))
    replace hK := Nat.le_trans hK (Nat.le_of_eq ba.size.symm)
    have i := zC i ba (zJ i p zi)
    have b := zC b ba (zJ b p zi)
    have f := zC f ba (zJ f p zi)
    have m := zC m ba (zJ m p zi)
    have o := zC o ba (zJ o p zi)
    have r := zC r ba (zJ r p zi)
    have a := zC a ba (zJ a p zi)
    have n := n.wrote ba (n.ne p zi)
    have j := j.wrote ba (j.ne p zi)
    have p := ba.here
    refine zR (zI ?_)
    have y := y.trans (ba.below fe)
    have q := zC q ba cw
    refine wA hk a ⟨(be ++ [((readB ((scanF x.1 x.2).1.2.1) ((scanF x.1 x.2).1.2.2.2.1)).1.1, (readB ((scanF x.1 x.2).1.2.1) ((scanF x.1 x.2).1.2.2.2.1)).1.2.1, (readB ((scanF x.1 x.2).1.2.1) ((scanF x.1 x.2).1.2.2.2.1)).1.2.2)]), (ca ++ [x.1]), (addM ml (((readB ((scanF x.1 x.2).1.2.1) ((scanF x.1 x.2).1.2.2.2.1)).1.1), ((readB ((scanF x.1 x.2).1.2.1) ((scanF x.1 x.2).1.2.2.2.1)).1.2.1), ((readB ((scanF x.1 x.2).1.2.1) ((scanF x.1 x.2).1.2.2.2.1)).1.2.2))), ey, e3, i, b, f, q, m, o, r, p, a, n, ad, j, ac, y, ?_, ?_, ?_, ?_⟩
    ·exact ParI.add p1 za za za (add_kv p2 za)
    ·exact addM_kv p2 za
    ·(simp only [List.length_append, List.length_cons, List.length_nil]; omega)
    (simp only [List.length_append, List.length_cons, List.length_nil]; omega)
   intro ha
   refine zr .nilIface (zN [(I3 0), (I3 0), (U8 0)] 26 ?_)
   intro fq hu ao
   have q := zA (zC (zA q ah.below) ak b8) ae
   have a9 := yY (yA q) ao
   have y := ((y.tr ah.below).trans (ak.below de)).tr ae
   have cl := ao.ge y.size
   have b2 : ¬ Iv ai.heap.size K fq := fun h => by have := h.2; have := ao.num; omega
   have n := n.below ae
   have z := n.new_ne ao
   replace hk := hk.ch (Ch.of_below ao.below) hK (fun _ h => h.elim)
   replace hK := Nat.le_trans hK (ao.below.size)
   have t := ao.here
   refine wG [(I3 ((readB ((scanF x.1 x.2).1.2.1) ((scanF x.1 x.2).1.2.2.2.1)).1.1)), (I3 ((readB ((scanF x.1 x.2).1.2.1) ((scanF x.1 x.2).1.2.2.2.1)).1.2.1)), (U8 ((readB ((scanF x.1 x.2).1.2.1) ((scanF x.1 x.2).1.2.2.2.1)).1.2.2))] t ?_
   intro hr a8
   replace hk := hk.ch (Ch.of_wrote a8) hK (fun k e h => b2 (e ▸ h))
   replace hK := Nat.le_trans hK (Nat.le_of_eq a8.size.symm)
   have i := zA (zA i ae) ao.below
   have i := zC i a8 (zJ i t zi)
   have b := zA (zA b ae) ao.below
   have b := zC b a8 (zJ b t zi)
   have f := zA (zA f ae) ao.below
   have f := zC f a8 (zJ f t zi)
   have m := zA (zA m ae) ao.below
   have m := zC m a8 (zJ m t zi)
   have o := zA (zA o ae) ao.below
   have o := zC o a8 (zJ o t zi)
   have r := zA (zA r ae) ao.below
   have r := zC r a8 (zJ r t zi)
   have p := zA (zA p ae) ao.below
   have p := zC p a8 (zJ p t zi)
   have a := zA (zA a ae) ao.below
   have a := zC a a8 (zJ a t zi)
   have j := (j.below ae).below ao.below
   have j := j.wrote a8 (j.ne t zi)
   refine zG (zG (nW (wR (zD (zr (.bool false) (nQ (zF (zK (zB (zY (wR (zD (wW false (nQ (zT (yH (zL (yB ?_))))))))))))))))))
   have y := (y.tr ao.below).trans (a8.below cl)
   have q := zC (zA q ao.below) a8 a9
   have n := (n.below ao.below).wrote a8 z
   refine wA hk a ⟨be, ca, ml, aq, af, i, b, f, q, m, o, r, p, a, n, ad, j, ac, y, ?_, ?_, ?_, ?_⟩
   ·exact ParI.skip p1 za za za
   ·exact p2
   ·(simp only [List.length_append, List.length_cons, List.length_nil]; omega)
   exact p4
  skip
  refine zc (c_read_bad ((scanF x.1 x.2).1.1) ((scanF x.1 x.2).1.2.1) ((scanF x.1 x.2).1.2.2.1) ed ((scanF x.1 x.2).1.2.2.2.1) ((scanF x.1 x.2).1.2.2.2.2) _ au.rd (by exact fl.1) zo (by first | omega | assumption)) ?_
  rintro _ ht ⟨rfl, bm⟩
  replace hk := hk.ch (Ch.of_below bm) hK (fun _ h => h.elim)
  replace hK := Nat.le_trans hK (bm.size)
  refine zD (zr (Value.agg #[(I3 0), (I3 0), (U8 0)]) (zr (.bool false) (zr (.iface 28 (I6 ((readB ((scanF x.1 x.2).1.2.1) ((scanF x.1 x.2).1.2.2.2.1)).2.2))) (zN [(I3 0), (I3 0), (U8 0)] 26 ?_))))
  intro e7 gb ap
  have y := ((y.tr ah.below).trans (ak.below de)).tr bm
  have cl := ap.ge y.size
  have b2 : ¬ Iv ai.heap.size K e7 := fun h => by have := h.2; have := ap.num; omega
  have n := n.below bm
  have z := n.new_ne ap
  replace hk := hk.ch (Ch.of_below ap.below) hK (fun _ h => h.elim)
  replace hK := Nat.le_trans hK (ap.below.size)
  have t := ap.here
  refine wG [(I3 0), (I3 0), (U8 0)] t ?_
  intro gk bd
  replace hk := hk.ch (Ch.of_wrote bd) hK (fun k e h => b2 (e ▸ h))
  replace hK := Nat.le_trans hK (Nat.le_of_eq bd.size.symm)
  have i := zA (zA i bm) ap.below
  have i := zC i bd (zJ i t zi)
  have b := zA (zA b bm) ap.below
  have b := zC b bd (zJ b t zi)
  have f := zA (zA f bm) ap.below
  have f := zC f bd (zJ f t zi)
  have m := zA (zA m bm) ap.below
  have m := zC m bd (zJ m t zi)
  have o := zA (zA o bm) ap.below
  have o := zC o bd (zJ o t zi)
  have a := zA (zA a bm) ap.below
  have a := zC a bd (zJ a t zi)
  have u := zA (zA u bm) ap.below
  have u := zC u bd (zJ u t zi)
  have y := (y.tr ap.below).trans (bd.below cl)
  refine zG (zG (nW (wR (zD (zr (.bool true) (nQ (zT (wR (zD (zD (zc (c_code ((readB ((scanF x.1 x.2).1.2.1) ((scanF x.1 x.2).1.2.2.2.1)).2.2) _ (qL hty y)) ?_)))))))))))
  rintro _ f1 ⟨rfl, bf⟩
  replace hk := hk.ch (Ch.of_below bf) hK (fun _ h => h.elim)
  replace hK := Nat.le_trans hK (bf.size)
  refine L_inline 38 [(I6 ((readB ((scanF x.1 x.2).1.2.1) ((scanF x.1 x.2).1.2.2.2.1)).2.2)), (pt b1 0), (pt ee 0)] zk zk (wI 11 func38 rfl ?_)
  have i := zA i bf
  have u := zA u bf
  refine wR (zG (nR (zO 0 i rfl (zO 0 u rfl (zD (zr (Value.agg #[(S file), (I6 x.1), (I6 ((readB ((scanF x.1 x.2).1.2.1) ((scanF x.1 x.2).1.2.2.2.1)).2.2))]) (zN [(S file), (I6 x.1), (I6 ((readB ((scanF x.1 x.2).1.2.1) ((scanF x.1 x.2).1.2.2.2.1)).2.2))] 85 ?_)))))))
  intro cq f6 aw
  have y := y.tr bf
  have eb := aw.ge y.size
  have d0 : ¬ Iv ai.heap.size K cq := fun h => by have := h.2; have := aw.num; omega
  replace hk := hk.ch (Ch.of_below aw.below) hK (fun _ h => h.elim)
  replace hK := Nat.le_trans hK (aw.below.size)
  have a2 := aw.here
  refine zr (.iface 83 (pt cq 0)) (zG (nQ (zS (yC [(.iface 83 (pt cq 0))] ?_))))
  show L _ _ _ _ _ _ (Fm.put _ _ (.iface 83 (pt cq 0))) _
  have b := zA (zA b bf) aw.below
  refine z1 0 (.pointer none) [(.pointer none)] b ?_
  intro gd bb
  replace hk := hk.ch (Ch.of_wrote bb) hK (fun k e h => c8 (e ▸ h))
  replace hK := Nat.le_trans hK (Nat.le_of_eq bb.size.symm)
  have i := zA i aw.below
  have i := zC i bb (zJ i b zi)
  have f := zA (zA f bf) aw.below
  have f := zC f bb (zJ f b zi)
  have m := zA (zA m bf) aw.below
  have m := zC m bb (zJ m b zi)
  have a := zA (zA a bf) aw.below
  have a := zC a bb (zJ a b zi)
  have a2 := zC a2 bb (zJ a2 b zi)
  have b := bb.here
  refine z1 0 (.iface 83 (pt cq 0)) [(.iface 83 (pt cq 0))] f ?_
  intro gh bc
  replace hk := hk.ch (Ch.of_wrote bc) hK (fun k e h => c9 (e ▸ h))
  replace hK := Nat.le_trans hK (Nat.le_of_eq bc.size.symm)
  have i := zC i bc (zJ i f zi)
  have b := zC b bc (zJ b f zi)
  have m := zC m bc (zJ m f zi)
  have o := zC (zA (zA o bf) aw.below) bb b3
  have o := zC o bc (zJ o f zi)
  have a := zC a bc (zJ a f zi)
  have a2 := zC a2 bc (zJ a2 f zi)
  have f := bc.here
  refine nQ (zS (zH (zP ?_)))
  have y := ((y.tr aw.below).trans (bb.below dh)).trans (bc.below dg)
  refine round_ret hk (⟨cq, x.1, ((readB ((scanF x.1 x.2).1.2.1) ((scanF x.1 x.2).1.2.2.2.1)).2.2), rfl, i, b, f, m, o, a, a2, eb, d0, y, ?_, ?_⟩)
  ·exact par_read p1 cx za za
  assumption
 ·intro K A hi ft aa
  obtain ⟨be, ca, ml, aq, af, i, b, f, q, m, o, r, p, a, n, ad, j, ac, y, p1, p2, p3, p4⟩ := hi
  refine zI (zB (zY (wR (zO 0 r rfl (zO 0 o rfl (zr (.func (.func 30) #[(pt co 0)] #[]) (zc (c_idx aq be co c5 ml (.map none) [] _ n.rd m (GmAt.of q) (.inl ⟨rfl, rfl⟩) (by (have := told_len text; omega))) ?_)))))))
  rintro _ gf ⟨rfl, a4⟩
  refine zG (nR (zD (zGe .i64 (idxL ml be) 0 ?_ ?_)))
  ·intro f2
   have g4 := idxL_bd ml be
   refine nQ (zT (zY (W_heldJ 9 10 zk zk zk ?_)))
   intro gc az
   refine ⟨fun w => (w.heap[b1]? = some (.cells [(S file)].toArray 9 (0, 0))) ∧ (w.heap[dy]? = some (.cells [af].toArray 79 (0, 0))) ∧ (Rd w encInt af ca), ?_⟩
   have i := zA (zA i a4) az
   have p := zA (zA p a4) az
   have j := (j.below a4).below az
   refine jt 0 [0, 5, 6, 7, 9] rfl (S file) ⟨i, p, j.rd⟩ (yR b1 0 (S file) zk zf (fun w2 h2 => zW h2.1 rfl)) (jt 1 [1, 3, 4, 5, 6, 7, 9] rfl af ⟨i, p, j.rd⟩ (yR dy 0 af zk zf (fun w2 h2 => zW h2.2.1 rfl)) (jp 2 [2, 3, 4, 5, 6, 7, 9] rfl (I6 (idxL ml be)) ⟨i, p, j.rd⟩ ?_))
   have hz := zV ca ((idxL ml be).toNat) (by first | omega | assumption); obtain ⟨di, eh⟩ := hz
   have hz := (j.rd).at (k := 1) zj eh; obtain ⟨el, df, en, fw⟩ := hz
   refine jt 3 [3, 4, 5, 6, 7, 9] rfl (pt el (df + ((idxL ml be).toNat) * 1)) ⟨i, p, j.rd⟩ (R_ixaddrZ (k := .i64) af (idxL ml be) ((idxL ml be).toNat) _ el df zo el79 en (by first | omega | assumption) zk zk) (jt 4 [4, 5, 6, 7, 9] rfl (I6 di) ⟨i, p, j.rd⟩ (yR el (df + ((idxL ml be).toNat) * 1) (I6 di) zk zf (fun w2 h2 => Rd.later (k := 1) h2.2.2 zj en eh 0 _ rfl)) (jp 5 [5, 6, 7, 9] rfl (Value.agg #[(S file), (I6 di), (I6 82)]) ⟨i, p, j.rd⟩ (hrun := fun _ _ => zk) ?_))
   refine J_all2 6 8 zk ?_ ?_
   ·skip
    refine J_op 6 rfl ?_ rfl
    refine zN [(S file), (I6 di), (I6 82)] 85 ?_
    intro c1 f9 bh
    have y := (y.tr a4).tr az
    have dp := bh.ge y.size
    have ag := bh.here
    refine zR ?_
    have i := zA i bh.below
    have p := zA p bh.below
    have j := j.below bh.below
    refine ⟨rfl, .inr ⟨i, p, j.rd⟩, jp 7 [7, 9] rfl (.iface 83 (pt c1 0)) ⟨i, p, j.rd⟩ (J_all1 8 zk (J_op 8 rfl ?_ rfl))⟩
    have b := zA (zA (zA b a4) az) bh.below
    refine z1 0 (.pointer none) [(.pointer none)] b ?_
    intro gi bn
    have i := zC i bn (zJ i b zi)
    have f := zA (zA (zA f a4) az) bh.below
    have f := zC f bn (zJ f b zi)
    have p := zC p bn (zJ p b zi)
    have aa := zA (zA (zA aa a4) az) bh.below
    have aa := zC aa bn (zJ aa b zi)
    have ag := zC ag bn (zJ ag b zi)
    have j := j.wrote bn (j.ne b zi)
    have b := bn.here
    refine zR ?_
    refine ⟨rfl, .inr ⟨i, p, j.rd⟩, J_all1 9 zk (J_op 9 rfl ?_ rfl)⟩
    refine z1 0 (.iface 83 (pt c1 0)) [(.iface 83 (pt c1 0))] f ?_
    intro f0 cs
    have b := zC b cs (zJ b f zi)
    have aa := zC aa cs (zJ aa f zi)
    have ag := zC ag cs (zJ ag f zi)
    have f := cs.here
    refine zR ?_
    refine ⟨rfl, .inl rfl, J_done zk (zB (zS (zH (wQ (ds := [⟨.collected ai.heap.size, #[]⟩]) zk (wF aa ?_)))))⟩
    intro fa c7
    have b := zC b c7 (zJ b aa zi)
    have f := zC f c7 (zJ f aa zi)
    have ag := zC ag c7 (zJ ag aa zi)
    refine vQ [.cell 4 27, .cell 5 39] [(.pointer none), (.iface 83 (pt c1 0))] rfl ⟨⟨⟨b4, 0, none⟩, zk, wH zk (zW b rfl)⟩, ⟨⟨b7, 0, none⟩, zk, wH zk (zW f rfl)⟩, trivial⟩ ?_
    have oE : fa.heap[c1]? = some (.cells [(S file), (I6 ((parF text).2.1)), (I6 ((parF text).2.2))].toArray 85 (0, 0)) := by (rw [par_lone3 p1 p2 za za]; exact ag)
    have y := (((y.tr bh.below).trans (bn.below dh)).trans (cs.below dg)).trans (c7.below cy)
    exact ⟨c1, rfl, oE, dp, y⟩
   skip
   refine J_op 8 rfl ?_ rfl
   have b := zA (zA b a4) az
   refine z1 0 (.pointer none) [(.pointer none)] b ?_
   intro f7 bw
   have i := zC i bw (zJ i b zi)
   have f := zA (zA f a4) az
   have f := zC f bw (zJ f b zi)
   have p := zC p bw (zJ p b zi)
   have aa := zA (zA aa a4) az
   have aa := zC aa bw (zJ aa b zi)
   have j := j.wrote bw (j.ne b zi)
   have b := bw.here
   refine zR ?_
   refine ⟨rfl, .inr ⟨i, p, j.rd⟩, J_all1 6 zk (J_op 6 rfl ?_ rfl)⟩
   refine zN [(S file), (I6 di), (I6 82)] 85 ?_
   intro c0 f3 bj
   have y := ((y.tr a4).tr az).trans (bw.below dh)
   have dp := bj.ge y.size
   have ag := bj.here
   refine zR ?_
   have i := zA i bj.below
   have p := zA p bj.below
   have j := j.below bj.below
   refine ⟨rfl, .inr ⟨i, p, j.rd⟩, jp 7 [7, 9] rfl (.iface 83 (pt c0 0)) ⟨i, p, j.rd⟩ (J_all1 9 zk (J_op 9 rfl ?_ rfl))⟩
   have f := zA f bj.below
   refine z1 0 (.iface 83 (pt c0 0)) [(.iface 83 (pt c0 0))] f ?_
   intro f4 cr
   have b := zA b bj.below
   have b := zC b cr (zJ b f zi)
   have aa := zA aa bj.below
   have aa := zC aa cr (zJ aa f zi)
   have ag := zC ag cr (zJ ag f zi)
   have f := cr.here
   refine zR ?_
   refine ⟨rfl, .inl rfl, J_done zk (zB (zS (zH (wQ (ds := [⟨.collected ai.heap.size, #[]⟩]) zk (wF aa ?_)))))⟩
   intro fh dc
   have b := zC b dc (zJ b aa zi)
   have f := zC f dc (zJ f aa zi)
   have ag := zC ag dc (zJ ag aa zi)
   refine vQ [.cell 4 27, .cell 5 39] [(.pointer none), (.iface 83 (pt c0 0))] rfl ⟨⟨⟨b4, 0, none⟩, zk, wH zk (zW b rfl)⟩, ⟨⟨b7, 0, none⟩, zk, wH zk (zW f rfl)⟩, trivial⟩ ?_
   have oE : fh.heap[c0]? = some (.cells [(S file), (I6 ((parF text).2.1)), (I6 ((parF text).2.2))].toArray 85 (0, 0)) := by (rw [par_lone3 p1 p2 za za]; exact ag)
   have y := ((y.tr bj.below).trans (cr.below dg)).trans (dc.below cy)
   exact ⟨c0, rfl, oE, dp, y⟩
  intro fj
  exfalso; (rw [par_ok2 p1 p2 fj] at hbad; exact hbad rfl)
 intro K c fi x0 A cx hx ft aa
 obtain ⟨db, d7⟩ : ∃ db, db = fi ++ [x0] := ⟨_, rfl⟩
 rw [← d7] at cx; try rw [← d7] at hx
 rcases hx with ⟨bq, no, e, rfl, i, b, f, m, o, a, cz, d5, dq, y, q1, q2⟩
 obtain rfl : no = (parF text).2.1 := by rw [q1]
 obtain rfl : e = (parF text).2.2 := by rw [q1]
 refine zS (zP (zH (wQ (ds := [⟨.collected ai.heap.size, #[]⟩]) zk (wF aa ?_))))
 intro fd c6
 have b := zC b c6 (zJ b aa zi)
 have f := zC f c6 (zJ f aa zi)
 have cz := zC cz c6 (zJ cz aa zi)
 refine vQ [.cell 4 27, .cell 5 39] [(.pointer none), (.iface 83 (pt bq 0))] rfl ⟨⟨⟨b4, 0, none⟩, zk, wH zk (zW b rfl)⟩, ⟨⟨b7, 0, none⟩, zk, wH zk (zW f rfl)⟩, trivial⟩ ?_
 have oE : fd.heap[bq]? = some (.cells [(S file), (I6 ((parF text).2.1)), (I6 ((parF text).2.2))].toArray 85 (0, 0)) := by exact cz
 have y := y.trans (c6.below cy)
 exact ⟨bq, rfl, oE, d5, y⟩
end Go.Proofs.YtddnhlobnembaaaGreatDoor
end

/- === Wcb6 === -/
section
/- Walks, written by my program walk.py out of the specification cb6.py: each theorem says what one function returns and that it leaves memory as it was. -/
namespace Go.Proofs.YtddnhlobnembaaaGreatDoor
open Go Go.RowKit Go.FK _root_.Go.Proofs.Tryz
set_option maxHeartbeats 4000000
set_option maxRecDepth 100000
set_option maxRecDepth 100000
theorem awk_par : parF ([48, 48, 50, 56, 59, 32, 48, 48, 50, 57, 59, 32, 111, 10] : List UInt8) = (([(40, 41, 1)], [1]), 1, 82) := by kernel_rfl
theorem awk_new : newB ([(40, 41, 1), (41, 40, 2)] : List Brk) = none := by kernel_rfl
theorem el50 : Elem Tryz.prog 50 52 2 8 := ⟨underlying50, zk, rfl⟩
theorem c_round (w : World) :
  Calls Tryz.prog 27 #[] w (Ret fun v w' => ∃ (q0 : Value), v = q0 ∧ Row w' w.heap.size 26 3 encBrk q0 ([(40, 41, 1), (41, 40, 2)] : List Brk) ∧ Below w.heap.size w w') := by
 refine wI 4 func27 rfl ?_
 have d := Below.refl w.heap.size w
 refine wR (zG (nR (zr (Value.agg #[(I3 40), (I3 41), (U8 1)]) (zr (Value.agg #[(I3 41), (I3 40), (U8 2)]) (zM 2 [(I3 40), (I3 41), (U8 1), (I3 41), (I3 40), (U8 2)] 26 ?_)))))
 intro e f a
 have c := a.ge d.size
 have b : Row f w.heap.size 26 3 encBrk (.slice (some ⟨e, 0, none⟩) 2 2) ([(40, 41, 1), (41, 40, 2)] : List (Int × Int × Int)) := Row.made ([(40, 41, 1), (41, 40, 2)] : List (Int × Int × Int)) a c rfl rfl (by first | decide | (simp; done))
 have d := d.tr a.below
 exact zG (nQ (zS (yC [(.slice (some ⟨e, 0, none⟩) 2 2)] ⟨(.slice (some ⟨e, 0, none⟩) 2 2), rfl, b.cast (by rfl), d⟩)))
theorem c_awake8 (w : World) (hty : w.cell? ⟨0, 0, none⟩ = some (.iface 180 (.agg #[.pointer (some ⟨7, 39, none⟩)]))) :
  Calls Tryz.prog 14 #[] w (Ret fun v w' => v = (.bool true) ∧ Below w.heap.size w w') := by
 refine wI 61 func14 rfl ?_
 have g := Below.refl w.heap.size w
 refine wR (zG (nR (zc (c_round  _ ) ?_)))
 rintro q1 w2 ⟨_, rfl, k, r⟩
 have k := k.base g.size
 refine zc (c_New_ok q1 ([(40, 41, 1), (41, 40, 2)] : List Brk) _ k.rd (by first | omega | decide | (simp; done)) (by exact awk_new)) ?_
 rintro _ w5 ⟨l, o, rfl, a, h, b, i, z⟩
 have g := g.tr r
 replace h := Nat.le_trans g.size h
 replace i := Nat.le_trans g.size i
 have g := g.tr z
 refine zD (zr (pt l 0) (zr (I6 0) (zr (I6 0) (zG (zG (zG (nR (zc (calls_as (c_Parse_bad ([102] : List UInt8) ([48, 48, 50, 56, 59, 32, 48, 48, 50, 57, 59, 32, 111, 10] : List UInt8) _ (qL hty g) (by first | omega | decide | (simp; done)) (by (rw [awk_par]; decide))) (zk : _ = fun v w' => ∃ (cb0 : Nat), v = (.tuple #[(.pointer none), (.iface 83 (pt cb0 0))]) ∧ w'.heap[cb0]? = some (.cells [(S [102]), (I6 1), (I6 82)].toArray 85 (0, 0)) ∧ w5.heap.size ≤ cb0 ∧ Below w5.heap.size w5 w')) ?_))))))))
 rintro _ w9 ⟨m, rfl, c, d, j⟩
 replace d := Nat.le_trans g.size d
 have a := zA a j
 have b := zA b j
 refine zD (zr (.pointer none) (zr (.iface 83 (pt m 0)) (zG (zG (nW (wR (zD (zr (.bool false) (zD (zw (zD (zw (zr (.bool false) (xF (zD (zw (zD (zw (zr (.bool false) (xF (zD (zw (zD (zw (zr (.bool false) (xF (zD (zw (zD (zw (zr (.bool false) (xF (nQ (zF (zK (zB (wR (zD (zc (c_Bracket l o (kv ([(40, 41, 1), (41, 40, 2)] : List Brk)) (.map none) [] 40 _ a (GmAt.of b) (.inl ⟨rfl, rfl⟩)) ?_)))))))))))))))))))))))))))))))))))))))
 rintro _ ae ⟨rfl, f⟩
 refine zD (zr (I3 ((brkF (kv ([(40, 41, 1), (41, 40, 2)] : List Brk)) 40).1)) (zr (U8 ((brkF (kv ([(40, 41, 1), (41, 40, 2)] : List Brk)) 40).2)) (zG (zG (nR (zD (qA .i32 ((brkF (kv ([(40, 41, 1), (41, 40, 2)] : List Brk)) 40).1) 41 ?_ ?_)))))))
 ·intro af
  refine zD (zw (zD (zw (qA .u8 ((brkF (kv ([(40, 41, 1), (41, 40, 2)] : List Brk)) 40).2) 1 ?_ ?_))))
  ·intro ac
   have a := zA a f
   have b := zA b f
   refine xG (zD (zw (zD (zw (zc (c_Matches l o (kv ([(40, 41, 1), (41, 40, 2)] : List Brk)) (.map none) [] 40 41 _ a (GmAt.of b) (.inl ⟨rfl, rfl⟩)) ?_)))))
   rintro _ aj ⟨rfl, e⟩
   refine yK (mtcF (kv ([(40, 41, 1), (41, 40, 2)] : List Brk)) [] 40 41) ?_ ?_
   ·intro ab
    have a := zA a e
    have b := zA b e
    refine xG (zD (zw (zD (zw (zc (c_Write12 l o (kv ([(40, 41, 1), (41, 40, 2)] : List Brk)) (.map none) _ a b (by (simp [kv]; done))) ?_)))))
    rintro _ ai ⟨rfl, n⟩
    have := vV (kv ([(40, 41, 1), (41, 40, 2)] : List Brk))
    refine zw (vD (writeB (kv ([(40, 41, 1), (41, 40, 2)] : List Brk))) ([48, 48, 50, 56, 59, 32, 48, 48, 50, 57, 59, 32, 111, 10, 48, 48, 50, 57, 59, 32, 48, 48, 50, 56, 59, 32, 99, 10] : List UInt8) rfl zk zk ?_ ?_)
    ·intro ag
     have c := zA (zA (zA c f) e) n
     refine xG (zD (zw (zD (zw (zc (c_Fault_Error m ([102] : List UInt8) 1 82 _ c (by first | omega | decide | (simp; done)) (by first | omega | decide | (simp; done)) (by first | omega | decide | (simp; done))) ?_)))))
     rintro _ ah ⟨rfl, p⟩
     refine zw (vD (fltD ([102] : List UInt8) 1 82) ([102, 58, 49, 58, 32, 101, 114, 114, 111, 114, 32, 56, 50] : List UInt8) rfl zk zk ?_ ?_)
     ·intro ad
      have g := ((((g.tr j).tr f).tr e).tr n).tr p
      exact xG (zG (nQ (zS (yC [(.bool true)] ⟨rfl, g⟩))))
     intro t
     exfalso; exact t zk
    intro u
    exfalso; exact u zk
   intro s
   exfalso; exact absurd (s.symm.trans zk) (by decide : ¬ false = true)
  intro y
  exfalso; exact y zk
 intro q
 exfalso; exact q zk
end Go.Proofs.YtddnhlobnembaaaGreatDoor
end

/- === FKbg === -/
section
/- FKbg: the beginning of a slice that is only read. My own text. -/
namespace Go.FK
open Go Go.RowKit
section
variable {r : Option Nat} {P : Program} {n : Nat} {Q : Post} {s : Fm} {w : World} {ops : Array Oper} {rest : List Oper}
variable {d : Option Tmp} {ty : TypeId} {pos : String} {af : Array Edge}
theorem rd_take {α : Type} {enc : α → List Value} {a a' : Option Addr} {c : Nat} {xs : List α} {m : Nat} (hm : m ≤ xs.length) (hr : Rd w enc (.slice a xs.length c) xs) (ha : 0 < m → a' = a) : Rd w enc (.slice a' m c) (xs.take m) := by
 have hl : (xs.take m).length = m := by rw [List.length_take]; omega
 refine ⟨a', c, by rw [hl], ?_⟩
 rcases Nat.eq_zero_or_pos m with b | b
 ·left; omega
 ·right
  obtain ⟨f, d, hv, hc⟩ := hr
  injection hv with hv1 hv2 hv3
  rcases hc with hc | ⟨g, off, hg, hc⟩
  ·omega
  ·refine ⟨g, off, by rw [ha b, hv1, hg], fun j u hu => hc j u ?_⟩
   have e : xs.flatMap enc = (xs.take m).flatMap enc ++ (xs.drop m).flatMap enc := by rw [← List.flatMap_append, List.take_append_drop]
   rw [e, List.getElem?_append_left (List.getElem?_eq_some_iff.1 hu).1]
   exact hu
theorem L_slrd {α : Type} {X : Operand} {hi : Operand} {T E k bytes : Nat} {enc : α → List Value} (he : Elem P T E k bytes) (v : Value) (xs : List α) (m : Nat) (hrd : Rd w enc v xs) (hcap : CapOk v) (hm : m ≤ xs.length)
  (hX : s.ev n X = v) (hhi : ∃ kk, s.ev n hi = .int kk m)
  (h : ∀ v', Rd w enc v' (xs.take m) → CapOk v' → L r P n ops Q rest (s.put d v') w) : L r P n ops Q (⟨d, .slice T X none (some hi) none, ty, pos, af, none⟩ :: rest) s w := by
 obtain ⟨kk, hhi⟩ := hhi
 obtain ⟨a, c, rfl, hc⟩ := id hrd
 have hcl := hcap a xs.length c rfl
 have hb := sliceB (P := P) (w := w) (len := xs.length) (cap := c) (lo := none) (hi := some (.int kk (m : Nat))) 0 m rfl ⟨kk, rfl⟩ (Nat.zero_le _) (by omega) true
 have hcp : ∀ q : Option Addr, CapOk (.slice q m c) := fun q a' n' c' e => by injection e with _ e2 e3; omega
 cases a with
 | none =>
  refine wJ (.slice none m c) w (by simp) ?_ (h _ (rd_take hm hrd fun _ => rfl) (hcp _))
  simp only [execOp, hX, hhi, Instr.sliceAt, Instr.slice, Sem.run_bind, Sem.run_pure, Result.andThen_ok, run_underlying he.ht, Option.map_none, Option.map_some, hb, run_size he, Nat.sub_zero]
  split <;> rfl
 | some p =>
  refine wJ (.slice (some (if c = 0 then p else p.add (0 * k))) m c) w (by simp) ?_ (h _ (rd_take hm hrd fun h0 => ?_) (hcp _))
  ·simp only [execOp, hX, hhi, Instr.sliceAt, Instr.slice, Sem.run_bind, Sem.run_pure, Result.andThen_ok, run_underlying he.ht, Option.map_none, Option.map_some, hb, run_size he, Nat.sub_zero]
   split <;> rfl
  ·rw [if_neg (by omega)]
   rcases hc with hc | ⟨g, off, hg, hc⟩
   ·omega
   ·cases hg; rw [vP, Nat.zero_mul, Nat.add_zero]
end
end Go.FK
end

/- === Wrb1 === -/
section
/- Walks, written by my program walk.py out of the specification rb1.py: each theorem says what one function returns and that it leaves memory as it was. -/
namespace Go.Proofs.YtddnhlobnembaaaGreatDoor
open Go Go.RowKit Go.FK _root_.Go.Proofs.Tryz
set_option maxHeartbeats 4000000
set_option maxRecDepth 100000
theorem c_find8 (c : Value) (rows : List (Int × Int × Int)) (r : Int) (w : World) (a : Rd w encBrk c rows) (hl : rows.length ≤ 9223372036854775807) :
  Calls Tryz.prog 32 #[c, (I3 r)] w (Ret fun v w' => v = (.tuple #[(Value.agg #[(I3 ((lookB (kv rows) r).1)), (I3 ((lookB (kv rows) r).2.1)), (U8 ((lookB (kv rows) r).2.2))]), (.bool ((gget (kv rows) r).isSome))]) ∧ Below w.heap.size w w') := by
 refine wI 25 func32 rfl ?_
 have e := Below.refl w.heap.size w
 refine wR (zN [(I3 0), (I3 0), (U8 0)] 26 ?_)
 intro p w2 g
 have h := g.ge e.size
 have b := g.here
 refine zG (nW (wR (zG (nQ (zX ?_)))))
 have e := e.tr g.below
 have a := a.below g.below
 refine yZ (fun m s0 w0 => ∃ (i : Nat), (m = rows.length - i) ∧ (s0.ds = []) ∧ ([0, 1, 4, 6].map s0.f = [c, (I3 r), (pt p 0), (N6 i)]) ∧ (Rd w0 encBrk c rows) ∧ (w0.heap[p]? = some (.cells [(I3 0), (I3 0), (U8 0)].toArray 26 (0, 0))) ∧ (Below w.heap.size w w0) ∧ (i ≤ rows.length) ∧ (gget (kv (rows.take i)) r = none)) _ ⟨0, rfl, zk, zk, a, b, e, (Nat.zero_le _), rfl⟩ ?_
 rintro m4 s5 w6 ⟨i, hm, l, q, a, b, e, i1, n⟩
 refine yS q (zY (wR (zD (zD (zln underlying22 (a).len (nLt i ((rows).length) ?_ ?_))))))
 ·intro h7
  refine nQ (zT (zK (zB (zY (zX (wR (zD (zD ?_))))))))
  have s := zV rows i zo; obtain ⟨d, o⟩ := s
  refine zE a qJ i o 0 rfl fun _ _ => (zD (qA .i32 d.1 r ?_ ?_))
  ·intro aa
   refine nQ (zT (wR (zD (zD (zEA a qJ i o [(I3 d.1), (I3 d.2.1), (U8 d.2.2)] rfl fun _ => (wG [(I3 d.1), (I3 d.2.1), (U8 d.2.2)] b ?_))))))
   intro y j
   have b := j.here
   refine zG (nQ (zS (zP (zH (zH (zP (zH (yV [.cell 4 26, .tmp 5] [(Value.agg #[(I3 d.1), (I3 d.2.1), (U8 d.2.2)]), (.bool true)] rfl l ⟨⟨⟨p, 0, none⟩, zk, yP [(I3 d.1), (I3 d.2.1), (U8 d.2.2)] zk zk (yI b)⟩, zk, trivial⟩ ?_))))))))
   have e := e.trans (j.below h)
   exact ⟨xE (by (rw [lk_hit (fd_hit n za za)]; done)) (eb (by (rw [is_hit (fd_hit n za za)]; done))), e⟩
  intro z
  refine nQ (zF (zK (zI (zB (zQ (zD (xL i 1 (zG (zR (zB ⟨_, zo, (i + 1), rfl, l, zk, a, b, e, zo, ?_⟩))))))))))
  exact fd_on n za za
 intro t
 refine nQ (zF (yH (zL (zL (yB (zB (wR (zr (Value.agg #[(I3 0), (I3 0), (U8 0)]) (wG [(I3 0), (I3 0), (U8 0)] b ?_)))))))))
 intro u k
 have b := k.here
 refine zG (nQ (zS (yV [.cell 4 26, .tmp 5] [(Value.agg #[(I3 0), (I3 0), (U8 0)]), (.bool false)] rfl l ⟨⟨⟨p, 0, none⟩, zk, yP [(I3 0), (I3 0), (U8 0)] zk zk (yI b)⟩, zk, trivial⟩ ?_)))
 have e := e.trans (k.below h)
 exact ⟨xE (by (rw [lk_none (fd_end n zo)]; done)) (eb (by (rw [is_none (fd_end n zo)]; done))), e⟩
theorem c_May8 (xa : Int) (xo : Int) (xs : Int) (w : World) :
  Calls Tryz.prog 62 #[(Value.agg #[(I3 xa), (I3 xo), (U8 xs)])] w (Ret fun v w' => v = (.bool (mayR (xa, xo, xs))) ∧ Below w.heap.size w w') := by
 refine wI 38 func62 rfl ?_
 have b := Below.refl w.heap.size w
 refine wR (zN [(I3 xa), (I3 xo), (U8 xs)] 26 ?_)
 intro d p c
 have e := c.ge b.size
 have a := c.here
 refine zG (nR (uF 0 a rfl (zGe .i32 xa 0 ?_ ?_)))
 ·intro s
  refine zD (zw (zr (pt d 0) (zw (zO 0 a rfl (zw (zLe .i32 xa 1114111 ?_ ?_))))))
  ·intro r
   refine xG (zD (zw (zr (pt d 1) (zw (zO 1 a rfl (zw (zGe .i32 xo 0 ?_ ?_)))))))
   ·intro n
    refine xG (zD (zw (zr (pt d 1) (zw (zO 1 a rfl (zw (zLe .i32 xo 1114111 ?_ ?_)))))))
    ·intro o
     refine xG (zD (zw (zr (pt d 0) (zw (zO 0 a rfl (zw (zr (pt d 1) (zw (zO 1 a rfl (zw (zNe .i32 xa xo ?_ ?_)))))))))))
     ·intro q
      refine xG (zD (zw (zr (pt d 2) (zw (zO 2 a rfl (zw (qA .u8 xs 1 ?_ ?_)))))))
      ·intro t
       have b := b.tr c.below
       exact zw (zD (zs (zs (zs (zw (xG (xG (zG (nQ (zS (yC [(.bool true)] ⟨eb (by exact mayr_y zo), b⟩)))))))))))
      intro k
      refine zw (zD (zw (zr (pt d 2) (zw (zO 2 a rfl (zw (qA .u8 xs 2 ?_ ?_)))))))
      ·intro h
       have b := b.tr c.below
       exact zw (xF (xG (zG (nQ (zS (yC [(.bool true)] ⟨eb (by exact mayr_y zo), b⟩))))))
      intro i
      have b := b.tr c.below
      exact zw (xF (xG (zG (nQ (zS (yC [(.bool false)] ⟨eb (by exact mayr_n zo), b⟩))))))
     intro j
     have b := b.tr c.below
     exact xG (zD (zs (zs (zs (zs (zs (zs (zs (zs (xF (zG (nQ (zS (yC [(.bool false)] ⟨eb (by exact mayr_n zo), b⟩))))))))))))))
    intro m
    have b := b.tr c.below
    exact xG (zD (zs (zs (zs (zs (zs (xF (zD (zs (zs (zs (zs (zs (zs (zs (zs (xF (zG (nQ (zS (yC [(.bool false)] ⟨eb (by exact mayr_n zo), b⟩)))))))))))))))))))))
   intro l
   have b := b.tr c.below
   exact xG (zD (zs (zs (zs (xF (zD (zs (zs (zs (zs (zs (xF (zD (zs (zs (zs (zs (zs (zs (zs (zs (xF (zG (nQ (zS (yC [(.bool false)] ⟨eb (by exact mayr_n zo), b⟩))))))))))))))))))))))))))
  intro g
  have b := b.tr c.below
  exact xG (zD (zs (zs (zs (xF (zD (zs (zs (zs (xF (zD (zs (zs (zs (zs (zs (xF (zD (zs (zs (zs (zs (zs (zs (zs (zs (xF (zG (nQ (zS (yC [(.bool false)] ⟨eb (by exact mayr_n zo), b⟩)))))))))))))))))))))))))))))))
 intro f
 have b := b.tr c.below
 exact zD (zs (zs (zs (xF (zD (zs (zs (zs (xF (zD (zs (zs (zs (xF (zD (zs (zs (zs (zs (zs (xF (zD (zs (zs (zs (zs (zs (zs (zs (zs (xF (zG (nQ (zS (yC [(.bool false)] ⟨eb (by exact mayr_n zo), b⟩)))))))))))))))))))))))))))))))))))
theorem c_First8 (g : Value) (rows : List (Int × Int × Int)) (w : World) (a : Rd w encBrk g rows) (hcap : CapOk g) (hl : rows.length ≤ 9223372036854775807) :
  Calls Tryz.prog 31 #[g] w (Ret fun v w' => v = (.tuple #[(N6 (fsI rows)), (I6 (fsE rows))]) ∧ Below w.heap.size w w') := by
 refine wI 34 func31 rfl ?_
 have c := Below.refl w.heap.size w
 have b := a
 refine wR (zG (zG (nW (wR (zG (nQ (zX (yZ (fun m s0 w0 => ∃ (i : Nat), (m = rows.length - i) ∧ (s0.ds = []) ∧ ([0, 4].map s0.f = [g, (N6 i)]) ∧ (Rd w0 encBrk g rows) ∧ (Below w.heap.size w w0) ∧ (i ≤ rows.length) ∧ (FstI rows i)) _ ⟨0, rfl, zk, zk, a, c, (Nat.zero_le _), (FstI.zero _)⟩ ?_))))))))
 rintro m1 s2 w3 ⟨i, hm, j, ay, a, c, i1, l⟩
 refine yS ay (zY (wR (zD (zD (zln underlying22 (a).len (nLt i ((rows).length) ?_ ?_))))))
 ·intro h4
  refine nQ (zT (zK (zB (zY (zX (zY (wR (zD (zD ?_)))))))))
  have hz := zV rows i zo; obtain ⟨e, ag⟩ := hz
  refine zEA a qJ i ag [(I3 e.1), (I3 e.2.1), (U8 e.2.2)] rfl fun _ => (zc (c_May8 e.1 e.2.1 e.2.2 _ ) ?_)
  rintro _ b0 ⟨rfl, aa⟩
  refine yK (mayR (e.1, e.2.1, e.2.2)) ?_ ?_
  ·intro bd
   refine wW true (nQ (zF (zK (zB (zY (xB 13 15 zk zk zk ?_))))))
   intro bi an
   refine ⟨fun w => (Rd w encBrk g rows), ?_⟩
   have c := (c.tr aa).tr an
   have a := b.below c
   refine mp 0 rfl g (.inr a) zg (mp 1 rfl (N6 i) (.inr a) zg (mp 3 rfl g (.inr a) zg (mp 4 rfl (N6 i) (.inr a) zg ?_)))
   have hz := (a).at (k := 3) zj ag; obtain ⟨z, o, ac, az⟩ := hz
   refine mp 5 rfl (pt z (o + i * 3)) (.inr a) (yF (k := .i64) g i _ z o qJ ac zo zk zk) (mp 6 rfl (pt z (o + i * 3)) (.inr a) zg (mt 7 [7, 8, 9, 10, 11, 13, 14] rfl (I3 e.1) a (yR z (o + i * 3) (I3 e.1) zk zf (fun w2 h2 => Rd.later (k := 3) h2 zj ac ag 0 _ rfl)) ?_))
   refine wS 2 12 zk ?_ ?_
   ·skip
    refine yJ 2 rfl ?_ rfl
    refine L_slrd qJ g rows i a hcap zo zk ⟨.i64, zk⟩ ?_
    intro ak n ax
    refine zR ?_
    refine ⟨rfl, .inr a, wS 8 12 zk ?_ ?_⟩
    ·skip
     refine yJ 8 rfl ?_ rfl
     refine zc (c_find8 ak (List.take i rows) e.1 _ n (by (simp only [List.length_take]; omega))) ?_
     rintro _ b3 ⟨rfl, aq⟩
     refine zR ?_
     have c := c.tr aq
     have a := b.below c
     refine ⟨rfl, .inr a, mp 9 rfl (.tuple #[(Value.agg #[(I3 ((lookB (kv (List.take i rows)) e.1).1)), (I3 ((lookB (kv (List.take i rows)) e.1).2.1)), (U8 ((lookB (kv (List.take i rows)) e.1).2.2))]), (.bool ((gget (kv (List.take i rows)) e.1).isSome))]) (.inr a) zg (mp 10 rfl (Value.agg #[(I3 ((lookB (kv (List.take i rows)) e.1).1)), (I3 ((lookB (kv (List.take i rows)) e.1).2.1)), (U8 ((lookB (kv (List.take i rows)) e.1).2.2))]) (.inr a) zg (wS 11 12 zk ?_ ?_))⟩
     ·skip
      refine yJ 11 rfl ?_ rfl
      refine zr (.bool ((gget (kv (List.take i rows)) e.1).isSome)) (yK ((gget (kv (List.take i rows)) e.1).isSome) ?_ ?_)
      ·intro bw
       refine zR ?_
       refine ⟨rfl, .inr a, yD 12 zk (yJ 12 rfl ?_ rfl)⟩
       refine zN [(I3 0), (I3 0), (U8 0)] 26 ?_
       intro bb bx u
       have h := u.ge c.size
       have d := u.here
       refine zR ?_
       have c := c.tr u.below
       have a := b.below c
       refine ⟨rfl, .inr a, yD 13 zk (yJ 13 rfl ?_ rfl)⟩
       refine wG [(I3 ((lookB (kv (List.take i rows)) e.1).1)), (I3 ((lookB (kv (List.take i rows)) e.1).2.1)), (U8 ((lookB (kv (List.take i rows)) e.1).2.2))] d ?_
       intro a7 al
       refine zR ?_
       refine ⟨rfl, .inl zk, ?_⟩
       have c := c.trans (al.below h)
       exact mp 14 rfl (.bool true) (.inl zk) zg (yO zk (zB (wR (zD (nQ (zT (wR (zD (zG (zG (nQ (zS (zP (zH (zH (zP (zH (yC [(N6 i), (I6 81)] (hd := j) ⟨xE (e6 (by (rw [(qC l za za za).1]; done))) (e6 (by (rw [(qC l za za za).2]; done))), c⟩))))))))))))))))))
      intro be
      refine zR ?_
      refine ⟨rfl, .inr a, yD 12 zk (yJ 12 rfl ?_ rfl)⟩
      refine zN [(I3 0), (I3 0), (U8 0)] 26 ?_
      intro ba a8 s
      have h := s.ge c.size
      have d := s.here
      refine zR ?_
      have c := c.tr s.below
      have a := b.below c
      refine ⟨rfl, .inr a, yD 13 zk (yJ 13 rfl ?_ rfl)⟩
      refine wG [(I3 ((lookB (kv (List.take i rows)) e.1).1)), (I3 ((lookB (kv (List.take i rows)) e.1).2.1)), (U8 ((lookB (kv (List.take i rows)) e.1).2.2))] d ?_
      intro bc ap
      refine zR ?_
      refine ⟨rfl, .inl zk, mp 14 rfl (.bool false) (.inl zk) zg (yO zk (zB (wR (zD (nQ (zF (zK (zI (zB (zQ (zD (xL i 1 (zG (zR ?_))))))))))))))⟩
      have c := c.trans (ap.below h)
      have a := b.below c
      exact zB ⟨_, zo, (i + 1), rfl, j, zk, a, c, zo, l.step za za za⟩
     skip
     refine yJ 12 rfl ?_ rfl
     refine zN [(I3 0), (I3 0), (U8 0)] 26 ?_
     intro bj bl y
     have h := y.ge c.size
     have d := y.here
     refine zR ?_
     have c := c.tr y.below
     have a := b.below c
     refine ⟨rfl, .inr a, wS 11 13 zk ?_ ?_⟩
     ·skip
      refine yJ 11 rfl ?_ rfl
      refine zr (.bool ((gget (kv (List.take i rows)) e.1).isSome)) (yK ((gget (kv (List.take i rows)) e.1).isSome) ?_ ?_)
      ·intro a3
       refine zR ?_
       refine ⟨rfl, .inr a, yD 13 zk (yJ 13 rfl ?_ rfl)⟩
       refine wG [(I3 ((lookB (kv (List.take i rows)) e.1).1)), (I3 ((lookB (kv (List.take i rows)) e.1).2.1)), (U8 ((lookB (kv (List.take i rows)) e.1).2.2))] d ?_
       intro bs ai
       refine zR ?_
       refine ⟨rfl, .inl zk, ?_⟩
       have c := c.trans (ai.below h)
       exact mp 14 rfl (.bool true) (.inl zk) zg (yO zk (zB (wR (zD (nQ (zT (wR (zD (zG (zG (nQ (zS (zP (zH (zH (zP (zH (yC [(N6 i), (I6 81)] (hd := j) ⟨xE (e6 (by (rw [(qC l za za za).1]; done))) (e6 (by (rw [(qC l za za za).2]; done))), c⟩))))))))))))))))))
      intro b6
      refine zR ?_
      refine ⟨rfl, .inr a, yD 13 zk (yJ 13 rfl ?_ rfl)⟩
      refine wG [(I3 ((lookB (kv (List.take i rows)) e.1).1)), (I3 ((lookB (kv (List.take i rows)) e.1).2.1)), (U8 ((lookB (kv (List.take i rows)) e.1).2.2))] d ?_
      intro bm am
      refine zR ?_
      refine ⟨rfl, .inl zk, mp 14 rfl (.bool false) (.inl zk) zg (yO zk (zB (wR (zD (nQ (zF (zK (zI (zB (zQ (zD (xL i 1 (zG (zR ?_))))))))))))))⟩
      have c := c.trans (am.below h)
      have a := b.below c
      exact zB ⟨_, zo, (i + 1), rfl, j, zk, a, c, zo, l.step za za za⟩
     skip
     refine yJ 13 rfl ?_ rfl
     refine wG [(I3 ((lookB (kv (List.take i rows)) e.1).1)), (I3 ((lookB (kv (List.take i rows)) e.1).2.1)), (U8 ((lookB (kv (List.take i rows)) e.1).2.2))] d ?_
     intro a0 ae
     refine zR ?_
     refine ⟨rfl, .inl zk, yD 11 zk (yJ 11 rfl ?_ rfl)⟩
     refine zr (.bool ((gget (kv (List.take i rows)) e.1).isSome)) (yK ((gget (kv (List.take i rows)) e.1).isSome) ?_ ?_)
     ·intro b7
      refine zR ?_
      refine ⟨rfl, .inl zk, ?_⟩
      have c := c.trans (ae.below h)
      exact mp 14 rfl (.bool true) (.inl zk) zg (yO zk (zB (wR (zD (nQ (zT (wR (zD (zG (zG (nQ (zS (zP (zH (zH (zP (zH (yC [(N6 i), (I6 81)] (hd := j) ⟨xE (e6 (by (rw [(qC l za za za).1]; done))) (e6 (by (rw [(qC l za za za).2]; done))), c⟩))))))))))))))))))
     intro bn
     refine zR ?_
     refine ⟨rfl, .inl zk, mp 14 rfl (.bool false) (.inl zk) zg (yO zk (zB (wR (zD (nQ (zF (zK (zI (zB (zQ (zD (xL i 1 (zG (zR ?_))))))))))))))⟩
     have c := c.trans (ae.below h)
     have a := b.below c
     exact zB ⟨_, zo, (i + 1), rfl, j, zk, a, c, zo, l.step za za za⟩
    skip
    refine yJ 12 rfl ?_ rfl
    refine zN [(I3 0), (I3 0), (U8 0)] 26 ?_
    intro bf bh r
    have h := r.ge c.size
    have d := r.here
    refine zR ?_
    have c := c.tr r.below
    have a := b.below c
    refine ⟨rfl, .inr a, yD 8 zk (yJ 8 rfl ?_ rfl)⟩
    have n := n.below r.below
    refine zc (c_find8 ak (List.take i rows) e.1 _ n (by (simp only [List.length_take]; omega))) ?_
    rintro _ a2 ⟨rfl, q⟩
    refine zR ?_
    have c := c.tr q
    have a := b.below c
    refine ⟨rfl, .inr a, mp 9 rfl (.tuple #[(Value.agg #[(I3 ((lookB (kv (List.take i rows)) e.1).1)), (I3 ((lookB (kv (List.take i rows)) e.1).2.1)), (U8 ((lookB (kv (List.take i rows)) e.1).2.2))]), (.bool ((gget (kv (List.take i rows)) e.1).isSome))]) (.inr a) zg (mp 10 rfl (Value.agg #[(I3 ((lookB (kv (List.take i rows)) e.1).1)), (I3 ((lookB (kv (List.take i rows)) e.1).2.1)), (U8 ((lookB (kv (List.take i rows)) e.1).2.2))]) (.inr a) zg (wS 11 13 zk ?_ ?_))⟩
    ·skip
     refine yJ 11 rfl ?_ rfl
     refine zr (.bool ((gget (kv (List.take i rows)) e.1).isSome)) (yK ((gget (kv (List.take i rows)) e.1).isSome) ?_ ?_)
     ·intro bp
      refine zR ?_
      refine ⟨rfl, .inr a, yD 13 zk (yJ 13 rfl ?_ rfl)⟩
      have d := zA d q
      refine wG [(I3 ((lookB (kv (List.take i rows)) e.1).1)), (I3 ((lookB (kv (List.take i rows)) e.1).2.1)), (U8 ((lookB (kv (List.take i rows)) e.1).2.2))] d ?_
      intro bq ar
      refine zR ?_
      refine ⟨rfl, .inl zk, ?_⟩
      have c := c.trans (ar.below h)
      exact mp 14 rfl (.bool true) (.inl zk) zg (yO zk (zB (wR (zD (nQ (zT (wR (zD (zG (zG (nQ (zS (zP (zH (zH (zP (zH (yC [(N6 i), (I6 81)] (hd := j) ⟨xE (e6 (by (rw [(qC l za za za).1]; done))) (e6 (by (rw [(qC l za za za).2]; done))), c⟩))))))))))))))))))
     intro bt
     refine zR ?_
     refine ⟨rfl, .inr a, yD 13 zk (yJ 13 rfl ?_ rfl)⟩
     have d := zA d q
     refine wG [(I3 ((lookB (kv (List.take i rows)) e.1).1)), (I3 ((lookB (kv (List.take i rows)) e.1).2.1)), (U8 ((lookB (kv (List.take i rows)) e.1).2.2))] d ?_
     intro a9 ao
     refine zR ?_
     refine ⟨rfl, .inl zk, mp 14 rfl (.bool false) (.inl zk) zg (yO zk (zB (wR (zD (nQ (zF (zK (zI (zB (zQ (zD (xL i 1 (zG (zR ?_))))))))))))))⟩
     have c := c.trans (ao.below h)
     have a := b.below c
     exact zB ⟨_, zo, (i + 1), rfl, j, zk, a, c, zo, l.step za za za⟩
    skip
    refine yJ 13 rfl ?_ rfl
    have d := zA d q
    refine wG [(I3 ((lookB (kv (List.take i rows)) e.1).1)), (I3 ((lookB (kv (List.take i rows)) e.1).2.1)), (U8 ((lookB (kv (List.take i rows)) e.1).2.2))] d ?_
    intro a5 ab
    refine zR ?_
    refine ⟨rfl, .inl zk, yD 11 zk (yJ 11 rfl ?_ rfl)⟩
    refine zr (.bool ((gget (kv (List.take i rows)) e.1).isSome)) (yK ((gget (kv (List.take i rows)) e.1).isSome) ?_ ?_)
    ·intro a6
     refine zR ?_
     refine ⟨rfl, .inl zk, ?_⟩
     have c := c.trans (ab.below h)
     exact mp 14 rfl (.bool true) (.inl zk) zg (yO zk (zB (wR (zD (nQ (zT (wR (zD (zG (zG (nQ (zS (zP (zH (zH (zP (zH (yC [(N6 i), (I6 81)] (hd := j) ⟨xE (e6 (by (rw [(qC l za za za).1]; done))) (e6 (by (rw [(qC l za za za).2]; done))), c⟩))))))))))))))))))
    intro b4
    refine zR ?_
    refine ⟨rfl, .inl zk, mp 14 rfl (.bool false) (.inl zk) zg (yO zk (zB (wR (zD (nQ (zF (zK (zI (zB (zQ (zD (xL i 1 (zG (zR ?_))))))))))))))⟩
    have c := c.trans (ab.below h)
    have a := b.below c
    exact zB ⟨_, zo, (i + 1), rfl, j, zk, a, c, zo, l.step za za za⟩
   skip
   refine yJ 12 rfl ?_ rfl
   refine zN [(I3 0), (I3 0), (U8 0)] 26 ?_
   intro b2 a1 t
   have h := t.ge c.size
   have d := t.here
   refine zR ?_
   have c := c.tr t.below
   have a := b.below c
   refine ⟨rfl, .inr a, yD 2 zk (yJ 2 rfl ?_ rfl)⟩
   refine L_slrd qJ g rows i a hcap zo zk ⟨.i64, zk⟩ ?_
   intro aw af av
   refine zR ?_
   refine ⟨rfl, .inr a, yD 8 zk (yJ 8 rfl ?_ rfl)⟩
   refine zc (c_find8 aw (List.take i rows) e.1 _ af (by (simp only [List.length_take]; omega))) ?_
   rintro _ bu ⟨rfl, p⟩
   refine zR ?_
   have c := c.tr p
   have a := b.below c
   refine ⟨rfl, .inr a, mp 9 rfl (.tuple #[(Value.agg #[(I3 ((lookB (kv (List.take i rows)) e.1).1)), (I3 ((lookB (kv (List.take i rows)) e.1).2.1)), (U8 ((lookB (kv (List.take i rows)) e.1).2.2))]), (.bool ((gget (kv (List.take i rows)) e.1).isSome))]) (.inr a) zg (mp 10 rfl (Value.agg #[(I3 ((lookB (kv (List.take i rows)) e.1).1)), (I3 ((lookB (kv (List.take i rows)) e.1).2.1)), (U8 ((lookB (kv (List.take i rows)) e.1).2.2))]) (.inr a) zg (wS 11 13 zk ?_ ?_))⟩
   ·skip
    refine yJ 11 rfl ?_ rfl
    refine zr (.bool ((gget (kv (List.take i rows)) e.1).isSome)) (yK ((gget (kv (List.take i rows)) e.1).isSome) ?_ ?_)
    ·intro a4
     refine zR ?_
     refine ⟨rfl, .inr a, yD 13 zk (yJ 13 rfl ?_ rfl)⟩
     have d := zA d p
     refine wG [(I3 ((lookB (kv (List.take i rows)) e.1).1)), (I3 ((lookB (kv (List.take i rows)) e.1).2.1)), (U8 ((lookB (kv (List.take i rows)) e.1).2.2))] d ?_
     intro bv aj
     refine zR ?_
     refine ⟨rfl, .inl zk, ?_⟩
     have c := c.trans (aj.below h)
     exact mp 14 rfl (.bool true) (.inl zk) zg (yO zk (zB (wR (zD (nQ (zT (wR (zD (zG (zG (nQ (zS (zP (zH (zH (zP (zH (yC [(N6 i), (I6 81)] (hd := j) ⟨xE (e6 (by (rw [(qC l za za za).1]; done))) (e6 (by (rw [(qC l za za za).2]; done))), c⟩))))))))))))))))))
    intro bz
    refine zR ?_
    refine ⟨rfl, .inr a, yD 13 zk (yJ 13 rfl ?_ rfl)⟩
    have d := zA d p
    refine wG [(I3 ((lookB (kv (List.take i rows)) e.1).1)), (I3 ((lookB (kv (List.take i rows)) e.1).2.1)), (U8 ((lookB (kv (List.take i rows)) e.1).2.2))] d ?_
    intro b1 ah
    refine zR ?_
    refine ⟨rfl, .inl zk, mp 14 rfl (.bool false) (.inl zk) zg (yO zk (zB (wR (zD (nQ (zF (zK (zI (zB (zQ (zD (xL i 1 (zG (zR ?_))))))))))))))⟩
    have c := c.trans (ah.below h)
    have a := b.below c
    exact zB ⟨_, zo, (i + 1), rfl, j, zk, a, c, zo, l.step za za za⟩
   skip
   refine yJ 13 rfl ?_ rfl
   have d := zA d p
   refine wG [(I3 ((lookB (kv (List.take i rows)) e.1).1)), (I3 ((lookB (kv (List.take i rows)) e.1).2.1)), (U8 ((lookB (kv (List.take i rows)) e.1).2.2))] d ?_
   intro bk ad
   refine zR ?_
   refine ⟨rfl, .inl zk, yD 11 zk (yJ 11 rfl ?_ rfl)⟩
   refine zr (.bool ((gget (kv (List.take i rows)) e.1).isSome)) (yK ((gget (kv (List.take i rows)) e.1).isSome) ?_ ?_)
   ·intro bo
    refine zR ?_
    refine ⟨rfl, .inl zk, ?_⟩
    have c := c.trans (ad.below h)
    exact mp 14 rfl (.bool true) (.inl zk) zg (yO zk (zB (wR (zD (nQ (zT (wR (zD (zG (zG (nQ (zS (zP (zH (zH (zP (zH (yC [(N6 i), (I6 81)] (hd := j) ⟨xE (e6 (by (rw [(qC l za za za).1]; done))) (e6 (by (rw [(qC l za za za).2]; done))), c⟩))))))))))))))))))
   intro br
   refine zR ?_
   refine ⟨rfl, .inl zk, mp 14 rfl (.bool false) (.inl zk) zg (yO zk (zB (wR (zD (nQ (zF (zK (zI (zB (zQ (zD (xL i 1 (zG (zR ?_))))))))))))))⟩
   have c := c.trans (ad.below h)
   have a := b.below c
   exact zB ⟨_, zo, (i + 1), rfl, j, zk, a, c, zo, l.step za za za⟩
  intro bg
  have c := c.tr aa
  exact wW false (nQ (zT (wR (zD (zG (zG (nQ (zS (zH (zP (zH (zH (zP (zH (yC [(N6 i), (I6 80)] (hd := j) ⟨xE (e6 (by (rw [(fs_bad l za za).1]; done))) (e6 (by (rw [(fs_bad l za za).2]; done))), c⟩)))))))))))))))
 intro b5
 exact nQ (zF (yH (zL (zL (yB (zB (wR (zG (zG (nQ (zS (yC [(I6 0), (I6 0)] (hd := j) ⟨xE (e6 (by (rw [(fs_all l zo).1]; rfl))) (e6 (by (rw [(fs_all l zo).2]; done))), c⟩))))))))))))
theorem c_New8_bad (c : Value) (rows : List (Int × Int × Int)) (w : World) (b : Rd w encBrk c rows) (hcap : CapOk c) (hl : rows.length ≤ 9223372036854775807) (hbad : newB rows ≠ none) :
  Calls Tryz.prog 11 #[c] w (Ret fun v w' => v = (.tuple #[(.pointer none), (N6 (newI rows)), (I6 (newE rows))]) ∧ Below w.heap.size w w') := by
 refine wI 133 func11 rfl ?_
 have e := Below.refl w.heap.size w
 have d := b
 refine wR (zG (zG (zG (nR (zD (zc (c_First8 c rows _ b (by first | omega | assumption) (by first | omega | assumption)) ?_))))))
 rintro _ w1 ⟨rfl, ag⟩
 refine zD (zr (N6 (fsI rows)) (zr (I6 (fsE rows)) (zG (zG (nW (wR (zD (zNe .i64 (fsE rows) 0 ?_ ?_))))))))
 ·intro h4
  have e := e.tr ag
  exact nQ (zT (wR (zD (zD (zG (zG (zG (nQ (zS (zH (yC [(.pointer none), (N6 (fsI rows)), (I6 (fsE rows))] ⟨tup3 rfl (e6 (by (rw [(fs_new za).1]; done))) (e6 (by (rw [(fs_new za).2]; done))), e⟩)))))))))))
 intro h5
 refine nQ (zF (zK (zB (zY (wR (zG (nQ (zX ?_))))))))
 have e := e.tr ag
 have b := d.below e
 refine yZ (fun m s0 w0 => ∃ (i : Nat), (m = rows.length - i) ∧ (s0.ds = []) ∧ ([0, 7].map s0.f = [c, (N6 i)]) ∧ (Rd w0 encBrk c rows) ∧ (Below w.heap.size w w0) ∧ (i ≤ rows.length) ∧ (LonI (kv rows) rows i)) _ ⟨0, rfl, zk, zk, b, e, (Nat.zero_le _), (LonI.zero _ _)⟩ ?_
 rintro m6 s7 w8 ⟨i, hm, r, an, b, e, i1, u⟩
 refine yS an (zY (wR (zD (zD (zln underlying22 (b).len (nLt i ((rows).length) ?_ ?_))))))
 ·intro h9
  refine nQ (zT (zK (zB (zY (zX (wR (zD (zD (zD ?_)))))))))
  have hz := zV rows i (by first | omega | assumption); obtain ⟨a, n⟩ := hz
  refine zE b qJ i n 1 rfl fun _ _ => (zc (c_find8 c rows a.2.1 _ b (by first | omega | assumption)) ?_)
  rintro _ av ⟨rfl, t⟩
  refine zD (zr (Value.agg #[(I3 ((lookB (kv rows) a.2.1).1)), (I3 ((lookB (kv rows) a.2.1).2.1)), (U8 ((lookB (kv rows) a.2.1).2.2))]) (zr (.bool ((gget (kv rows) a.2.1).isSome)) (yK ((gget (kv rows) a.2.1).isSome) ?_ ?_)))
  ·intro ay
   refine zN [(I3 0), (I3 0), (U8 0)] 26 ?_
   intro q az o
   have e := e.tr t
   have l := o.ge e.size
   have g := o.here
   refine wG [(I3 ((lookB (kv rows) a.2.1).1)), (I3 ((lookB (kv rows) a.2.1).2.1)), (U8 ((lookB (kv rows) a.2.1).2.2))] g ?_
   intro ax s
   have g := s.here
   refine zG (nW (xA zk zk (yE (wZ true zk (yE (qw (yQ (pt q 1) zf (qw (zZ q 1 (I3 ((lookB (kv rows) a.2.1).2.1)) zk zf (zW g rfl) (qw (yE (qw (yE (qw ?_))))))))))))))
   have e := (e.tr o.below).trans (s.below l)
   have b := d.below e
   have hz := (b).at (k := 3) zj n
   obtain ⟨z, j, ad, ae⟩ := hz
   refine yM (k := .i64) c i _ z j qJ ad (by first | omega | assumption) zk zk (qw (yQ (pt z (j + i * 3)) zf (qw (zZ z (j + i * 3) (I3 a.1) zk zf (ae 0 _ rfl) (qw (xO .i32 ((lookB (kv rows) a.2.1).2.1) a.1 ((lookB (kv rows) a.2.1).2.1 ≠ a.1) rfl (cmp_ne ((lookB (kv rows) a.2.1).2.1) a.1) zk zk ?_ ?_))))))
   ·intro aq
    replace aq : (lookB (kv rows) a.2.1).2.1 ≠ a.1 := by omega
    refine qF (yE (qs (qs (qs (qs (qs (qs (qs (qs (qT (yN ?_)))))))))))
    intro a2 aj
    have e := e.tr aj
    exact zB (zT (wR (zD (zG (zG (zG (nQ (zS (zP (zH (zH (zP (zH (yC [(.pointer none), (N6 i), (I6 82)] (hd := r) ⟨tup3 rfl (e6 (by (rw [(newI_of (fs_lone (by assumption : fsE rows = 0) u za (lone_2 za))).1]; done))) (e6 (by (rw [(newI_of (fs_lone (by assumption : fsE rows = 0) u za (lone_2 za))).2]; done))), e⟩))))))))))))))
   intro al
   replace al : (lookB (kv rows) a.2.1).2.1 = a.1 := by omega
   refine qF (yE (qw (yQ (pt q 2) zf (qw (zZ q 2 (U8 ((lookB (kv rows) a.2.1).2.2)) zk zf (zW g rfl) (qw (yE (qw (yE (qw ?_))))))))))
   have hz := (b).at (k := 3) zj n
   obtain ⟨y, h, ah, ai⟩ := hz
   refine yM (k := .i64) c i _ y h qJ ah (by first | omega | assumption) zk zk (qw (yQ (pt y ((h + i * 3) + 2)) zf (qw (zZ y ((h + i * 3) + 2) (U8 a.2.2) zk zf (ai 2 _ rfl) (qw (xO .u8 ((lookB (kv rows) a.2.1).2.2) a.2.2 ((lookB (kv rows) a.2.1).2.2 = a.2.2) rfl (cmp_eq ((lookB (kv rows) a.2.1).2.2) a.2.2) zk zk ?_ ?_))))))
   ·intro ao
    replace ao : (lookB (kv rows) a.2.1).2.2 = a.2.2 := by omega
    refine qF (yN ?_)
    intro a1 af
    have e := e.tr af
    exact zB (zT (wR (zD (zG (zG (zG (nQ (zS (zP (zH (zH (zP (zH (yC [(.pointer none), (N6 i), (I6 82)] (hd := r) ⟨tup3 rfl (e6 (by (rw [(newI_of (fs_lone (by assumption : fsE rows = 0) u za (lone_3 za))).1]; done))) (e6 (by (rw [(newI_of (fs_lone (by assumption : fsE rows = 0) u za (lone_3 za))).2]; done))), e⟩))))))))))))))
   intro am
   replace am : (lookB (kv rows) a.2.1).2.2 ≠ a.2.2 := by omega
   refine qF (yN ?_)
   intro a0 ac
   refine zB (zF (zK (zI (zB (zQ (zD (xL i 1 (zG (zR ?_)))))))))
   have e := e.tr ac
   have b := d.below e
   exact zB ⟨_, zo, (i + 1), rfl, r, zk, b, e, zo, u.step za (lone_n za za za)⟩
  intro a3
  refine zN [(I3 0), (I3 0), (U8 0)] 26 ?_
  intro a4 aw p
  have e := e.tr t
  have l := p.ge e.size
  have g := p.here
  refine wG [(I3 ((lookB (kv rows) a.2.1).1)), (I3 ((lookB (kv rows) a.2.1).2.1)), (U8 ((lookB (kv rows) a.2.1).2.2))] g ?_
  intro au aa
  refine zG (nW (xA zk zk (yE (wZ false zk (yE (qs (qs (qs (qs (qs (qs (qs (qs (qT (yE (qs (qs (qs (qs (qs (qs (qs (qs (qT (yN ?_)))))))))))))))))))))))))
  intro ar ak
  have e := ((e.tr p.below).trans (aa.below l)).tr ak
  exact zB (zT (wR (zD (zG (zG (zG (nQ (zS (zP (zH (zH (zP (zH (yC [(.pointer none), (N6 i), (I6 82)] (hd := r) ⟨tup3 rfl (e6 (by (rw [(newI_of (fs_lone (by assumption : fsE rows = 0) u za (lone_1 za))).1]; done))) (e6 (by (rw [(newI_of (fs_lone (by assumption : fsE rows = 0) u za (lone_1 za))).2]; done))), e⟩))))))))))))))
 intro ap
 exfalso; exact hbad (fs_fine (by assumption : fsE rows = 0) u ap)
theorem c_New8_ok (g : Value) (rows : List (Int × Int × Int)) (w : World) (b : Rd w encBrk g rows) (hcap : CapOk g) (hl : rows.length ≤ 1114112) (hok : newB rows = none) :
  Calls Tryz.prog 11 #[g] w (Ret fun v w' => ∃ (q0 : Value) (q1 : Value) (cb0 : Nat), v = (.tuple #[(pt cb0 0), (I6 0), (I6 0)]) ∧ Row w' w.heap.size 26 3 encBrk q0 (rowsB (kv rows)) ∧ Row w' w.heap.size 52 2 encTw q1 ([] : List (Int × Int)) ∧ w'.heap[cb0]? = some (.cells [q0, q1].toArray 78 (0, 0)) ∧ w.heap.size ≤ cb0 ∧ Below w.heap.size w w') := by
 refine wI 133 func11 rfl ?_
 have p := Below.refl w.heap.size w
 have j := b
 refine wR (zG (zG (zG (nR (zD (zc (c_First8 g rows _ b (by first | omega | assumption) (by first | omega | assumption)) ?_))))))
 rintro _ w1 ⟨rfl, cw⟩
 refine zD (zr (N6 (fsI rows)) (zr (I6 (fsE rows)) (zG (zG (nW (wR (zD (zNe .i64 (fsE rows) 0 ?_ ?_))))))))
 ·intro h4
  exfalso; exact ins_dead hok (fs_some h4)
 intro h5
 refine nQ (zF (zK (zB (zY (wR (zG (nQ (zX ?_))))))))
 have p := p.tr cw
 have b := j.below p
 refine yZ (fun m s0 w0 => ∃ (i : Nat), (m = rows.length - i) ∧ (s0.ds = []) ∧ ([0, 7].map s0.f = [g, (N6 i)]) ∧ (Rd w0 encBrk g rows) ∧ (Below w.heap.size w w0) ∧ (i ≤ rows.length) ∧ (LonI (kv rows) rows i)) _ ⟨0, rfl, zk, zk, b, p, (Nat.zero_le _), (LonI.zero _ _)⟩ ?_
 rintro m6 s7 w8 ⟨i, hm, ac, bi, b, p, i1, i2⟩
 refine yS bi (zY (wR (zD (zD (zln underlying22 (b).len (nLt i ((rows).length) ?_ ?_))))))
 ·intro h9
  refine nQ (zT (zK (zB (zY (zX (wR (zD (zD (zD ?_)))))))))
  have u := zV rows i (by first | omega | assumption); obtain ⟨n, a1⟩ := u
  refine zE b qJ i a1 1 rfl fun _ _ => (zc (c_find8 g rows n.2.1 _ b (by first | omega | assumption)) ?_)
  rintro _ dl ⟨rfl, cc⟩
  refine zD (zr (Value.agg #[(I3 ((lookB (kv rows) n.2.1).1)), (I3 ((lookB (kv rows) n.2.1).2.1)), (U8 ((lookB (kv rows) n.2.1).2.2))]) (zr (.bool ((gget (kv rows) n.2.1).isSome)) (yK ((gget (kv rows) n.2.1).isSome) ?_ ?_)))
  ·intro dq
   refine zN [(I3 0), (I3 0), (U8 0)] 26 ?_
   intro bn dx a3
   have p := p.tr cc
   have ck := a3.ge p.size
   have av := a3.here
   refine wG [(I3 ((lookB (kv rows) n.2.1).1)), (I3 ((lookB (kv rows) n.2.1).2.1)), (U8 ((lookB (kv rows) n.2.1).2.2))] av ?_
   intro dn bp
   have av := bp.here
   refine zG (nW (xA zk zk (yE (wZ true zk (yE (qw (yQ (pt bn 1) zf (qw (zZ bn 1 (I3 ((lookB (kv rows) n.2.1).2.1)) zk zf (zW av rfl) (qw (yE (qw (yE (qw ?_))))))))))))))
   have p := (p.tr a3.below).trans (bp.below ck)
   have b := j.below p
   have u := (b).at (k := 3) zj a1
   obtain ⟨b2, ai, cd, b8⟩ := u
   refine yM (k := .i64) g i _ b2 ai qJ cd (by first | omega | assumption) zk zk (qw (yQ (pt b2 (ai + i * 3)) zf (qw (zZ b2 (ai + i * 3) (I3 n.1) zk zf (b8 0 _ rfl) (qw (xO .i32 ((lookB (kv rows) n.2.1).2.1) n.1 ((lookB (kv rows) n.2.1).2.1 ≠ n.1) rfl (cmp_ne ((lookB (kv rows) n.2.1).2.1) n.1) zk zk ?_ ?_))))))
   ·intro cg
    replace cg : (lookB (kv rows) n.2.1).2.1 ≠ n.1 := by omega
    exfalso; exact ins_dead hok (fs_lone (by assumption : fsE rows = 0) i2 za (lone_2 cg))
   intro cq
   replace cq : (lookB (kv rows) n.2.1).2.1 = n.1 := by omega
   refine qF (yE (qw (yQ (pt bn 2) zf (qw (zZ bn 2 (U8 ((lookB (kv rows) n.2.1).2.2)) zk zf (zW av rfl) (qw (yE (qw (yE (qw ?_))))))))))
   have u := (b).at (k := 3) zj a1
   obtain ⟨bz, ap, cl, ce⟩ := u
   refine yM (k := .i64) g i _ bz ap qJ cl (by first | omega | assumption) zk zk (qw (yQ (pt bz ((ap + i * 3) + 2)) zf (qw (zZ bz ((ap + i * 3) + 2) (U8 n.2.2) zk zf (ce 2 _ rfl) (qw (xO .u8 ((lookB (kv rows) n.2.1).2.2) n.2.2 ((lookB (kv rows) n.2.1).2.2 = n.2.2) rfl (cmp_eq ((lookB (kv rows) n.2.1).2.2) n.2.2) zk zk ?_ ?_))))))
   ·intro b9
    replace b9 : (lookB (kv rows) n.2.1).2.2 = n.2.2 := by omega
    exfalso; exact ins_dead hok (fs_lone (by assumption : fsE rows = 0) i2 za (lone_3 b9))
   intro cv
   replace cv : (lookB (kv rows) n.2.1).2.2 ≠ n.2.2 := by omega
   refine qF (yN ?_)
   intro dj cf
   refine zB (zF (zK (zI (zB (zQ (zD (xL i 1 (zG (zR ?_)))))))))
   have p := p.tr cf
   have b := j.below p
   exact zB ⟨_, zo, (i + 1), rfl, ac, zk, b, p, zo, i2.step za (lone_n za za za)⟩
  intro c0
  exfalso; exact ins_dead hok (fs_lone (by assumption : fsE rows = 0) i2 za (lone_1 c0))
 intro dm
 refine nQ (zF (yH (zL (zL (yB (zB (wR (zr (Value.agg #[(.slice none 0 0), (.slice none 0 0)]) (zN [(.slice none 0 0), (.slice none 0 0)] 78 ?_)))))))))
 intro l du bf
 have bg := bf.ge p.size
 have d := bf.here
 refine zG (nW (wR (zG (nQ (zX ?_)))))
 have p := p.tr bf.below
 have b := j.below p
 refine yZ (fun m s0 w0 => ∃ (i : Nat) (ao : List Brk) (e : Value), (m = rows.length - i) ∧ (s0.ds = []) ∧ ([0, 10, 11].map s0.f = [g, (pt l 0), (N6 i)]) ∧ (Rd w0 encBrk g rows) ∧ (Row w0 w.heap.size 26 3 encBrk e ao) ∧ (w0.heap[l]? = some (.cells [e, (.slice none 0 0)].toArray 78 (0, 0))) ∧ (Below w.heap.size w w0) ∧ (i ≤ rows.length) ∧ (InsI rows i ao)) _ ⟨0, [], (.slice none 0 0), rfl, ac, zk, b, Row.nil _ _ _ _ _, d, p, (Nat.zero_le _), (InsI.zero _)⟩ ?_
 rintro d6 dp dk ⟨i, ao, e, hm, ac, bi, b, a, d, p, i1, i3⟩
 refine yS bi ?_
 have dv := i3.len i1
 refine zY (wR (zD (zD (zln underlying22 (b).len (nLt i ((rows).length) ?_ ?_)))))
 ·intro d3
  refine nQ (zT (zK (zB (zY (zX (wR (zD (zr (pt l 0) (uF 0 d rfl (zln underlying22 (a.rd).len (zG (nW (xB 13 14 zk zk zk ?_)))))))))))))
  intro dr a6
  refine ⟨fun w => (w.heap[l]? = some (.cells [e, (.slice none 0 0)].toArray 78 (0, 0))) ∧ (Rd w encBrk g rows), ?_⟩
  have p := p.tr a6
  have d := zA d a6
  have b := j.below p
  refine mp 0 rfl (pt l 0) (.inr ⟨d, b⟩) zg (mp 1 rfl (pt l 0) (.inr ⟨d, b⟩) zg (mp 2 rfl (pt l 0) (.inr ⟨d, b⟩) zg (mp 3 rfl (pt l 0) (.inr ⟨d, b⟩) zg (mt 4 [4, 10, 11, 12, 13] rfl e ⟨d, b⟩ (yR l 0 e zk zf (fun w2 h2 => zW h2.1 rfl)) (mp 5 rfl g (.inr ⟨d, b⟩) zg (mp 6 rfl (N6 i) (.inr ⟨d, b⟩) zg ?_))))))
  have u := zV rows i (by first | omega | assumption); obtain ⟨t, bq⟩ := u
  have u := (b).at (k := 3) zj bq; obtain ⟨b0, aj, br, dc⟩ := u
  refine mp 7 rfl (pt b0 (aj + i * 3)) (.inr ⟨d, b⟩) (yF (k := .i64) g i _ b0 aj qJ br (by first | omega | assumption) zk zk) (mt 8 [8, 9, 10, 11, 12, 13] rfl (Value.agg #[(I3 t.1), (I3 t.2.1), (U8 t.2.2)]) ⟨d, b⟩ (R_loadA b0 (aj + i * 3) [(I3 t.1), (I3 t.2.1), (U8 t.2.2)] zk zf zf (fun w2 h2 => Rd.later (k := 3) h2.2 zj br bq)) (yD 9 zk ?_))
  refine yJ 9 rfl ?_ rfl
  refine zM 1 [(I3 t.1), (I3 t.2.1), (U8 t.2.2)] 26 ?_
  intro az cx z
  have bu := z.ge p.size
  have a := a.below a6
  have y : Value.ownBlock e = none ∨ Value.ownBlock e ≠ Value.ownBlock (.slice (some ⟨az, 0, none⟩) 1 1) := .inr (a.new_ne z)
  have h := ap_comm y
  have s : Row cx w.heap.size 26 3 encBrk (.slice (some ⟨az, 0, none⟩) 1 1) ([(t.1, t.2.1, t.2.2)] : List (Int × Int × Int)) := Row.made ([(t.1, t.2.1, t.2.2)] : List (Int × Int × Int)) z bu rfl rfl (by first | decide | (simp; done))
  refine zR ?_
  have p := p.tr z.below
  have d := zA d z.below
  have b := j.below p
  refine ⟨rfl, .inr ⟨d, b⟩, yD 10 zk (yJ 10 rfl ?_ rfl)⟩
  have a := a.below z.below
  refine L_appAll qJ w.heap.size e (.slice (some ⟨az, 0, none⟩) 1 1) ao ([(t.1, t.2.1, t.2.2)] : List (Int × Int × Int)) p.size a s.rd (by (simp only [List.length_append, List.length_cons, List.length_nil]; omega)) zj zj zk zk zk ?_
  intro bx dt cm a8 b5 
  have ag := ap_app2 s b5 h
  have p := p.tg p.size a8 a
  have d := yG d a8 (a.ne d zi)
  have s := s.grown a8 h
  have h := ag
  have a := cm
  refine zR ?_
  have b := j.below p
  refine ⟨rfl, .inr ⟨d, b⟩, mp 11 rfl (pt l 0) (.inr ⟨d, b⟩) zg (mp 12 rfl (pt l 0) (.inr ⟨d, b⟩) zg (yD 13 zk (yJ 13 rfl ?_ rfl)))⟩
  refine wL l 0 bx [e, (.slice none 0 0)] [bx, (.slice none 0 0)] 78 zk zk a.one zk d zi rfl ?_
  intro dw ay
  have a := a.wrote ay (a.ne d zi)
  have s := s.wrote ay (s.ne d zi)
  have d := ay.here
  refine zR ?_
  refine ⟨rfl, .inl zk, yO zk (zB (zY (zX ?_)))⟩
  have p := p.trans (ay.below bg)
  have b := j.below p
  refine yZ (fun m s0 w0 => ∃ (k : Nat) (c : List Brk) (e : Value), (m = k) ∧ (s0.ds = []) ∧ ([0, 10, 11, 12].map s0.f = [g, (pt l 0), (N6 i), (N6 k)]) ∧ (Rd w0 encBrk g rows) ∧ (Row w0 w.heap.size 26 3 encBrk (.slice (some ⟨az, 0, none⟩) 1 1) ([(t.1, t.2.1, t.2.2)] : List (Int × Int × Int))) ∧ (Row w0 w.heap.size 26 3 encBrk e c) ∧ (w0.heap[l]? = some (.cells [e, (.slice none 0 0)].toArray 78 (0, 0))) ∧ (Value.ownBlock (.slice (some ⟨az, 0, none⟩) 1 1) = none ∨ Value.ownBlock (.slice (some ⟨az, 0, none⟩) 1 1) ≠ Value.ownBlock e) ∧ (Below w.heap.size w w0) ∧ (InsX rows ao c i k)) _ ⟨((ao).length), (ao ++ ([(t.1, t.2.1, t.2.2)] : List (Int × Int × Int))), bx, rfl, ac, zk, b, s, a, d, h, p, (InsX.start za zo)⟩ ?_
  rintro d4 dy d1 ⟨k, c, e, hm, ac, bi, b, s, a, d, h, p, j1⟩
  refine yS bi ?_
  have d7 := j1.len
  refine zY (zY (xA zk zk (yE (xO .i64 ((k : Nat) : Int) ((0 : Nat) : Int) (0 < k) rfl (cmpN_gt k 0) zk zk ?_ ?_))))
  ·intro cu
   replace cu : 0 < k := by omega
   refine yE (qw (yE (qw (yQ (pt l 0) zf (qw (yQ (pt l 0) zf (qw (zZ l 0 e zk zf (zW d rfl) (qw (yE (qw (Lq_subN k 1 zo zo zk zk (qw ?_)))))))))))))
   have u := zV c (k - 1) (by first | omega | assumption); obtain ⟨r, a7⟩ := u
   have u := (a.rd).at (k := 3) zj a7
   obtain ⟨b6, an, cj, b7⟩ := u
   refine yM (k := .i64) e (k - 1) _ b6 an qJ cj (by first | omega | assumption) zk zk (qw (yQ (pt b6 (an + (k - 1) * 3)) zf (qw (zZ b6 (an + (k - 1) * 3) (I3 r.1) zk zf (b7 0 _ rfl) (qw (yE (qw (yE (qw ?_)))))))))
   have u := zV rows i (by first | omega | assumption); obtain ⟨q, be⟩ := u
   have u := (b).at (k := 3) zj be
   obtain ⟨b1, am, ci, ca⟩ := u
   refine yM (k := .i64) g i _ b1 am qJ ci (by first | omega | assumption) zk zk (qw (yQ (pt b1 (am + i * 3)) zf (qw (zZ b1 (am + i * 3) (I3 q.1) zk zf (ca 0 _ rfl) (qw (xO .i32 r.1 q.1 (q.1 < r.1) rfl (cmp_gt r.1 q.1) zk zk ?_ ?_))))))
   ·intro c3
    replace c3 : q.1 < r.1 := by omega
    refine qT (yN ?_)
    intro d2 ax
    refine zB (zT (zK (zB (zX (zY (xB 14 15 zk zk zk ?_))))))
    intro d0 aw
    refine ⟨fun w => (w.heap[l]? = some (.cells [e, (.slice none 0 0)].toArray 78 (0, 0))) ∧ (Rd w encBrk e c), ?_⟩
    have d := zA (zA d ax) aw
    have a := (a.below ax).below aw
    refine mp 0 rfl (pt l 0) (.inr ⟨d, a.rd⟩) zg (mp 1 rfl (pt l 0) (.inr ⟨d, a.rd⟩) zg (mp 2 rfl (pt l 0) (.inr ⟨d, a.rd⟩) zg (mt 3 [3, 13, 14] rfl e ⟨d, a.rd⟩ (yR l 0 e zk zf (fun w2 h2 => zW h2.1 rfl)) (mp 4 rfl (N6 k) (.inr ⟨d, a.rd⟩) zg (mp 5 rfl (pt l 0) (.inr ⟨d, a.rd⟩) zg (mp 6 rfl (pt l 0) (.inr ⟨d, a.rd⟩) zg (mp 7 rfl (pt l 0) (.inr ⟨d, a.rd⟩) zg (mt 8 [8, 11, 12, 13, 14] rfl e ⟨d, a.rd⟩ (yR l 0 e zk zf (fun w2 h2 => zW h2.1 rfl)) (mp 9 rfl (N6 k) (.inr ⟨d, a.rd⟩) zg (mp 10 rfl (N6 (k - 1)) (.inr ⟨d, a.rd⟩) (fun w2 _ => RI_subN k 1 (by first | omega | assumption) (by first | omega | assumption) zk zk w2) ?_))))))))))
    have u := (a.rd).at (k := 3) zj a7; obtain ⟨bw, aq, bs, de⟩ := u
    refine mp 11 rfl (pt bw (aq + (k - 1) * 3)) (.inr ⟨d, a.rd⟩) (yF (k := .i64) e (k - 1) _ bw aq qJ bs (by first | omega | assumption) zk zk) (mt 12 [12, 13, 14] rfl (Value.agg #[(I3 r.1), (I3 r.2.1), (U8 r.2.2)]) ⟨d, a.rd⟩ (R_loadA bw (aq + (k - 1) * 3) [(I3 r.1), (I3 r.2.1), (U8 r.2.2)] zk zf zf (fun w2 h2 => Rd.later (k := 3) h2.2 zj bs a7)) ?_)
    have u := zV c k (by first | omega | assumption); obtain ⟨d5, bo⟩ := u
    have u := (a.rd).at (k := 3) zj bo; obtain ⟨b4, ae, ba, cz⟩ := u
    refine mp 13 rfl (pt b4 (ae + k * 3)) (.inr ⟨d, a.rd⟩) (yF (k := .i64) e k _ b4 ae qJ ba (by first | omega | assumption) zk zk) (yD 14 zk (yJ 14 rfl ?_ rfl))
    refine L_storeRowA k b4 ae (r.1, r.2.1, r.2.2) [(I3 r.1), (I3 r.2.1), (U8 r.2.2)] a zj (by first | omega | assumption) ba zk zk rfl zk rfl ?_
    intro dh b3 au
    have p := (p.tr ax).tr aw
    have p := p.tg p.size au a
    have d := yG d au (a.ne d zi)
    have a := b3
    have ct : (List.set c k (r.1, r.2.1, r.2.2))[k]? = some (r.1, r.2.1, r.2.2) := yU bo
    refine zR ?_
    refine ⟨rfl, .inl zk, yO zk (zB (zQ (zD (zsb k 1 (zG (zR (zI ?_)))))))⟩
    have b := j.below p
    have s := ((s.below ax).below aw).grown au h
    exact zB ⟨_, zo, (k - 1), (List.set c k (r.1, r.2.1, r.2.2)), e, rfl, ac, zk, b, s, a, d, h, p, j1.step za zo za zo⟩
   intro ch
   replace ch : r.1 ≤ q.1 := by omega
   refine qT (yN ?_)
   intro db al
   refine zB (zF (yH (zL (zL (yB (zB (xB 10 11 zk zk zk ?_)))))))
   intro c6 ar
   refine ⟨fun w => (w.heap[l]? = some (.cells [e, (.slice none 0 0)].toArray 78 (0, 0))) ∧ (Rd w encBrk g rows) ∧ (Rd w encBrk e c), ?_⟩
   have p := (p.tr al).tr ar
   have d := zA (zA d al) ar
   have b := j.below p
   have a := (a.below al).below ar
   refine mp 0 rfl (pt l 0) (.inr ⟨d, b, a.rd⟩) zg (mp 1 rfl (pt l 0) (.inr ⟨d, b, a.rd⟩) zg (mp 2 rfl (pt l 0) (.inr ⟨d, b, a.rd⟩) zg (mt 3 [3, 9, 10] rfl e ⟨d, b, a.rd⟩ (yR l 0 e zk zf (fun w2 h2 => zW h2.1 rfl)) (mp 4 rfl (N6 k) (.inr ⟨d, b, a.rd⟩) zg (mp 5 rfl g (.inr ⟨d, b, a.rd⟩) zg (mp 6 rfl (N6 i) (.inr ⟨d, b, a.rd⟩) zg ?_))))))
   have u := (b).at (k := 3) zj be; obtain ⟨bc, ad, bj, c4⟩ := u
   refine mp 7 rfl (pt bc (ad + i * 3)) (.inr ⟨d, b, a.rd⟩) (yF (k := .i64) g i _ bc ad qJ bj (by first | omega | assumption) zk zk) (mt 8 [8, 9, 10] rfl (Value.agg #[(I3 q.1), (I3 q.2.1), (U8 q.2.2)]) ⟨d, b, a.rd⟩ (R_loadA bc (ad + i * 3) [(I3 q.1), (I3 q.2.1), (U8 q.2.2)] zk zf zf (fun w2 h2 => Rd.later (k := 3) h2.2.1 zj bj be)) ?_)
   have u := zV c k (by first | omega | assumption); obtain ⟨di, a5⟩ := u
   have u := (a.rd).at (k := 3) zj a5; obtain ⟨a4, af, bl, cs⟩ := u
   refine mp 9 rfl (pt a4 (af + k * 3)) (.inr ⟨d, b, a.rd⟩) (yF (k := .i64) e k _ a4 af qJ bl (by first | omega | assumption) zk zk) (yD 10 zk (yJ 10 rfl ?_ rfl))
   refine L_storeRowA k a4 af (q.1, q.2.1, q.2.2) [(I3 q.1), (I3 q.2.1), (U8 q.2.2)] a zj (by first | omega | assumption) bl zk zk rfl zk rfl ?_
   intro da bt bk
   have p := p.tg p.size bk a
   have d := yG d bk (a.ne d zi)
   have a := bt
   have cy : (List.set c k (q.1, q.2.1, q.2.2))[k]? = some (q.1, q.2.1, q.2.2) := yU a5
   refine zR ?_
   refine ⟨rfl, .inl zk, yO zk (zI (zB (zQ (zD (xL i 1 (zG (zR ?_)))))))⟩
   have b := j.below p
   exact zB ⟨_, zo, (i + 1), (List.set c k (q.1, q.2.1, q.2.2)), e, rfl, ac, zk, b, a, d, p, zo, j1.done i3 za (.inr ⟨_, by assumption, by omega⟩)⟩
  intro cb
  replace cb : k ≤ 0 := by omega
  refine yE (qs (qs (qs (qs (qs (qs (qs (qs (qs (qs (qs (qs (qs (qs (qs (qF (yN ?_)))))))))))))))))
  intro c8 ak
  refine zB (zF (yH (zL (zL (yB (zB (xB 10 11 zk zk zk ?_)))))))
  intro dg ah
  refine ⟨fun w => (w.heap[l]? = some (.cells [e, (.slice none 0 0)].toArray 78 (0, 0))) ∧ (Rd w encBrk g rows) ∧ (Rd w encBrk e c), ?_⟩
  have p := (p.tr ak).tr ah
  have d := zA (zA d ak) ah
  have b := j.below p
  have a := (a.below ak).below ah
  refine mp 0 rfl (pt l 0) (.inr ⟨d, b, a.rd⟩) zg (mp 1 rfl (pt l 0) (.inr ⟨d, b, a.rd⟩) zg (mp 2 rfl (pt l 0) (.inr ⟨d, b, a.rd⟩) zg (mt 3 [3, 9, 10] rfl e ⟨d, b, a.rd⟩ (yR l 0 e zk zf (fun w2 h2 => zW h2.1 rfl)) (mp 4 rfl (N6 k) (.inr ⟨d, b, a.rd⟩) zg (mp 5 rfl g (.inr ⟨d, b, a.rd⟩) zg (mp 6 rfl (N6 i) (.inr ⟨d, b, a.rd⟩) zg ?_))))))
  have u := zV rows i (by first | omega | assumption); obtain ⟨o, a9⟩ := u
  have u := (b).at (k := 3) zj a9; obtain ⟨bh, aa, bm, c2⟩ := u
  refine mp 7 rfl (pt bh (aa + i * 3)) (.inr ⟨d, b, a.rd⟩) (yF (k := .i64) g i _ bh aa qJ bm (by first | omega | assumption) zk zk) (mt 8 [8, 9, 10] rfl (Value.agg #[(I3 o.1), (I3 o.2.1), (U8 o.2.2)]) ⟨d, b, a.rd⟩ (R_loadA bh (aa + i * 3) [(I3 o.1), (I3 o.2.1), (U8 o.2.2)] zk zf zf (fun w2 h2 => Rd.later (k := 3) h2.2.1 zj bm a9)) ?_)
  have u := zV c k (by first | omega | assumption); obtain ⟨c9, a0⟩ := u
  have u := (a.rd).at (k := 3) zj a0; obtain ⟨bb, ab, bd, c1⟩ := u
  refine mp 9 rfl (pt bb (ab + k * 3)) (.inr ⟨d, b, a.rd⟩) (yF (k := .i64) e k _ bb ab qJ bd (by first | omega | assumption) zk zk) (yD 10 zk (yJ 10 rfl ?_ rfl))
  refine L_storeRowA k bb ab (o.1, o.2.1, o.2.2) [(I3 o.1), (I3 o.2.1), (U8 o.2.2)] a zj (by first | omega | assumption) bd zk zk rfl zk rfl ?_
  intro df bv a2
  have p := p.tg p.size a2 a
  have d := yG d a2 (a.ne d zi)
  have a := bv
  have cr : (List.set c k (o.1, o.2.1, o.2.2))[k]? = some (o.1, o.2.1, o.2.2) := yU a0
  refine zR ?_
  refine ⟨rfl, .inl zk, yO zk (zI (zB (zQ (zD (xL i 1 (zG (zR ?_)))))))⟩
  have b := j.below p
  exact zB ⟨_, zo, (i + 1), (List.set c k (o.1, o.2.1, o.2.2)), e, rfl, ac, zk, b, a, d, p, zo, j1.done i3 za (.inl zo)⟩
 intro c5
 exact nQ (zF (yH (zL (zL (yB (zB (wR (zD (zG (zG (zG (nQ (zS (yC [(pt l 0), (I6 0), (I6 0)] (hd := ac) ⟨e, (.slice none 0 0), l, rfl, a.cast (by exact i3.all zo hok), (Row.nil _ _ _ _ _), d, bg, p⟩))))))))))))))
end Go.Proofs.YtddnhlobnembaaaGreatDoor
end

/- === Wrb2 === -/
section
/- Walks, written by my program walk.py out of the specification rb2.py: each theorem says what one function returns and that it leaves memory as it was. -/
namespace Go.Proofs.YtddnhlobnembaaaGreatDoor
open Go Go.RowKit Go.FK _root_.Go.Proofs.Tryz
set_option maxHeartbeats 4000000
set_option maxRecDepth 100000
theorem c_plain8 (r : Int) (w : World) :
  Calls Tryz.prog 63 #[(I3 r)] w (Ret fun v w' => v = (I3 (askB r)) ∧ Below w.heap.size w w') := by
 refine wI 10 func63 rfl ?_
 have a := Below.refl w.heap.size w
 refine wR (zG (nW (wR (zD (zLt .i32 r 0 ?_ ?_)))))
 ·intro d
  exact zD (zs (zs (xG (nQ (zT (wR (zG (nQ (zS (zH (yC [(I3 65533)] ⟨e3 (by exact (ask_nn zo).symm), a⟩)))))))))))
 intro b
 refine zD (zw (zD (zw (zGt .i32 r 1114111 ?_ ?_))))
 ·intro e
  exact xF (nQ (zT (wR (zG (nQ (zS (zH (yC [(I3 65533)] ⟨e3 (by exact (ask_nn zo).symm), a⟩))))))))
 intro c
 exact xF (nQ (zF (zK (zB (wR (zD (zG (nQ (zS (yC [(I3 r)] ⟨e3 (by exact (ask_ny zo zo).symm), a⟩))))))))))
theorem c_twin8 (z : Nat) (s : Value) (ws : List (Int × Int × Int)) (ac : Value) (wt : List (Int × Int)) (t : Value) (l : List (Int × Int)) (r : Int) (w : World) (a : w.heap[z]? = some (.cells [s, ac].toArray 78 (0, 0))) (e : Rd w encBrk s ws) (j : Rd w encTw ac wt) (b : Rd w encTw t l) (hw : ws.length ≤ 4194304) (hl : l.length ≤ 9223372036854775807) :
  Calls Tryz.prog 56 #[(pt z 0), t, (I3 r)] w (Ret fun v w' => v = (I3 (twF ws l r)) ∧ Below w.heap.size w w') := by
 refine wI 45 func56 rfl ?_
 have c := Below.refl w.heap.size w
 have d := b
 have h := e
 have o := j
 refine wR (zG (nW (wR (zG (nQ (zX (yZ (fun m s0 w0 => ∃ (i : Nat), (m = l.length - i) ∧ (s0.ds = []) ∧ ([0, 1, 2, 7].map s0.f = [(pt z 0), t, (I3 r), (N6 i)]) ∧ (Rd w0 encTw t l) ∧ (Rd w0 encBrk s ws) ∧ (Rd w0 encTw ac wt) ∧ (w0.heap[z]? = some (.cells [s, ac].toArray 78 (0, 0))) ∧ (Below w.heap.size w w0) ∧ (i ≤ l.length) ∧ ((l.take i).find? (pT (kv ws) r) = none)) _ ⟨0, rfl, zk, zk, b, e, j, a, c, (Nat.zero_le _), rfl⟩ ?_)))))))
 rintro m1 s2 w3 ⟨i, hm, q, bg, b, e, j, a, c, i1, i2⟩
 refine yS bg (zY (wR (zD (zD (zln underlying50 (b).len (nLt i ((l).length) ?_ ?_))))))
 ·intro h4
  refine nQ (zT (zK (zB (zY (zX (zY (xB 14 16 zk zk zk ?_)))))))
  intro w5 ba
  refine ⟨fun w => (w.heap[z]? = some (.cells [s, ac].toArray 78 (0, 0))) ∧ (Rd w encTw t l), ?_⟩
  have c := c.tr ba
  have a := zA a ba
  have b := d.below c
  refine mp 0 rfl (pt z 0) (.inr ⟨a, b⟩) zg (mp 1 rfl (pt z 0) (.inr ⟨a, b⟩) zg (mp 2 rfl (pt z 0) (.inr ⟨a, b⟩) zg (mt 3 [3, 9, 10, 11, 12, 14, 15] rfl s ⟨a, b⟩ (yR z 0 s zk zf (fun w2 h2 => zW h2.1 rfl)) (mp 4 rfl t (.inr ⟨a, b⟩) zg (mp 5 rfl (N6 i) (.inr ⟨a, b⟩) zg ?_)))))
  have hz := zV l i zo; obtain ⟨n, u⟩ := hz
  have hz := (b).at (k := 2) zj u; obtain ⟨g9, y, aw, bn⟩ := hz
  refine mp 6 rfl (pt g9 (y + i * 2)) (.inr ⟨a, b⟩) (yF (k := .i64) t i _ g9 y el50 aw zo zk zk) (mp 7 rfl (pt g9 (y + i * 2)) (.inr ⟨a, b⟩) zg (mt 8 [8, 9, 10, 11, 12, 14, 15] rfl (I3 n.1) ⟨a, b⟩ (yR g9 (y + i * 2) (I3 n.1) zk zf (fun w2 h2 => Rd.later (k := 2) h2.2 zj aw u 0 _ rfl)) ?_))
  refine wS 9 13 zk ?_ ?_
  ·skip
   refine yJ 9 rfl ?_ rfl
   have e := h.below c
   refine zc (c_find8 s ws n.1 _ e zo) ?_
   rintro _ ck ⟨rfl, av⟩
   refine zR ?_
   have c := c.tr av
   have a := zA a av
   have b := d.below c
   refine ⟨rfl, .inr ⟨a, b⟩, mp 10 rfl (.tuple #[(Value.agg #[(I3 ((lookB (kv ws) n.1).1)), (I3 ((lookB (kv ws) n.1).2.1)), (U8 ((lookB (kv ws) n.1).2.2))]), (.bool ((gget (kv ws) n.1).isSome))]) (.inr ⟨a, b⟩) zg (mp 11 rfl (Value.agg #[(I3 ((lookB (kv ws) n.1).1)), (I3 ((lookB (kv ws) n.1).2.1)), (U8 ((lookB (kv ws) n.1).2.2))]) (.inr ⟨a, b⟩) zg (wS 12 13 zk ?_ ?_))⟩
   ·skip
    refine yJ 12 rfl ?_ rfl
    refine zr (.bool ((gget (kv ws) n.1).isSome)) (yK ((gget (kv ws) n.1).isSome) ?_ ?_)
    ·intro bw
     refine zR ?_
     refine ⟨rfl, .inr ⟨a, b⟩, yD 13 zk (yJ 13 rfl ?_ rfl)⟩
     refine zN [(I3 0), (I3 0), (U8 0)] 26 ?_
     intro cg b8 al
     have p := al.ge c.size
     have g := al.here
     refine zR ?_
     have c := c.tr al.below
     have a := zA a al.below
     have b := d.below c
     refine ⟨rfl, .inr ⟨a, b⟩, yD 14 zk (yJ 14 rfl ?_ rfl)⟩
     refine wG [(I3 ((lookB (kv ws) n.1).1)), (I3 ((lookB (kv ws) n.1).2.1)), (U8 ((lookB (kv ws) n.1).2.2))] g ?_
     intro bx au
     have a := zC a au (zJ a g zi)
     refine zR ?_
     refine ⟨rfl, .inl zk, mp 15 rfl (.bool true) (.inl zk) zg (yO zk (zB (wR (zD (zD (zw (zD (zw (zD (zw ?_))))))))))⟩
     have c := c.trans (au.below p)
     have b := d.below c
     have hz := (b).at (k := 2) zj u
     obtain ⟨a4, ae, be, a8⟩ := hz
     refine xY (k := .i64) t i _ a4 ae el50 be zo zk zk (zw (zr (pt a4 (ae + i * 2)) (zw (uK a4 (ae + i * 2) (I3 n.1) zk zk (a8 0 _ rfl) (zw (zD (zw (qA .i32 n.1 r ?_ ?_))))))))
     ·intro ce
      exact xG (nQ (zT (wR (zD (zD (zE b el50 i u 1 rfl fun _ _ => (zG (nQ (zS (zP (zH (zH (zP (zH (yC [(I3 n.2)] (hd := q) ⟨e3 (by exact (tw_hit i2 za za za).symm), c⟩)))))))))))))))
     intro b5
     refine xG (nQ (zF (zK (zI (zB (zQ (zD (xL i 1 (zG (zR ?_))))))))))
     have e := h.below c
     have j := o.below c
     exact zB ⟨_, zo, (i + 1), rfl, q, zk, b, e, j, a, c, zo, tf_on2 i2 za za⟩
    intro ca
    refine zR ?_
    refine ⟨rfl, .inr ⟨a, b⟩, yD 13 zk (yJ 13 rfl ?_ rfl)⟩
    refine zN [(I3 0), (I3 0), (U8 0)] 26 ?_
    intro cf b7 am
    have p := am.ge c.size
    have g := am.here
    refine zR ?_
    have c := c.tr am.below
    have a := zA a am.below
    have b := d.below c
    refine ⟨rfl, .inr ⟨a, b⟩, yD 14 zk (yJ 14 rfl ?_ rfl)⟩
    refine wG [(I3 ((lookB (kv ws) n.1).1)), (I3 ((lookB (kv ws) n.1).2.1)), (U8 ((lookB (kv ws) n.1).2.2))] g ?_
    intro bt ay
    have a := zC a ay (zJ a g zi)
    refine zR ?_
    refine ⟨rfl, .inl zk, mp 15 rfl (.bool false) (.inl zk) zg (yO zk (zB (wR (zD (zD (zs (zs (zs (zs (zs (zs (zs (xF (nQ (zF (zK (zI (zB (zQ (zD (xL i 1 (zG (zR ?_)))))))))))))))))))))))⟩
    have c := c.trans (ay.below p)
    have b := d.below c
    have e := h.below c
    have j := o.below c
    exact zB ⟨_, zo, (i + 1), rfl, q, zk, b, e, j, a, c, zo, tf_on1 i2 za za⟩
   skip
   refine yJ 13 rfl ?_ rfl
   refine zN [(I3 0), (I3 0), (U8 0)] 26 ?_
   intro b1 bv ak
   have p := ak.ge c.size
   have g := ak.here
   refine zR ?_
   have c := c.tr ak.below
   have a := zA a ak.below
   have b := d.below c
   refine ⟨rfl, .inr ⟨a, b⟩, wS 12 14 zk ?_ ?_⟩
   ·skip
    refine yJ 12 rfl ?_ rfl
    refine zr (.bool ((gget (kv ws) n.1).isSome)) (yK ((gget (kv ws) n.1).isSome) ?_ ?_)
    ·intro b4
     refine zR ?_
     refine ⟨rfl, .inr ⟨a, b⟩, yD 14 zk (yJ 14 rfl ?_ rfl)⟩
     refine wG [(I3 ((lookB (kv ws) n.1).1)), (I3 ((lookB (kv ws) n.1).2.1)), (U8 ((lookB (kv ws) n.1).2.2))] g ?_
     intro b0 ar
     have a := zC a ar (zJ a g zi)
     refine zR ?_
     refine ⟨rfl, .inl zk, mp 15 rfl (.bool true) (.inl zk) zg (yO zk (zB (wR (zD (zD (zw (zD (zw (zD (zw ?_))))))))))⟩
     have c := c.trans (ar.below p)
     have b := d.below c
     have hz := (b).at (k := 2) zj u
     obtain ⟨a1, ai, bc, bb⟩ := hz
     refine xY (k := .i64) t i _ a1 ai el50 bc zo zk zk (zw (zr (pt a1 (ai + i * 2)) (zw (uK a1 (ai + i * 2) (I3 n.1) zk zk (bb 0 _ rfl) (zw (zD (zw (qA .i32 n.1 r ?_ ?_))))))))
     ·intro cc
      exact xG (nQ (zT (wR (zD (zD (zE b el50 i u 1 rfl fun _ _ => (zG (nQ (zS (zP (zH (zH (zP (zH (yC [(I3 n.2)] (hd := q) ⟨e3 (by exact (tw_hit i2 za za za).symm), c⟩)))))))))))))))
     intro b2
     refine xG (nQ (zF (zK (zI (zB (zQ (zD (xL i 1 (zG (zR ?_))))))))))
     have e := h.below c
     have j := o.below c
     exact zB ⟨_, zo, (i + 1), rfl, q, zk, b, e, j, a, c, zo, tf_on2 i2 za za⟩
    intro b3
    refine zR ?_
    refine ⟨rfl, .inr ⟨a, b⟩, yD 14 zk (yJ 14 rfl ?_ rfl)⟩
    refine wG [(I3 ((lookB (kv ws) n.1).1)), (I3 ((lookB (kv ws) n.1).2.1)), (U8 ((lookB (kv ws) n.1).2.2))] g ?_
    intro br az
    have a := zC a az (zJ a g zi)
    refine zR ?_
    refine ⟨rfl, .inl zk, mp 15 rfl (.bool false) (.inl zk) zg (yO zk (zB (wR (zD (zD (zs (zs (zs (zs (zs (zs (zs (xF (nQ (zF (zK (zI (zB (zQ (zD (xL i 1 (zG (zR ?_)))))))))))))))))))))))⟩
    have c := c.trans (az.below p)
    have b := d.below c
    have e := h.below c
    have j := o.below c
    exact zB ⟨_, zo, (i + 1), rfl, q, zk, b, e, j, a, c, zo, tf_on1 i2 za za⟩
   skip
   refine yJ 14 rfl ?_ rfl
   refine wG [(I3 ((lookB (kv ws) n.1).1)), (I3 ((lookB (kv ws) n.1).2.1)), (U8 ((lookB (kv ws) n.1).2.2))] g ?_
   intro b9 aq
   have a := zC a aq (zJ a g zi)
   refine zR ?_
   refine ⟨rfl, .inl zk, yD 12 zk (yJ 12 rfl ?_ rfl)⟩
   refine zr (.bool ((gget (kv ws) n.1).isSome)) (yK ((gget (kv ws) n.1).isSome) ?_ ?_)
   ·intro cd
    refine zR ?_
    refine ⟨rfl, .inl zk, mp 15 rfl (.bool true) (.inl zk) zg (yO zk (zB (wR (zD (zD (zw (zD (zw (zD (zw ?_))))))))))⟩
    have c := c.trans (aq.below p)
    have b := d.below c
    have hz := (b).at (k := 2) zj u
    obtain ⟨a3, af, a6, a7⟩ := hz
    refine xY (k := .i64) t i _ a3 af el50 a6 zo zk zk (zw (zr (pt a3 (af + i * 2)) (zw (uK a3 (af + i * 2) (I3 n.1) zk zk (a7 0 _ rfl) (zw (zD (zw (qA .i32 n.1 r ?_ ?_))))))))
    ·intro cb
     exact xG (nQ (zT (wR (zD (zD (zE b el50 i u 1 rfl fun _ _ => (zG (nQ (zS (zP (zH (zH (zP (zH (yC [(I3 n.2)] (hd := q) ⟨e3 (by exact (tw_hit i2 za za za).symm), c⟩)))))))))))))))
    intro cl
    refine xG (nQ (zF (zK (zI (zB (zQ (zD (xL i 1 (zG (zR ?_))))))))))
    have e := h.below c
    have j := o.below c
    exact zB ⟨_, zo, (i + 1), rfl, q, zk, b, e, j, a, c, zo, tf_on2 i2 za za⟩
   intro cj
   refine zR ?_
   refine ⟨rfl, .inl zk, mp 15 rfl (.bool false) (.inl zk) zg (yO zk (zB (wR (zD (zD (zs (zs (zs (zs (zs (zs (zs (xF (nQ (zF (zK (zI (zB (zQ (zD (xL i 1 (zG (zR ?_)))))))))))))))))))))))⟩
   have c := c.trans (aq.below p)
   have b := d.below c
   have e := h.below c
   have j := o.below c
   exact zB ⟨_, zo, (i + 1), rfl, q, zk, b, e, j, a, c, zo, tf_on1 i2 za za⟩
  skip
  refine yJ 13 rfl ?_ rfl
  refine zN [(I3 0), (I3 0), (U8 0)] 26 ?_
  intro bz bu aj
  have p := aj.ge c.size
  have g := aj.here
  refine zR ?_
  have c := c.tr aj.below
  have a := zA a aj.below
  have b := d.below c
  refine ⟨rfl, .inr ⟨a, b⟩, yD 9 zk (yJ 9 rfl ?_ rfl)⟩
  have e := h.below c
  refine zc (c_find8 s ws n.1 _ e zo) ?_
  rintro _ bs ⟨rfl, ab⟩
  refine zR ?_
  have c := c.tr ab
  have a := zA a ab
  have b := d.below c
  refine ⟨rfl, .inr ⟨a, b⟩, mp 10 rfl (.tuple #[(Value.agg #[(I3 ((lookB (kv ws) n.1).1)), (I3 ((lookB (kv ws) n.1).2.1)), (U8 ((lookB (kv ws) n.1).2.2))]), (.bool ((gget (kv ws) n.1).isSome))]) (.inr ⟨a, b⟩) zg (mp 11 rfl (Value.agg #[(I3 ((lookB (kv ws) n.1).1)), (I3 ((lookB (kv ws) n.1).2.1)), (U8 ((lookB (kv ws) n.1).2.2))]) (.inr ⟨a, b⟩) zg (wS 12 14 zk ?_ ?_))⟩
  ·skip
   refine yJ 12 rfl ?_ rfl
   refine zr (.bool ((gget (kv ws) n.1).isSome)) (yK ((gget (kv ws) n.1).isSome) ?_ ?_)
   ·intro b6
    refine zR ?_
    refine ⟨rfl, .inr ⟨a, b⟩, yD 14 zk (yJ 14 rfl ?_ rfl)⟩
    have g := zA g ab
    refine wG [(I3 ((lookB (kv ws) n.1).1)), (I3 ((lookB (kv ws) n.1).2.1)), (U8 ((lookB (kv ws) n.1).2.2))] g ?_
    intro ci ax
    have a := zC a ax (zJ a g zi)
    refine zR ?_
    refine ⟨rfl, .inl zk, mp 15 rfl (.bool true) (.inl zk) zg (yO zk (zB (wR (zD (zD (zw (zD (zw (zD (zw ?_))))))))))⟩
    have c := c.trans (ax.below p)
    have b := d.below c
    have hz := (b).at (k := 2) zj u
    obtain ⟨a0, ag, a9, bd⟩ := hz
    refine xY (k := .i64) t i _ a0 ag el50 a9 zo zk zk (zw (zr (pt a0 (ag + i * 2)) (zw (uK a0 (ag + i * 2) (I3 n.1) zk zk (bd 0 _ rfl) (zw (zD (zw (qA .i32 n.1 r ?_ ?_))))))))
    ·intro ch
     exact xG (nQ (zT (wR (zD (zD (zE b el50 i u 1 rfl fun _ _ => (zG (nQ (zS (zP (zH (zH (zP (zH (yC [(I3 n.2)] (hd := q) ⟨e3 (by exact (tw_hit i2 za za za).symm), c⟩)))))))))))))))
    intro bm
    refine xG (nQ (zF (zK (zI (zB (zQ (zD (xL i 1 (zG (zR ?_))))))))))
    have e := h.below c
    have j := o.below c
    exact zB ⟨_, zo, (i + 1), rfl, q, zk, b, e, j, a, c, zo, tf_on2 i2 za za⟩
   intro bj
   refine zR ?_
   refine ⟨rfl, .inr ⟨a, b⟩, yD 14 zk (yJ 14 rfl ?_ rfl)⟩
   have g := zA g ab
   refine wG [(I3 ((lookB (kv ws) n.1).1)), (I3 ((lookB (kv ws) n.1).2.1)), (U8 ((lookB (kv ws) n.1).2.2))] g ?_
   intro bh ao
   have a := zC a ao (zJ a g zi)
   refine zR ?_
   refine ⟨rfl, .inl zk, mp 15 rfl (.bool false) (.inl zk) zg (yO zk (zB (wR (zD (zD (zs (zs (zs (zs (zs (zs (zs (xF (nQ (zF (zK (zI (zB (zQ (zD (xL i 1 (zG (zR ?_)))))))))))))))))))))))⟩
   have c := c.trans (ao.below p)
   have b := d.below c
   have e := h.below c
   have j := o.below c
   exact zB ⟨_, zo, (i + 1), rfl, q, zk, b, e, j, a, c, zo, tf_on1 i2 za za⟩
  skip
  refine yJ 14 rfl ?_ rfl
  have g := zA g ab
  refine wG [(I3 ((lookB (kv ws) n.1).1)), (I3 ((lookB (kv ws) n.1).2.1)), (U8 ((lookB (kv ws) n.1).2.2))] g ?_
  intro bp ah
  have a := zC a ah (zJ a g zi)
  refine zR ?_
  refine ⟨rfl, .inl zk, yD 12 zk (yJ 12 rfl ?_ rfl)⟩
  refine zr (.bool ((gget (kv ws) n.1).isSome)) (yK ((gget (kv ws) n.1).isSome) ?_ ?_)
  ·intro bk
   refine zR ?_
   refine ⟨rfl, .inl zk, mp 15 rfl (.bool true) (.inl zk) zg (yO zk (zB (wR (zD (zD (zw (zD (zw (zD (zw ?_))))))))))⟩
   have c := c.trans (ah.below p)
   have b := d.below c
   have hz := (b).at (k := 2) zj u
   obtain ⟨ap, aa, a2, a5⟩ := hz
   refine xY (k := .i64) t i _ ap aa el50 a2 zo zk zk (zw (zr (pt ap (aa + i * 2)) (zw (uK ap (aa + i * 2) (I3 n.1) zk zk (a5 0 _ rfl) (zw (zD (zw (qA .i32 n.1 r ?_ ?_))))))))
   ·intro bq
    exact xG (nQ (zT (wR (zD (zD (zE b el50 i u 1 rfl fun _ _ => (zG (nQ (zS (zP (zH (zH (zP (zH (yC [(I3 n.2)] (hd := q) ⟨e3 (by exact (tw_hit i2 za za za).symm), c⟩)))))))))))))))
   intro bl
   refine xG (nQ (zF (zK (zI (zB (zQ (zD (xL i 1 (zG (zR ?_))))))))))
   have e := h.below c
   have j := o.below c
   exact zB ⟨_, zo, (i + 1), rfl, q, zk, b, e, j, a, c, zo, tf_on2 i2 za za⟩
  intro bo
  refine zR ?_
  refine ⟨rfl, .inl zk, mp 15 rfl (.bool false) (.inl zk) zg (yO zk (zB (wR (zD (zD (zs (zs (zs (zs (zs (zs (zs (xF (nQ (zF (zK (zI (zB (zQ (zD (xL i 1 (zG (zR ?_)))))))))))))))))))))))⟩
  have c := c.trans (ah.below p)
  have b := d.below c
  have e := h.below c
  have j := o.below c
  exact zB ⟨_, zo, (i + 1), rfl, q, zk, b, e, j, a, c, zo, tf_on1 i2 za za⟩
 intro bi
 exact nQ (zF (yH (zL (zL (yB (zB (wR (zD (zG (nQ (zS (yC [(I3 r)] (hd := q) ⟨e3 (by exact (tw_end i2 zo).symm), c⟩))))))))))))
theorem c_rBracket (i : Nat) (d : Value) (ws : List (Int × Int × Int)) (o : Value) (wt : List (Int × Int)) (r : Int) (w : World) (a : w.heap[i]? = some (.cells [d, o].toArray 78 (0, 0))) (c : Rd w encBrk d ws) (ae : Rd w encTw o wt) (hw : ws.length ≤ 4194304) :
  Calls Tryz.prog 33 #[(pt i 0), (I3 r)] w (Ret fun v w' => v = (.tuple #[(I3 ((brkF (kv ws) r).1)), (U8 ((brkF (kv ws) r).2))]) ∧ Below w.heap.size w w') := by
 refine wI 24 func33 rfl ?_
 have e := Below.refl w.heap.size w
 refine wR (zG (zG (nW (wR (zD (zr (.bool false) (nQ (zF (zK (zB (zY (xB 11 13 zk zk zk ?_))))))))))))
 intro w1 j
 refine ⟨fun w => (w.heap[i]? = some (.cells [d, o].toArray 78 (0, 0))), ?_⟩
 have a := zA a j
 refine mp 0 rfl (pt i 0) (.inr a) zg (mp 1 rfl (pt i 0) (.inr a) zg (mp 2 rfl (pt i 0) (.inr a) zg (mt 3 [3, 6, 7, 8, 9, 11, 12] rfl d a (yR i 0 d zk zf (fun w2 h2 => zW h2 rfl)) (mp 4 rfl (I3 r) (.inr a) zg ?_))))
 refine wS 5 10 zk ?_ ?_
 ·skip
  refine yJ 5 rfl ?_ rfl
  refine zc (c_plain8 r _ ) ?_
  rintro _ w3 ⟨rfl, p⟩
  refine zR ?_
  have a := zA a p
  refine ⟨rfl, .inr a, wS 6 10 zk ?_ ?_⟩
  ·skip
   refine yJ 6 rfl ?_ rfl
   have c := (c.below j).below p
   refine zc (c_find8 d ws (askB r) _ c zo) ?_
   rintro _ w6 ⟨rfl, aa⟩
   refine zR ?_
   have a := zA a aa
   refine ⟨rfl, .inr a, mp 7 rfl (.tuple #[(Value.agg #[(I3 ((lookB (kv ws) (askB r)).1)), (I3 ((lookB (kv ws) (askB r)).2.1)), (U8 ((lookB (kv ws) (askB r)).2.2))]), (.bool ((gget (kv ws) (askB r)).isSome))]) (.inr a) zg (mp 8 rfl (Value.agg #[(I3 ((lookB (kv ws) (askB r)).1)), (I3 ((lookB (kv ws) (askB r)).2.1)), (U8 ((lookB (kv ws) (askB r)).2.2))]) (.inr a) zg (mp 9 rfl (.bool ((gget (kv ws) (askB r)).isSome)) (.inr a) zg (yD 10 zk (yJ 10 rfl ?_ rfl))))⟩
   refine zN [(I3 0), (I3 0), (U8 0)] 26 ?_
   intro b9 ag l
   have e := ((e.tr j).tr p).tr aa
   have h := l.ge e.size
   have b := l.here
   refine zR ?_
   have a := zA a l.below
   refine ⟨rfl, .inr a, yD 11 zk (yJ 11 rfl ?_ rfl)⟩
   refine wG [(I3 ((lookB (kv ws) (askB r)).1)), (I3 ((lookB (kv ws) (askB r)).2.1)), (U8 ((lookB (kv ws) (askB r)).2.2))] b ?_
   intro an y
   have b := y.here
   refine zR ?_
   refine ⟨rfl, .inl zk, mp 12 rfl (.bool ((gget (kv ws) (askB r)).isSome)) (.inl zk) zg (yO zk (zB (zY (xA zk zk (yQ (pt b9 1) zf (zZ b9 1 (I3 ((lookB (kv ws) (askB r)).2.1)) zk zf (zW b rfl) (yQ (pt b9 2) zf (zZ b9 2 (U8 ((lookB (kv ws) (askB r)).2.2)) zk zf (zW b rfl) (wU (wU (yN ?_)))))))))))⟩
   intro af ac
   have e := ((e.tr l.below).trans (y.below h)).tr ac
   exact zB (zS (yC [(I3 ((lookB (kv ws) (askB r)).2.1)), (U8 ((lookB (kv ws) (askB r)).2.2))] ⟨xE (e3 (by first | (rw [brk_look]; done))) (eu (by first | (rw [brk_look]; done))), e⟩))
  skip
  refine yJ 10 rfl ?_ rfl
  refine zN [(I3 0), (I3 0), (U8 0)] 26 ?_
  intro s ap f
  have e := (e.tr j).tr p
  have h := f.ge e.size
  have b := f.here
  refine zR ?_
  have a := zA a f.below
  refine ⟨rfl, .inr a, yD 6 zk (yJ 6 rfl ?_ rfl)⟩
  have c := ((c.below j).below p).below f.below
  refine zc (c_find8 d ws (askB r) _ c zo) ?_
  rintro _ ak ⟨rfl, m⟩
  refine zR ?_
  have a := zA a m
  refine ⟨rfl, .inr a, mp 7 rfl (.tuple #[(Value.agg #[(I3 ((lookB (kv ws) (askB r)).1)), (I3 ((lookB (kv ws) (askB r)).2.1)), (U8 ((lookB (kv ws) (askB r)).2.2))]), (.bool ((gget (kv ws) (askB r)).isSome))]) (.inr a) zg (mp 8 rfl (Value.agg #[(I3 ((lookB (kv ws) (askB r)).1)), (I3 ((lookB (kv ws) (askB r)).2.1)), (U8 ((lookB (kv ws) (askB r)).2.2))]) (.inr a) zg (mp 9 rfl (.bool ((gget (kv ws) (askB r)).isSome)) (.inr a) zg (yD 11 zk (yJ 11 rfl ?_ rfl))))⟩
  have b := zA b m
  refine wG [(I3 ((lookB (kv ws) (askB r)).1)), (I3 ((lookB (kv ws) (askB r)).2.1)), (U8 ((lookB (kv ws) (askB r)).2.2))] b ?_
  intro ai u
  have b := u.here
  refine zR ?_
  refine ⟨rfl, .inl zk, mp 12 rfl (.bool ((gget (kv ws) (askB r)).isSome)) (.inl zk) zg (yO zk (zB (zY (xA zk zk (yQ (pt s 1) zf (zZ s 1 (I3 ((lookB (kv ws) (askB r)).2.1)) zk zf (zW b rfl) (yQ (pt s 2) zf (zZ s 2 (U8 ((lookB (kv ws) (askB r)).2.2)) zk zf (zW b rfl) (wU (wU (yN ?_)))))))))))⟩
  intro al ab
  have e := (((e.tr f.below).tr m).trans (u.below h)).tr ab
  exact zB (zS (yC [(I3 ((lookB (kv ws) (askB r)).2.1)), (U8 ((lookB (kv ws) (askB r)).2.2))] ⟨xE (e3 (by first | (rw [brk_look]; done))) (eu (by first | (rw [brk_look]; done))), e⟩))
 skip
 refine yJ 10 rfl ?_ rfl
 refine zN [(I3 0), (I3 0), (U8 0)] 26 ?_
 intro q ah g
 have e := e.tr j
 have h := g.ge e.size
 have b := g.here
 refine zR ?_
 have a := zA a g.below
 refine ⟨rfl, .inr a, yD 5 zk (yJ 5 rfl ?_ rfl)⟩
 refine zc (c_plain8 r _ ) ?_
 rintro _ am ⟨rfl, k⟩
 refine zR ?_
 have a := zA a k
 refine ⟨rfl, .inr a, yD 6 zk (yJ 6 rfl ?_ rfl)⟩
 have c := ((c.below j).below g.below).below k
 refine zc (c_find8 d ws (askB r) _ c zo) ?_
 rintro _ aq ⟨rfl, n⟩
 refine zR ?_
 have a := zA a n
 refine ⟨rfl, .inr a, mp 7 rfl (.tuple #[(Value.agg #[(I3 ((lookB (kv ws) (askB r)).1)), (I3 ((lookB (kv ws) (askB r)).2.1)), (U8 ((lookB (kv ws) (askB r)).2.2))]), (.bool ((gget (kv ws) (askB r)).isSome))]) (.inr a) zg (mp 8 rfl (Value.agg #[(I3 ((lookB (kv ws) (askB r)).1)), (I3 ((lookB (kv ws) (askB r)).2.1)), (U8 ((lookB (kv ws) (askB r)).2.2))]) (.inr a) zg (mp 9 rfl (.bool ((gget (kv ws) (askB r)).isSome)) (.inr a) zg (yD 11 zk (yJ 11 rfl ?_ rfl))))⟩
 have b := zA (zA b k) n
 refine wG [(I3 ((lookB (kv ws) (askB r)).1)), (I3 ((lookB (kv ws) (askB r)).2.1)), (U8 ((lookB (kv ws) (askB r)).2.2))] b ?_
 intro ao t
 have b := t.here
 refine zR ?_
 refine ⟨rfl, .inl zk, mp 12 rfl (.bool ((gget (kv ws) (askB r)).isSome)) (.inl zk) zg (yO zk (zB (zY (xA zk zk (yQ (pt q 1) zf (zZ q 1 (I3 ((lookB (kv ws) (askB r)).2.1)) zk zf (zW b rfl) (yQ (pt q 2) zf (zZ q 2 (U8 ((lookB (kv ws) (askB r)).2.2)) zk zf (zW b rfl) (wU (wU (yN ?_)))))))))))⟩
 intro aj z
 have e := ((((e.tr g.below).tr k).tr n).trans (t.below h)).tr z
 exact zB (zS (yC [(I3 ((lookB (kv ws) (askB r)).2.1)), (U8 ((lookB (kv ws) (askB r)).2.2))] ⟨xE (e3 (by first | (rw [brk_look]; done))) (eu (by first | (rw [brk_look]; done))), e⟩))
theorem c_rTwin (b : Nat) (c : Value) (ws : List (Int × Int × Int)) (a : Value) (wt : List (Int × Int)) (r : Int) (w : World) (e : w.heap[b]? = some (.cells [c, a].toArray 78 (0, 0))) (f : Rd w encBrk c ws) (d : Rd w encTw a wt) (hw : ws.length ≤ 4194304) (ht : wt.length ≤ 9223372036854775807) :
  Calls Tryz.prog 34 #[(pt b 0), (I3 r)] w (Ret fun v w' => v = (I3 (twF ws wt (askB r))) ∧ Below w.heap.size w w') := by
 refine wI 16 func34 rfl ?_
 have g := Below.refl w.heap.size w
 refine wR (zG (nW (wR (zD (zr (.bool false) (nQ (zF (zK (zB (zY (xA zk zk (yE (yE (yQ (pt b 0) zf (yQ (pt b 1) zf (zZ b 1 a zk zf (zW e rfl) (yE (xX 63 [(I3 r)] (I3 (askB r)) zg (fun wq hbq => c_plain8 r wq ) (xX 56 [(pt b 0), a, (I3 (askB r))] (I3 (twF ws wt (askB r))) zg (fun wq hbq => c_twin8 b c ws a wt a wt (askB r) wq (zA e hbq) (f.below hbq) (d.below hbq) (d.below hbq) zo zo) (wU (yN ?_)))))))))))))))))))))
 intro i h
 have g := g.tr h
 exact zB (zS (yC [(I3 (twF ws wt (askB r)))] ⟨rfl, g⟩))
theorem c_rMatches (j : Nat) (e : Value) (ws : List (Int × Int × Int)) (f : Value) (wt : List (Int × Int)) (o : Int) (c : Int) (w : World) (d : w.heap[j]? = some (.cells [e, f].toArray 78 (0, 0))) (a : Rd w encBrk e ws) (b : Rd w encTw f wt) (hw : ws.length ≤ 4194304) (ht : wt.length ≤ 9223372036854775807) :
  Calls Tryz.prog 35 #[(pt j 0), (I3 o), (I3 c)] w (Ret fun v w' => v = (.bool (mtcW ws wt o c)) ∧ Below w.heap.size w w') := by
 refine wI 38 func35 rfl ?_
 have k := Below.refl w.heap.size w
 refine wR (zG (nR (zD (zD (zc (c_rBracket j e ws f wt o _ d a b zo) ?_)))))
 rintro _ z ⟨rfl, h⟩
 have d := zA d h
 have a := a.below h
 have b := b.below h
 refine zD (zr (I3 ((brkF (kv ws) o).1)) (zr (U8 ((brkF (kv ws) o).2)) (zG (zG (nR (zD (zD (zc (c_rBracket j e ws f wt c _ d a b zo) ?_))))))))
 rintro _ u ⟨rfl, i⟩
 refine zD (zr (I3 ((brkF (kv ws) c).1)) (zr (U8 ((brkF (kv ws) c).2)) (zG (zG (nR (zD (qA .u8 ((brkF (kv ws) o).2) 1 ?_ ?_)))))))
 ·intro t
  refine zD (zw (zD (zw (qA .u8 ((brkF (kv ws) c).2) 2 ?_ ?_))))
  ·intro y
   have d := zA d i
   have a := a.below i
   have b := b.below i
   refine xG (zD (zw (zD (zw (zD (zw (zc (c_rTwin j e ws f wt ((brkF (kv ws) o).1) _ d a b zo zo) ?_)))))))
   rintro _ s ⟨rfl, g⟩
   have d := zA d g
   have a := a.below g
   have b := b.below g
   refine zw (zD (zw (zD (zw (zc (c_rTwin j e ws f wt c _ d a b zo zo) ?_)))))
   rintro _ p ⟨rfl, l⟩
   refine zw (qA .i32 (twF ws wt (askB ((brkF (kv ws) o).1))) (twF ws wt (askB c)) ?_ ?_)
   ·intro r
    have k := (((k.tr h).tr i).tr g).tr l
    exact xG (zG (nQ (zS (yC [(.bool true)] ⟨eb (by (rw [mtw_3 za za]; first | exact (decide_eq_true za).symm | exact (decide_eq_false za).symm | rfl)), k⟩))))
   intro n
   have k := (((k.tr h).tr i).tr g).tr l
   exact xG (zG (nQ (zS (yC [(.bool false)] ⟨eb (by (rw [mtw_3 za za]; first | exact (decide_eq_true za).symm | exact (decide_eq_false za).symm | rfl)), k⟩))))
  intro m
  have k := (k.tr h).tr i
  exact xG (zD (zs (zs (zs (zs (zs (zs (zs (xF (zG (nQ (zS (yC [(.bool false)] ⟨eb (by exact (mtw_2 za).symm), k⟩)))))))))))))
 intro q
 have k := (k.tr h).tr i
 exact zD (zs (zs (xF (zD (zs (zs (zs (zs (zs (zs (zs (xF (zG (nQ (zS (yC [(.bool false)] ⟨eb (by exact (mtw_1 za).symm), k⟩))))))))))))))))
end Go.Proofs.YtddnhlobnembaaaGreatDoor
end

/- === Wrb3 === -/
section
/- Walks, written by my program walk.py out of the specification rb3.py: each theorem says what one function returns and that it leaves memory as it was. -/
namespace Go.Proofs.YtddnhlobnembaaaGreatDoor
open Go Go.RowKit Go.FK _root_.Go.Proofs.Tryz
set_option maxHeartbeats 4000000
set_option maxRecDepth 100000
theorem c_rShow (r : Int) (w : World) :
  Calls Tryz.prog 64 #[(I3 r)] w (Ret fun v w' => v = (.tuple #[(S ((showF r).1)), (I6 ((showF r).2))]) ∧ Below w.heap.size w w') := by
 refine wI 31 func64 rfl ?_
 have c := Below.refl w.heap.size w
 refine wR (zG (zG (nW (wR (zD (zLt .i32 r 0 ?_ ?_))))))
 ·intro h1
  exact zD (zs (zs (xG (nQ (zT (wR (zG (zG (nQ (zS (zH (yC [(S []), (I6 40)] ⟨xE (congrArg S (by (rw [uC zo]; done))) (e6 (by (rw [uC zo]; done))), c⟩))))))))))))
 intro h2
 refine zD (zw (zD (zw (zGt .i32 r 1114111 ?_ ?_))))
 ·intro h3
  exact xF (nQ (zT (wR (zG (zG (nQ (zS (zH (yC [(S []), (I6 40)] ⟨xE (congrArg S (by (rw [uC zo]; done))) (e6 (by (rw [uC zo]; done))), c⟩)))))))))
 intro h4
 refine xF (nQ (zF (zK (zB (wR (zG (nR (zD (vS (k := .i32) r r zk underlying3 zk (yW _ zo zo) (zG (nW (zX (yZ (fun m s0 w0 => ∃ (a : List UInt8) (z : Int), (m = 10 - a.length) ∧ (s0.ds = []) ∧ ([2, 3, 4, 5].map s0.f = [(S []), (I6 0), (S a), (I6 z)]) ∧ (Below w.heap.size w w0) ∧ (a.length ≤ cntD r.toNat) ∧ (z = ((r.toNat / 16 ^ a.length : Nat) : Int)) ∧ (a = digsD r.toNat a.length)) _ ⟨([] : List UInt8), r, rfl, zk, zk, c, Nat.zero_le _, by simp; omega, rfl⟩ ?_)))))))))))))
 rintro m5 s6 w7 ⟨a, z, hm, o, ac, c, i1, g, h⟩
 refine yS ac ?_
 have ag := cntD_le r.toNat
 have ah := show_facts i1 g zo
 refine zY (wR (zD (zGt .i64 z 0 ?_ ?_)))
 ·intro h8
  refine zD (zs (zs (zs (xG (nQ (zT (zK (zB (zX (wR (zD (L_rem (k := .i64) z 16 zo zo zk zk ?_))))))))))))
  have hz := zV ([48, 49, 50, 51, 52, 53, 54, 55, 56, 57, 65, 66, 67, 68, 69, 70] : List UInt8) ((z % 16).toNat) (by (rw [show (([48, 49, 50, 51, 52, 53, 54, 55, 56, 57, 65, 66, 67, 68, 69, 70] : List UInt8)).length = 16 from rfl]; omega)); obtain ⟨i, y⟩ := hz
  have := i.toNat_lt
  refine L_sindexZ (k := .i64) ([48, 49, 50, 51, 52, 53, 54, 55, 56, 57, 65, 66, 67, 68, 69, 70] : List UInt8) (z % 16) ((z % 16).toNat) i zo underlying9 y zk zk (zM 1 [(U8 ((i.toNat : Nat) : Int))] 5 ?_)
  intro u ae e
  have n := e.ge c.size
  have l : Row ae w.heap.size 5 1 encU8 (.slice (some ⟨u, 0, none⟩) 1 1) ([((i.toNat : Nat) : Int)] : List (Int)) := Row.made ([((i.toNat : Nat) : Int)] : List (Int)) e n rfl rfl (by first | decide | (simp; done))
  refine L_bytesStr (.slice (some ⟨u, 0, none⟩) 1 1) ([((i.toNat : Nat) : Int)] : List (Int)) underlying97 underlying5 underlying9 zk l.rd (zD (wE (bytesI ([((i.toNat : Nat) : Int)] : List (Int))) a (by (simp only [bytesI, List.length_map, List.length_append, List.length_cons, List.length_nil]; omega)) zk zk (zG (nQ (zQ (zD (L_quo (k := .i64) z 16 (z / 16) zo zo zk zk (yW _ zo zo) (zG (zR (zI ?_))))))))))
  have c := c.tr e.below
  refine zB ⟨_, ?_, ((bytesI ([((i.toNat : Nat) : Int)] : List (Int))) ++ a), (z / 16), rfl, o, zk, c, ?_, ?_, ?_⟩
  ·have p := uD g h za; omega
  ·have p := uD g h za; omega
  ·exact (uD g h za).2.1
  exact (uD g h za).2.2
 intro aj
 refine zD (zw (zD (zw (zsl 9 a (zw (nLt ((a).length) 4 ?_ ?_))))))
 ·intro ai
  refine xF (nQ (zT (zK (zB (zX (wR (zD (L_rem (k := .i64) z 16 zo zo zk zk ?_))))))))
  have hz := zV ([48, 49, 50, 51, 52, 53, 54, 55, 56, 57, 65, 66, 67, 68, 69, 70] : List UInt8) ((z % 16).toNat) (by (rw [show (([48, 49, 50, 51, 52, 53, 54, 55, 56, 57, 65, 66, 67, 68, 69, 70] : List UInt8)).length = 16 from rfl]; omega)); obtain ⟨b, t⟩ := hz
  have := b.toNat_lt
  refine L_sindexZ (k := .i64) ([48, 49, 50, 51, 52, 53, 54, 55, 56, 57, 65, 66, 67, 68, 69, 70] : List UInt8) (z % 16) ((z % 16).toNat) b zo underlying9 t zk zk (zM 1 [(U8 ((b.toNat : Nat) : Int))] 5 ?_)
  intro s ad d
  have j := d.ge c.size
  have q : Row ad w.heap.size 5 1 encU8 (.slice (some ⟨s, 0, none⟩) 1 1) ([((b.toNat : Nat) : Int)] : List (Int)) := Row.made ([((b.toNat : Nat) : Int)] : List (Int)) d j rfl rfl (by first | decide | (simp; done))
  refine L_bytesStr (.slice (some ⟨s, 0, none⟩) 1 1) ([((b.toNat : Nat) : Int)] : List (Int)) underlying97 underlying5 underlying9 zk q.rd (zD (wE (bytesI ([((b.toNat : Nat) : Int)] : List (Int))) a (by (simp only [bytesI, List.length_map, List.length_append, List.length_cons, List.length_nil]; omega)) zk zk (zG (nQ (zQ (zD (L_quo (k := .i64) z 16 (z / 16) zo zo zk zk (yW _ zo zo) (zG (zR (zI ?_))))))))))
  have c := c.tr d.below
  refine zB ⟨_, ?_, ((bytesI ([((b.toNat : Nat) : Int)] : List (Int))) ++ a), (z / 16), rfl, o, zk, c, ?_, ?_, ?_⟩
  ·have p := uD g h za; omega
  ·have p := uD g h za; omega
  ·exact (uD g h za).2.1
  exact (uD g h za).2.2
 intro af
 exact xF (nQ (zF (yH (zL (zL (yB (zB (wR (zD (zG (zG (nQ (zS (yC [(S a), (I6 0)] (hd := o) ⟨xE (congrArg S (by (rw [showF_ok zo zo]; first | done | exact show_end i1 g h zo zo))) (e6 (by (rw [showF_ok zo zo]; first | done | exact show_end i1 g h zo zo))), c⟩))))))))))))))
theorem c_rLetter (s : Int) (w : World) (hs_ : 0 ≤ s) (hs2 : s ≤ 255) :
  Calls Tryz.prog 65 #[(U8 s)] w (Ret fun v w' => v = (.tuple #[(S (letterS s)), (I6 (letterE s))]) ∧ Below w.heap.size w w') := by
 refine wI 11 func65 rfl ?_
 have c := Below.refl w.heap.size w
 refine wR (zG (zG (nW (wR (zD (zGt .u8 s 2 ?_ ?_))))))
 ·intro l
  exact nQ (zT (wR (zG (zG (nQ (zS (zH (yC [(S []), (I6 2)] ⟨xE (congrArg S (by (rw [letterS_none zo]; done))) (e6 (by unfold letterE; split <;> omega)), c⟩))))))))
 intro j
 refine nQ (zF (zK (zB (wR (zD (vS (k := .u8) s s zk underlying3 zk (yW _ zo zo) ?_))))))
 have i := zV ([110, 111, 99] : List UInt8) s.toNat (by first | omega | (simp; omega)); obtain ⟨b, f⟩ := i
 have := b.toNat_lt
 refine L_sindexZ (k := .i64) ([110, 111, 99] : List UInt8) s s.toNat b zo underlying9 f zk zk (zM 1 [(U8 ((b.toNat : Nat) : Int))] 5 ?_)
 intro g h a
 have d := a.ge c.size
 have e : Row h w.heap.size 5 1 encU8 (.slice (some ⟨g, 0, none⟩) 1 1) ([((b.toNat : Nat) : Int)] : List (Int)) := Row.made ([((b.toNat : Nat) : Int)] : List (Int)) a d rfl rfl (by first | decide | (simp; done))
 have c := c.tr a.below
 exact L_bytesStr (.slice (some ⟨g, 0, none⟩) 1 1) ([((b.toNat : Nat) : Int)] : List (Int)) underlying97 underlying5 underlying9 zk e.rd (zG (zG (nQ (zS (yC [(S (bytesI ([((b.toNat : Nat) : Int)] : List (Int)))), (I6 0)] ⟨xE (congrArg S (by exact letterS_tab zo zo za)) (e6 (by unfold letterE; split <;> omega)), c⟩)))))
theorem c_rWrite (e : Nat) (k : Value) (ws : List (Int × Int × Int)) (n : Value) (wt : List (Int × Int)) (w : World) (c : w.heap[e]? = some (.cells [k, n].toArray 78 (0, 0))) (a : Rd w encBrk k ws) (g : Rd w encTw n wt) (hw : ws.length ≤ 1114112) (hv : ∀ x ∈ ws, 0 ≤ x.2.2 ∧ x.2.2 ≤ 255) :
  Calls Tryz.prog 36 #[(pt e 0)] w (Ret fun v w' => v = (S (ws.flatMap lineB)) ∧ Below w.heap.size w w') := by
 refine wI 67 func36 rfl ?_
 have p := Below.refl w.heap.size w
 refine wR (zG (nR (zG (nW (wR (zG (nQ (zX (yZ (fun m s0 w0 => ∃ (i : Nat) (d : List UInt8), (m = ws.length - i) ∧ (s0.ds = []) ∧ ([0, 2, 3, 4].map s0.f = [(pt e 0), (S []), (S d), (N6 i)]) ∧ (Rd w0 encBrk k ws) ∧ (Rd w0 encTw n wt) ∧ (w0.heap[e]? = some (.cells [k, n].toArray 78 (0, 0))) ∧ (Below w.heap.size w w0) ∧ (i ≤ ws.length) ∧ (d = (ws.take i).flatMap lineB)) _ ⟨0, ([] : List UInt8), rfl, zk, zk, a, g, c, p, (Nat.zero_le _), rfl⟩ ?_)))))))))
 rintro m1 s2 w3 ⟨i, d, hm, q, s, a, g, c, p, y, t⟩
 refine yS s ?_
 have aa := wrr_len t y
 refine zY (wR (zD (zD (zr (pt e 0) (uF 0 c rfl (zln underlying22 (a).len (nLt i ((ws).length) ?_ ?_)))))))
 ·intro h4
  refine nQ (zT (zK (zB (zY (zX (wR (zD (zr (pt e 0) (uF 0 c rfl (zD ?_))))))))))
  have u := zV ws i zo; obtain ⟨b, o⟩ := u
  have r := hv _ (List.mem_of_getElem? o)
  refine zE a qJ i o 0 rfl fun _ _ => (zc (c_rShow b.1 _ ) ?_)
  rintro _ z ⟨rfl, h⟩
  have := showF_len b.1
  have c := zA c h
  refine zD (zr (S ((showF b.1).1)) (zr (I6 ((showF b.1).2)) (zG (zG (nR (zD (zr (pt e 0) (uF 0 c rfl (zD ?_)))))))))
  have a := a.below h
  refine zE a qJ i o 1 rfl fun _ _ => (zc (c_rShow b.2.1 _ ) ?_)
  rintro _ ac ⟨rfl, l⟩
  have := showF_len b.2.1
  have c := zA c l
  refine zD (zr (S ((showF b.2.1).1)) (zr (I6 ((showF b.2.1).2)) (zG (zG (nR (zD (zr (pt e 0) (uF 0 c rfl (zD ?_)))))))))
  have a := a.below l
  refine zE a qJ i o 2 rfl fun _ _ => (zc (c_rLetter b.2.2 _ zo zo) ?_)
  rintro _ ad ⟨rfl, j⟩
  have := letterS_len b.2.2
  refine zD (zr (S (letterS b.2.2)) (zr (I6 (letterE b.2.2)) (zG (zG (nQ (zQ (zD (zD (wE d ((showF b.1).1) zo zk zk (wE (d ++ (showF b.1).1) ([59, 32] : List UInt8) (by (simp only [List.length_append, List.length_cons, List.length_nil]; omega)) zk zk (zD (wE ((d ++ (showF b.1).1) ++ ([59, 32] : List UInt8)) ((showF b.2.1).1) (by (simp only [List.length_append, List.length_cons, List.length_nil]; omega)) zk zk (wE (((d ++ (showF b.1).1) ++ ([59, 32] : List UInt8)) ++ (showF b.2.1).1) ([59, 32] : List UInt8) (by (simp only [List.length_append, List.length_cons, List.length_nil]; omega)) zk zk (zD (wE ((((d ++ (showF b.1).1) ++ ([59, 32] : List UInt8)) ++ (showF b.2.1).1) ++ ([59, 32] : List UInt8)) (letterS b.2.2) (by (simp only [List.length_append, List.length_cons, List.length_nil]; omega)) zk zk (wE (((((d ++ (showF b.1).1) ++ ([59, 32] : List UInt8)) ++ (showF b.2.1).1) ++ ([59, 32] : List UInt8)) ++ letterS b.2.2) ([10] : List UInt8) (by (simp only [List.length_append, List.length_cons, List.length_nil]; omega)) zk zk (zG (zR (zI (zB (zQ (zD (xL i 1 (zG (zR ?_)))))))))))))))))))))))))
  have p := ((p.tr h).tr l).tr j
  have c := zA c j
  have a := a.below j
  have g := ((g.below h).below l).below j
  exact zB ⟨_, zo, (i + 1), ((((((d ++ (showF b.1).1) ++ ([59, 32] : List UInt8)) ++ (showF b.2.1).1) ++ ([59, 32] : List UInt8)) ++ letterS b.2.2) ++ ([10] : List UInt8)), rfl, q, zk, a, g, c, p, zo, wrr_step t za⟩
 intro ab
 exact nQ (zF (yH (zL (zL (yB (zB (wR (zD (zG (nQ (zS (yC [(S d)] (hd := q) ⟨congrArg S (by first | (rw [t, List.take_of_length_le zo]; done)), p⟩))))))))))))
end Go.Proofs.YtddnhlobnembaaaGreatDoor
end
