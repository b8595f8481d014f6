/- Joined by my program pack2.py out of my own texts: WcnI WcmC WcnC Wctab Wctb2 Wmbl2. -/
import Derived.Test.YtkclikfejmeblaaGreatDoorProg
import Derived.Tactics2
import Derived.Test.YtkclikfejmeblaaGreatDoorR2
import Derived.Test.YtkclikfejmeblaaGreatDoorR3
set_option linter.unusedVariables false
set_option linter.unusedSimpArgs false
/- === WcnI === -/
section
/- Walks, written by my program walk.py out of the specification cnI.py: each theorem says what one function returns and that it leaves memory as it was. -/
namespace Go.Proofs.YtkclikfejmeblaaGreatDoor
open Go Go.RowKit Go.FK _root_.Go.Proofs.Tryz
set_option maxHeartbeats 4000000
set_option maxRecDepth 100000
theorem c_cut_I (q : Nat) (n : Value) (xs : List (Int × Int × Int)) (lo : Int) (hi : Int) (B_ : Nat) (w : World) (hs0 : B_ ≤ w.heap.size) (l : w.heap[q]? = some (.cells [n, (.bool true)].toArray 118 (0, 0))) (cq : B_ ≤ q) (a : Row w B_ 131 3 encSpanI n xs) (hr : RiseG 0 xs) (hlo : -2147483648 ≤ lo ∧ lo ≤ 2147483647) (hhi : -2147483648 ≤ hi ∧ hi ≤ 2147483647) :
  Calls Tryz.prog 134 #[(pt q 0), (Value.agg #[(I3 lo), (I3 hi)])] w (Ret fun v w' => ∃ q0 : Value, v = (.tuple #[(I6 (cutN xs lo hi)), (I6 (layE lo hi))]) ∧ w'.heap[q]? = some (.cells [q0, (.bool true)].toArray 118 (0, 0)) ∧ Row w' B_ 131 3 encSpanI q0 (cutM xs lo hi) ∧ (∀ g, Value.ownBlock q0 = some g → w.heap.size ≤ g ∨ (Dm q n) g) ∧ Ch (Dm q n) w w') := by
 refine wJ 111 func134 rfl ?_
 have hb := Below.refl B_ w
 have u : B_ ≤ (World.heap w).size := hs0
 have hc := Ch.refl (Dm q n) w
 have bf : (World.heap w).size ≤ q ∨ (Dm q n) q := .inr (.inl rfl)
 have af : ∀ g, Value.ownBlock n = some g → (World.heap w).size ≤ g ∨ (Dm q n) g := fun g h => .inr (.inr h)
 have cu := hr.len
 refine wR (zN [(I3 lo), (I3 hi)] 32 ?_)
 intro b1 w2 az
 have b9 : B_ ≤ b1 := by rw [az.num]; exact u
 have bv : (World.heap w).size ≤ b1 ∨ (Dm q n) b1 := .inl (by rw [az.num]; exact hc.size)
 have hb := hb.trans (az.below.mono u)
 replace u := Nat.le_trans u (az.below.size)
 have c := az.here
 have l := zC l az.below
 have a := a.below az.below
 refine zH (zH (nW (zW (wR (zD (zc (c_none_I q n xs _ l a.rd) ?_))))))
 replace hc := hc.trans2 (Ch.of_below az.below) (fun _ h => h.elim)
 rintro _ w4 ⟨rfl, ax⟩
 have hb := hb.trans (ax.mono u)
 replace u := Nat.le_trans u (ax.size)
 have c := zC c ax
 refine zH (nQ (zF (wR (vT c (zc (qK lo hi _ ) ?_)))))
 replace hc := hc.trans2 (Ch.of_below ax) (fun _ h => h.elim)
 rintro _ w7 ⟨rfl, av⟩
 have hb := hb.trans (av.mono u)
 replace u := Nat.le_trans u (av.size)
 refine yT (mayF lo hi) ?_ ?_
 ·intro b3
  have ch := Zn b3
  have l := zC (zC l ax) av
  have c := zC c av
  have a := (a.below ax).below av
  refine qO true (zH (nQ (zF (zK (zJ (zB (wR (zH (nR (zD (wB 0 c rfl (zc (c_from_I q n xs lo _ l a.rd (by exact hr) zo) ?_))))))))))))
  replace hc := hc.trans2 (Ch.of_below av) (fun _ h => h.elim)
  rintro _ cr ⟨rfl, au⟩
  have hb := hb.trans (au.mono u)
  replace u := Nat.le_trans u (au.size)
  have := uC xs lo
  refine zH (nR (zD (zH (nR (zH (nW (zW ?_)))))))
  replace hc := hc.trans2 (Ch.of_below au) (fun _ h => h.elim)
  have l := zC l au
  have c := zC c au
  have a := a.below au
  refine xA (fun m s0 w0 => ∃ (j : Nat) (z : Int) (ys : List SpI) (an : Value), (m = xs.length - j) ∧ (s0.ds = []) ∧ ([0, 3, 4, 5, 7, 6, 8, 9].map s0.f = [(pt q 0), (pt b1 0), (I6 0), (I6 0), (N6 (fromG xs lo)), (I6 z), (N6 j), an]) ∧ (Row w0 B_ 131 3 encSpanI n xs) ∧ (Row w0 B_ 131 3 encSpanI an ys) ∧ (w0.heap[q]? = some (.cells [n, (.bool true)].toArray 118 (0, 0))) ∧ (w0.heap[b1]? = some (.cells [(I3 lo), (I3 hi)].toArray 32 (0, 0))) ∧ (Value.ownBlock n = none ∨ Value.ownBlock n ≠ Value.ownBlock an) ∧ (Below B_ w w0) ∧ (Ch (Dm q n) w w0) ∧ (∀ g, Value.ownBlock an = some g → (World.heap w).size ≤ g ∨ (Dm q n) g) ∧ (B_ ≤ w0.heap.size) ∧ (cutI lo hi xs j z ys)) _ ⟨(fromG xs lo), 0, [], (.slice none 0 0), rfl, zk, zk, a, Row.nil _ _ _ _ _, l, c, qI _, hb, hc, dr_nil _, u, cutI_zero⟩ ?_
  rintro cm cy cc ⟨j, z, ys, an, hm, a9, bz, a, r, l, c, b, hb, hc, s, u, i1⟩
  refine yX bz ?_
  have p := yW b
  have co := i1.2.2.2.2
  have c1 := i1.2.1
  have cb := i1.1
  refine yA (yA (xX zk zk (zV (zV (yB (pt q 0) zf (yB (pt q 0) zf (yD q 0 n zk zf (yI l rfl) (vV 116 131 (xs).length n rfl underlying116 (a.rd).len zk (xV .i64 ((j : Nat) : Int) (((xs).length : Nat) : Int) (j < (xs).length) rfl (cmpN_lt j ((xs).length)) zk zk ?_ ?_)))))))))
  ·intro b0
   replace b0 : j < (xs).length := by omega
   refine zV (qw (zV (qw (yB (pt q 0) zf (qw (yB (pt q 0) zf (qw (yD q 0 n zk zf (yI l rfl) (qw (zV (qw ?_)))))))))))
   have hz := zX xs j zo; obtain ⟨d, bd⟩ := hz
   have hz := (a.rd).at (k := 3) zj bd
   obtain ⟨bh, a3, bu, bp⟩ := hz
   have cx := hr.at bd
   refine yN (k := .i64) n j _ bh a3 xK bu zo zk zk (qw (yB (pt bh (a3 + j * 3)) zf (qw (yD bh (a3 + j * 3) (I3 d.1) zk zf (bp 0 _ rfl) (qw (yB (pt b1 1) zf (qw (yD b1 1 (I3 hi) zk zf (yI c rfl) (qw (xV .i32 d.1 hi (d.1 ≤ hi) rfl (cmp_le d.1 hi) zk zk ?_ ?_))))))))))
   ·intro b4
    replace b4 : d.1 ≤ hi := by omega
    refine qT (yQ ?_)
    intro cl aj
    have hb := hb.trans (aj.mono u)
    replace u := Nat.le_trans u (aj.size)
    have l := zC l aj
    refine zB (zT (zK (zB (yA (zW (wR (zD (zr (pt q 0) (wB 0 l rfl (zD ?_))))))))))
    have a := a.below aj
    refine zEA a.rd xK j bd [(I3 d.1), (I3 d.2.1), (I6 d.2.2)] rfl fun _ => (zN [(I3 0), (I3 0), (I6 0)] 131 ?_)
    intro bi ca y
    have a1 : B_ ≤ bi := by rw [y.num]; exact u
    replace hc := hc.trans2 (Ch.of_below aj) (fun _ h => h.elim)
    have aw : (World.heap w).size ≤ bi ∨ (Dm q n) bi := .inl (by rw [y.num]; exact hc.size)
    have ac := a.new_ne y
    have r := r.below aj
    have i := r.new_ne y
    have hb := hb.trans (y.below.mono u)
    replace u := Nat.le_trans u (y.below.size)
    have o := y.here
    refine qQ [(I3 d.1), (I3 d.2.1), (I6 d.2.2)] o ?_
    intro bs aa
    replace u := Nat.le_trans u (Nat.le_of_eq aa.size.symm)
    have l := zC l y.below
    have l := zI l aa (zU l o zi)
    have c := zC (zC c aj) y.below
    have c := zI c aa (zU c o zi)
    have o := aa.here
    refine nR (zD (wB 1 o rfl (wB 1 c rfl (L_min (k := .i32) d.2.1 hi zk zk (wB 0 o rfl (wB 0 c rfl (L_max (k := .i32) d.1 lo zk zk (yY (min d.2.1 hi) (max d.1 lo) ((min d.2.1 hi) - (max d.1 lo)) rfl zk zk (xE _ zh zh) (wU (k := .i32) ((min d.2.1 hi) - (max d.1 lo)) ((min d.2.1 hi) - (max d.1 lo)) zk underlying3 zk (yK _ zo zo) (yY ((min d.2.1 hi) - (max d.1 lo)) 1 (((min d.2.1 hi) - (max d.1 lo)) + 1) rfl zk zk (yK _ zh zh) (yY z (((min d.2.1 hi) - (max d.1 lo)) + 1) (z + (((min d.2.1 hi) - (max d.1 lo)) + 1)) rfl zk zk (yK _ zh zh) (zH (nW (wR (wB 0 o rfl (wB 0 c rfl (zLt .i32 d.1 lo ?_ ?_)))))))))))))))))
    ·intro ck
     have r := (r.below y.below).wrote aa i
     refine nQ (zT (zP (zD (wB 0 o rfl (wB 0 c rfl (yY lo 1 (lo - 1) rfl zk zk (xE _ zh zh) (wB 2 o rfl (zr (Value.agg #[(I3 d.1), (I3 (lo - 1)), (I6 d.2.2)]) (wH xK B_ an ys (d.1, (lo - 1), d.2.2) u r zo zk rfl rfl zk rfl zk zk ?_)))))))))
     intro br bw bm ah a4
     replace hc := (hc.trans2 (Ch.of_below y.below) (fun _ h => h.elim)).trans2 (Ch.of_wrote aa) (fun k e => e ▸ aw)
     have ay := uZ (D := (Dm q n)) a4 (by have h0 := hc.size; omega : (World.heap w).size ≤ (World.heap bs).size + 1) s
     have ad := wZ a4 i (yL o)
     have a := (a.below y.below).wrote aa ac
     have t := ap_app a a4 b
     have hb := hb.trans (aa.below a1)
     have hb := hb.tg u ah r
     replace u := Nat.le_trans u (ah.size)
     have l := zY l ah (r.ne l zi)
     have c := zY c ah (r.ne c zi)
     have o := zY o ah i
     have i := ad
     have a := a.grown ah b
     have b := t; have p := yW t
     have r := bm
     replace hc := hc.trans2 (Ch.of_grown ah) (fun k e => s k e)
     have s := ay; clear ay
     refine zH (nR (wB 1 o rfl (wB 1 c rfl (zGt .i32 d.2.1 hi ?_ ?_))))
     ·intro cz
      refine nQ (zT (zP (zD (wB 1 c rfl (yY hi 1 (hi + 1) rfl zk zk (xE _ zh zh) (wB 1 o rfl (wB 2 o rfl (zr (Value.agg #[(I3 (hi + 1)), (I3 d.2.1), (I6 d.2.2)]) (wH xK B_ br (ys ++ [(d.1, (lo - 1), d.2.2)]) ((hi + 1), d.2.1, d.2.2) u r (by (simp only [List.length_append, List.length_cons, List.length_nil] <;> omega)) zk rfl rfl zk rfl zk zk ?_)))))))))
      intro b5 cd bk ar a2
      have ay := uZ (D := (Dm q n)) a2 (by have h0 := hc.size; omega : (World.heap w).size ≤ (World.heap bw).size + 1) s
      have ad := wZ a2 i (yL o)
      have t := ap_app a a2 b
      have hb := hb.tg u ar r
      replace u := Nat.le_trans u (ar.size)
      have l := zY l ar (r.ne l zi)
      have c := zY c ar (r.ne c zi)
      have i := ad
      have a := a.grown ar b
      have b := t; have p := yW t
      have r := bk
      replace hc := hc.trans2 (Ch.of_grown ar) (fun k e => s k e)
      have s := ay; clear ay
      refine zH (zQ (zJ (zB (zP (zD (xN j 1 (zH (zQ (zB ⟨_, zo, (j + 1), (z + (((min d.2.1 hi) - (max d.1 lo)) + 1)), ((ys ++ [(d.1, (lo - 1), d.2.2)]) ++ [((hi + 1), d.2.1, d.2.2)]), b5, rfl, a9, zk, a, r, l, c, b, hb, hc, s, u, ?_⟩)))))))))
      exact cut_11 hr zo i1 za zo zo zo zo
     intro cn
     refine nQ (zF (zK (zJ (zB (zP (zD (xN j 1 (zH (zQ (zB ⟨_, zo, (j + 1), (z + (((min d.2.1 hi) - (max d.1 lo)) + 1)), (ys ++ [(d.1, (lo - 1), d.2.2)]), br, rfl, a9, zk, a, r, l, c, b, hb, hc, s, u, ?_⟩))))))))))
     exact cut_10 hr zo i1 za zo zo zo zo
    intro ct
    refine nQ (zF (zK (zB (wR (wB 1 o rfl (wB 1 c rfl (zGt .i32 d.2.1 hi ?_ ?_)))))))
    ·intro ci
     have r := (r.below y.below).wrote aa i
     refine nQ (zT (zP (zD (wB 1 c rfl (yY hi 1 (hi + 1) rfl zk zk (xE _ zh zh) (wB 1 o rfl (wB 2 o rfl (zr (Value.agg #[(I3 (hi + 1)), (I3 d.2.1), (I6 d.2.2)]) (wH xK B_ an ys ((hi + 1), d.2.1, d.2.2) u r zo zk rfl rfl zk rfl zk zk ?_)))))))))
     intro b6 cv bq ap a0
     replace hc := (hc.trans2 (Ch.of_below y.below) (fun _ h => h.elim)).trans2 (Ch.of_wrote aa) (fun k e => e ▸ aw)
     have ay := uZ (D := (Dm q n)) a0 (by have h0 := hc.size; omega : (World.heap w).size ≤ (World.heap bs).size + 1) s
     have ad := wZ a0 i (yL o)
     have a := (a.below y.below).wrote aa ac
     have t := ap_app a a0 b
     have hb := hb.trans (aa.below a1)
     have hb := hb.tg u ap r
     replace u := Nat.le_trans u (ap.size)
     have l := zY l ap (r.ne l zi)
     have c := zY c ap (r.ne c zi)
     have i := ad
     have a := a.grown ap b
     have b := t; have p := yW t
     have r := bq
     replace hc := hc.trans2 (Ch.of_grown ap) (fun k e => s k e)
     have s := ay; clear ay
     refine zH (zQ (zJ (zB (zP (zD (xN j 1 (zH (zQ (zB ⟨_, zo, (j + 1), (z + (((min d.2.1 hi) - (max d.1 lo)) + 1)), (ys ++ [((hi + 1), d.2.1, d.2.2)]), b6, rfl, a9, zk, a, r, l, c, b, hb, hc, s, u, ?_⟩)))))))))
     exact cut_01 hr zo i1 za zo zo zo zo
    intro cp
    refine nQ (zF (zK (zJ (zB (zP (zD (xN j 1 (zH (zQ ?_)))))))))
    have hb := hb.trans (aa.below a1)
    replace hc := (hc.trans2 (Ch.of_below y.below) (fun _ h => h.elim)).trans2 (Ch.of_wrote aa) (fun k e => e ▸ aw)
    have a := (a.below y.below).wrote aa ac
    have r := (r.below y.below).wrote aa i
    exact zB ⟨_, zo, (j + 1), (z + (((min d.2.1 hi) - (max d.1 lo)) + 1)), ys, an, rfl, a9, zk, a, r, l, c, b, hb, hc, s, u, cut_00 hr zo i1 za zo zo zo zo⟩
   intro bx
   replace bx : hi < d.1 := by omega
   refine qT (yQ ?_)
   intro cs al
   have hb := hb.trans (al.mono u)
   replace u := Nat.le_trans u (al.size)
   have l := zC l al
   have a := a.below al
   have r := r.below al
   refine zB (zF (yU (zS (zS (yF (zB (wR (zD (zD (zr (pt q 0) (wB 0 l rfl (zD (zD (zD (zc (c_replace_I B_ n xs (fromG xs lo) j an ys _ u a r.mono0 p zo zo zo zo) ?_)))))))))))))))
   replace hc := hc.trans2 (Ch.of_below al) (fun _ h => h.elim)
   rintro bt ce ⟨_, rfl, am, bl, aq⟩
   have ba := dr_call hc bl af
   have hb := aq.below hb u (fun k e => (World.ownsRow.lt a k e).1)
   replace u := Nat.le_trans u aq.size
   have ai := xQ l aq (a.ne l zi)
   have c := zC c al
   have be := xQ c aq (a.ne c zi)
   have bg := r.ch_row aq p
   have l := ai; clear ai
   refine zr (pt q 0) (zr (pt q 0) (xC q 0 bt [n, (.bool true)] [bt, (.bool true)] 118 zk zk am.one zk l zi rfl ?_))
   intro cg a7
   replace u := Nat.le_trans u (Nat.le_of_eq a7.size.symm)
   have am := am.wrote a7 (am.ne l zi)
   have l := a7.here
   refine nR (zD (zH (zH (nQ (zR (zZ [(I6 z), (I6 0)] (hd := a9) ?_))))))
   have hE : ((z : Int) = (cutN xs lo hi)) ∧ ((0 : Int) = (layE lo hi)) ∧ ((List.take (fromG xs lo) xs ++ ys ++ List.drop j xs) = (cutM xs lo hi)) := ⟨(by (rw [cutN, if_neg (tnf za)]; first | exact (cutI_end i1 zo).2 | exact (Zh hr zo i1 za zo).2)), (by (rw [layE, if_neg (tnf za)]; done)), (by (rw [cutM, if_neg (tnf za)]; first | exact (cutI_end i1 zo).1 | exact (Zh hr zo i1 za zo).1))⟩
   replace hc := (hc.trans2 aq (fun k e => af k e)).trans2 (Ch.of_wrote a7) (fun k e => e ▸ bf)
   exact ⟨_, yV (e6 hE.1) (e6 hE.2.1), l, am.cast hE.2.2, ba, hc⟩
  intro b7
  replace b7 : (xs).length ≤ j := by omega
  refine zV (qs (qs (qs (qs (qs (qs (qs (qs (qs (qs (qs (qF (yQ ?_)))))))))))))
  intro cj ag
  have hb := hb.trans (ag.mono u)
  replace u := Nat.le_trans u (ag.size)
  have l := zC l ag
  have a := a.below ag
  have r := r.below ag
  refine zB (zF (yU (zS (zS (yF (zB (wR (zD (zD (zr (pt q 0) (wB 0 l rfl (zD (zD (zD (zc (c_replace_I B_ n xs (fromG xs lo) j an ys _ u a r.mono0 p zo zo zo zo) ?_)))))))))))))))
  replace hc := hc.trans2 (Ch.of_below ag) (fun _ h => h.elim)
  rintro bn cf ⟨_, rfl, ak, bo, ao⟩
  have bb := dr_call hc bo af
  have hb := ao.below hb u (fun k e => (World.ownsRow.lt a k e).1)
  replace u := Nat.le_trans u ao.size
  have ai := xQ l ao (a.ne l zi)
  have c := zC c ag
  have be := xQ c ao (a.ne c zi)
  have bg := r.ch_row ao p
  have l := ai; clear ai
  refine zr (pt q 0) (zr (pt q 0) (xC q 0 bn [n, (.bool true)] [bn, (.bool true)] 118 zk zk ak.one zk l zi rfl ?_))
  intro c0 a6
  replace u := Nat.le_trans u (Nat.le_of_eq a6.size.symm)
  have ak := ak.wrote a6 (ak.ne l zi)
  have l := a6.here
  refine nR (zD (zH (zH (nQ (zR (zZ [(I6 z), (I6 0)] (hd := a9) ?_))))))
  have hE : ((z : Int) = (cutN xs lo hi)) ∧ ((0 : Int) = (layE lo hi)) ∧ ((List.take (fromG xs lo) xs ++ ys ++ List.drop j xs) = (cutM xs lo hi)) := ⟨(by (rw [cutN, if_neg (tnf za)]; first | exact (cutI_end i1 zo).2 | exact (Zh hr zo i1 za zo).2)), (by (rw [layE, if_neg (tnf za)]; done)), (by (rw [cutM, if_neg (tnf za)]; first | exact (cutI_end i1 zo).1 | exact (Zh hr zo i1 za zo).1))⟩
  replace hc := (hc.trans2 ao (fun k e => af k e)).trans2 (Ch.of_wrote a6) (fun k e => e ▸ bf)
  exact ⟨_, yV (e6 hE.1) (e6 hE.2.1), l, ak.cast hE.2.2, bb, hc⟩
 intro cw
 refine qO false (zH (nQ (zT (wR (zH (zH (nQ (zR (zL (zG (zZ [(I6 0), (I6 41)] ?_)))))))))))
 have hE : ((0 : Int) = (cutN xs lo hi)) ∧ ((41 : Int) = (layE lo hi)) ∧ (xs = (cutM xs lo hi)) := ⟨(by (rw [cutN, if_pos za]; done)), (by (rw [layE, if_pos za]; done)), (by (rw [cutM, if_pos za]; done))⟩
 replace hc := hc.trans2 (Ch.of_below av) (fun _ h => h.elim)
 have l := zC (zC l ax) av
 have a := (a.below ax).below av
 exact ⟨_, yV (e6 hE.1) (e6 hE.2.1), l, a.cast hE.2.2, af, hc⟩
theorem c_lay_I (l : Nat) (t : Value) (xs : List (Int × Int × Int)) (lo : Int) (hi : Int) (val : Int) (B_ : Nat) (w : World) (hs0 : B_ ≤ w.heap.size) (j : w.heap[l]? = some (.cells [t, (.bool true)].toArray 118 (0, 0))) (co : B_ ≤ l) (af : Row w B_ 131 3 encSpanI t xs) (hr : RiseG 0 xs) (hlo : -2147483648 ≤ lo ∧ lo ≤ 2147483647) (hhi : -2147483648 ≤ hi ∧ hi ≤ 2147483647) :
  Calls Tryz.prog 102 #[(pt l 0), (Value.agg #[(I3 lo), (I3 hi)]), (I6 val)] w (Ret fun v w' => ∃ q0 : Value, v = (I6 (layE lo hi)) ∧ w'.heap[l]? = some (.cells [q0, (.bool true)].toArray 118 (0, 0)) ∧ Row w' B_ 131 3 encSpanI q0 (layF eqI xs lo hi val) ∧ (∀ g, Value.ownBlock q0 = some g → w.heap.size ≤ g ∨ (Dm l t) g) ∧ Ch (Dm l t) w w') := by
 refine wJ 128 func102 rfl ?_
 have r := Below.refl B_ w
 have n : B_ ≤ (World.heap w).size := hs0
 have o := Ch.refl (Dm l t) w
 have bk : (World.heap w).size ≤ l ∨ (Dm l t) l := .inr (.inl rfl)
 have aw : ∀ g, Value.ownBlock t = some g → (World.heap w).size ≤ g ∨ (Dm l t) g := fun g h => .inr (.inr h)
 have dx := hr.len
 have bt := cutF_rise (lo := lo) (hi := hi) hr
 have du := bt.len
 refine wR (zN [(I3 lo), (I3 hi)] 32 ?_)
 intro b1 w2 a9
 have dg : B_ ≤ b1 := by rw [a9.num]; exact n
 have c9 : (World.heap w).size ≤ b1 ∨ (Dm l t) b1 := .inl (by rw [a9.num]; exact o.size)
 have r := r.trans (a9.below.mono n)
 replace n := Nat.le_trans n (a9.below.size)
 have d := a9.here
 have j := zC j a9.below
 have af := af.below a9.below
 refine zH (nW (zW (wR (zD (zc (c_none_I l t xs _ j af.rd) ?_)))))
 replace o := o.trans2 (Ch.of_below a9.below) (fun _ h => h.elim)
 rintro _ w4 ⟨rfl, a8⟩
 have r := r.trans (a8.mono n)
 replace n := Nat.le_trans n (a8.size)
 have d := zC d a8
 refine zH (nQ (zF (wR (vT d (zc (qK lo hi _ ) ?_)))))
 replace o := o.trans2 (Ch.of_below a8) (fun _ h => h.elim)
 rintro _ w7 ⟨rfl, a7⟩
 have r := r.trans (a7.mono n)
 replace n := Nat.le_trans n (a7.size)
 refine yT (mayF lo hi) ?_ ?_
 ·intro c4
  have dm := Zn c4
  have j := zC (zC j a8) a7
  have d := zC d a7
  have af := (af.below a8).below a7
  refine qO true (zH (nQ (zF (zK (zJ (zB (wR (zD (vT d (zc (c_cut_I l t xs lo hi B_ _ n j co af (by first | exact hr | exact bt) zo zo) ?_))))))))))
  replace o := o.trans2 (Ch.of_below a7) (fun _ h => h.elim)
  rintro _ dy ⟨s, rfl, cq, c, cn, bn⟩
  have ag : ∀ g, Value.ownBlock s = some g → (World.heap w).size ≤ g ∨ (Dm l t) g := fun g hg => (cn g hg).elim (fun x => .inl (Nat.le_trans o.size x)) (fun x => x.elim (fun x => x ▸ bk) (fun x => aw g x))
  have r := bn.below r n (fun k e => e.elim (fun x => x ▸ co) (fun x => (World.ownsRow.lt af k x).1))
  replace n := Nat.le_trans n bn.size
  have d := yP d bn (zU d j zi) (af.ne d zi)
  have j := cq
  refine nR (wB 0 d rfl (wB 1 d rfl (zD (zr (Value.agg #[(I3 lo), (I3 hi), (I6 val)]) (zN [(I3 0), (I3 0), (I6 0)] 131 ?_)))))
  intro am dj ah
  have bs : B_ ≤ am := by rw [ah.num]; exact n
  replace o := o.trans2 bn (fun k e => e.elim (fun x => x ▸ bk) (fun x => aw k x))
  have bb : (World.heap w).size ≤ am ∨ (Dm l t) am := .inl (by rw [ah.num]; exact o.size)
  have m := c.new_ne ah
  have r := r.trans (ah.below.mono n)
  replace n := Nat.le_trans n (ah.below.size)
  have i := ah.here
  refine qQ [(I3 lo), (I3 hi), (I6 val)] i ?_
  intro dl a0
  replace n := Nat.le_trans n (Nat.le_of_eq a0.size.symm)
  have j := zC j ah.below
  have j := zI j a0 (zU j i zi)
  have d := zC d ah.below
  have d := zI d a0 (zU d i zi)
  have i := a0.here
  have c := (c.below ah.below).wrote a0 m
  refine nR (zD (wB 0 d rfl (zc (c_from_I l s (cutM xs lo hi) lo _ j c.rd (by first | exact hr | exact bt) zo) ?_)))
  replace o := (o.trans2 (Ch.of_below ah.below) (fun _ h => h.elim)).trans2 (Ch.of_wrote a0) (fun k e => e ▸ bb)
  rintro _ d4 ⟨rfl, z⟩
  have r := r.trans (a0.below bs)
  have r := r.trans (z.mono n)
  replace n := Nat.le_trans n (z.size)
  have := uC (cutM xs lo hi) lo
  refine zH (nR (zD (zH (nQ (W_cut (fun s0 w0 => ∃ (a : Nat) (p : Int), (s0.ds = []) ∧ ([0, 2, 6, 7, 9, 8].map s0.f = [(pt l 0), (I6 val), (I6 0), (pt am 0), (N6 (fromG (cutM xs lo hi) lo)), (N6 a)]) ∧ (Row w0 B_ 131 3 encSpanI s (cutM xs lo hi)) ∧ (w0.heap[l]? = some (.cells [s, (.bool true)].toArray 118 (0, 0))) ∧ (w0.heap[b1]? = some (.cells [(I3 lo), (I3 hi)].toArray 32 (0, 0))) ∧ (w0.heap[am]? = some (.cells [(I3 p), (I3 hi), (I6 val)].toArray 131 (0, 0))) ∧ (Below B_ w w0) ∧ (Ch (Dm l t) w w0) ∧ (B_ ≤ w0.heap.size) ∧ (leftC eqI (cutM xs lo hi) lo val = (a, p)) ∧ (a ≤ fromG (cutM xs lo hi) lo)) ?_ ?_)))))
  ·refine yA (xX zk zk (zV (xV .i64 (((fromG (cutM xs lo hi) lo) : Nat) : Int) ((0 : Nat) : Int) (0 < (fromG (cutM xs lo hi) lo)) rfl (cmpN_gt (fromG (cutM xs lo hi) lo) 0) zk zk ?_ ?_)))
   ·intro c5
    replace c5 : 0 < (fromG (cutM xs lo hi) lo) := by omega
    have j := zC j z
    refine zV (qw (zV (qw (yB (pt l 0) zf (qw (yB (pt l 0) zf (qw (yD l 0 s zk zf (yI j rfl) (qw (zV (qw (Lq_subN (fromG (cutM xs lo hi) lo) 1 zo zo zk zk (qw ?_)))))))))))))
    have hz := zX (cutM xs lo hi) ((fromG (cutM xs lo hi) lo) - 1) zo; obtain ⟨ad, bl⟩ := hz
    have c := c.below z
    have hz := (c.rd).at (k := 3) zj bl
    obtain ⟨cc, be, ch, cg⟩ := hz
    have c7 := bt.at bl
    have i := zC i z
    refine yN (k := .i64) s ((fromG (cutM xs lo hi) lo) - 1) _ cc be xK ch zo zk zk (qw (yB (pt cc ((be + ((fromG (cutM xs lo hi) lo) - 1) * 3) + 1)) zf (qw (yD cc ((be + ((fromG (cutM xs lo hi) lo) - 1) * 3) + 1) (I3 ad.2.1) zk zf (cg 1 _ rfl) (qw (qP ad.2.1 1 (ad.2.1 + 1) rfl zk zk (xE _ zh zh) (qw (yB (pt am 0) zf (qw (yD am 0 (I3 lo) zk zf (yI i rfl) (qw (xV .i32 (ad.2.1 + 1) lo ((ad.2.1 + 1) = lo) rfl (Zq (ad.2.1 + 1) lo) zk zk ?_ ?_))))))))))))
    ·intro c1
     replace c1 : (ad.2.1 + 1) = lo := by omega
     refine qT (zV (qw (zV (qw (yB (pt l 0) zf (qw (yB (pt l 0) zf (qw (yD l 0 s zk zf (yI j rfl) (qw (zV (qw (Lq_subN (fromG (cutM xs lo hi) lo) 1 zo zo zk zk (qw ?_))))))))))))))
     have hz := (c.rd).at (k := 3) zj bl
     obtain ⟨cb, bc, ci, cj⟩ := hz
     refine yN (k := .i64) s ((fromG (cutM xs lo hi) lo) - 1) _ cb bc xK ci zo zk zk (qw (yB (pt cb ((bc + ((fromG (cutM xs lo hi) lo) - 1) * 3) + 2)) zf (qw (yD cb ((bc + ((fromG (cutM xs lo hi) lo) - 1) * 3) + 2) (I6 ad.2.2) zk zf (cj 2 _ rfl) (qw (zV (qw (xV .i64 ad.2.2 val (ad.2.2 = val) rfl (Zq ad.2.2 val) zk zk ?_ ?_))))))))
     ·intro c0
      replace c0 : ad.2.2 = val := by omega
      refine qT (yQ ?_)
      intro dq a3
      have r := r.trans (a3.mono n)
      replace n := Nat.le_trans n (a3.size)
      have j := zC j a3
      refine zB (zT (wR (zD (zsb (fromG (cutM xs lo hi) lo) 1 (zH (nQ (zP (zD (zr (pt l 0) (wB 0 j rfl (zD ?_)))))))))))
      have i := zC i a3
      have c := c.below a3
      refine zE c.rd xK ((fromG (cutM xs lo hi) lo) - 1) bl 0 rfl fun _ _ => (zr (pt am 0) (z1 0 (I3 ad.1) [(I3 ad.1), (I3 hi), (I6 val)] i ?_))
      intro dp a5
      replace n := Nat.le_trans n (Nat.le_of_eq a5.size.symm)
      have j := zI j a5 (zU j i zi)
      have d := zC (zC d z) a3
      have d := zI d a5 (zU d i zi)
      have i := a5.here
      refine zQ ?_
      have r := r.trans (a5.below bs)
      replace o := ((o.trans2 (Ch.of_below z) (fun _ h => h.elim)).trans2 (Ch.of_below a3) (fun _ h => h.elim)).trans2 (Ch.of_wrote a5) (fun k e => e ▸ bb)
      have c := c.wrote a5 m
      exact zB ⟨((fromG (cutM xs lo hi) lo) - 1), ad.1, rfl, zk, c, j, d, i, r, o, n, leftC_yes zo za zo (eqI_y za), zo⟩
     intro c8
     replace c8 : ad.2.2 ≠ val := by omega
     refine qT (yQ ?_)
     intro dt az
     have r := r.trans (az.mono n)
     replace n := Nat.le_trans n (az.size)
     refine zB (zF (zK ?_))
     replace o := (o.trans2 (Ch.of_below z) (fun _ h => h.elim)).trans2 (Ch.of_below az) (fun _ h => h.elim)
     have j := zC j az
     have d := zC (zC d z) az
     have i := zC i az
     have c := c.below az
     exact zB ⟨(fromG (cutM xs lo hi) lo), lo, rfl, zk, c, j, d, i, r, o, n, leftC_no zo za (.inr (eqI_n za)), zo⟩
    intro cz
    replace cz : (ad.2.1 + 1) ≠ lo := by omega
    refine qT (zV (qs (qs (qs (qs (qs (qs (qs (qs (qs (qs (qs (qF (yQ ?_))))))))))))))
    intro dn ar
    have r := r.trans (ar.mono n)
    replace n := Nat.le_trans n (ar.size)
    refine zB (zF (zK ?_))
    replace o := (o.trans2 (Ch.of_below z) (fun _ h => h.elim)).trans2 (Ch.of_below ar) (fun _ h => h.elim)
    have j := zC j ar
    have d := zC (zC d z) ar
    have i := zC i ar
    have c := c.below ar
    exact zB ⟨(fromG (cutM xs lo hi) lo), lo, rfl, zk, c, j, d, i, r, o, n, leftC_no zo za (.inl zo), zo⟩
   intro cx
   replace cx : (fromG (cutM xs lo hi) lo) ≤ 0 := by omega
   refine zV (qs (qs (qs (qs (qs (qs (qs (qs (qs (qs (qs (qs (qs (qF (zV (qs (qs (qs (qs (qs (qs (qs (qs (qs (qs (qs (qF (yQ ?_))))))))))))))))))))))))))))
   intro dz au
   have r := r.trans (au.mono n)
   replace n := Nat.le_trans n (au.size)
   refine zB (zF (zK ?_))
   replace o := (o.trans2 (Ch.of_below z) (fun _ h => h.elim)).trans2 (Ch.of_below au) (fun _ h => h.elim)
   have j := zC (zC j z) au
   have d := zC (zC d z) au
   have i := zC (zC i z) au
   have c := (c.below z).below au
   exact zB ⟨(fromG (cutM xs lo hi) lo), lo, rfl, zk, c, j, d, i, r, o, n, leftC_zero zo, zo⟩
  rintro di dv ⟨a, p, bd, b8, c, j, d, i, r, o, n, jl, ja⟩
  refine yX b8 (W_cut (fun s0 w0 => ∃ (b : Nat) (q : Int), (s0.ds = []) ∧ ([0, 6, 7, 8, 9].map s0.f = [(pt l 0), (I6 0), (pt am 0), (N6 a), (N6 b)]) ∧ (Row w0 B_ 131 3 encSpanI s (cutM xs lo hi)) ∧ (w0.heap[l]? = some (.cells [s, (.bool true)].toArray 118 (0, 0))) ∧ (w0.heap[b1]? = some (.cells [(I3 lo), (I3 hi)].toArray 32 (0, 0))) ∧ (w0.heap[am]? = some (.cells [(I3 p), (I3 q), (I6 val)].toArray 131 (0, 0))) ∧ (Below B_ w w0) ∧ (Ch (Dm l t) w w0) ∧ (B_ ≤ w0.heap.size) ∧ (rightC eqI (cutM xs lo hi) lo hi val = (b, q)) ∧ (fromG (cutM xs lo hi) lo ≤ b ∧ b ≤ ((cutM xs lo hi)).length)) ?_ ?_)
  ·refine yA (xX zk zk (zV (zV (yB (pt l 0) zf (yB (pt l 0) zf (yD l 0 s zk zf (yI j rfl) (vV 116 131 ((cutM xs lo hi)).length s rfl underlying116 (c.rd).len zk (xV .i64 (((fromG (cutM xs lo hi) lo) : Nat) : Int) ((((cutM xs lo hi)).length : Nat) : Int) ((fromG (cutM xs lo hi) lo) < ((cutM xs lo hi)).length) rfl (cmpN_lt (fromG (cutM xs lo hi) lo) (((cutM xs lo hi)).length)) zk zk ?_ ?_))))))))
   ·intro ct
    replace ct : (fromG (cutM xs lo hi) lo) < ((cutM xs lo hi)).length := by omega
    refine zV (qw (zV (qw (yB (pt l 0) zf (qw (yB (pt l 0) zf (qw (yD l 0 s zk zf (yI j rfl) (qw (zV (qw ?_)))))))))))
    have hz := zX (cutM xs lo hi) (fromG (cutM xs lo hi) lo) zo; obtain ⟨aj, bm⟩ := hz
    have hz := (c.rd).at (k := 3) zj bm
    obtain ⟨ca, bi, cm, cf⟩ := hz
    have c7 := bt.at bm
    refine yN (k := .i64) s (fromG (cutM xs lo hi) lo) _ ca bi xK cm zo zk zk (qw (yB (pt ca (bi + (fromG (cutM xs lo hi) lo) * 3)) zf (qw (yD ca (bi + (fromG (cutM xs lo hi) lo) * 3) (I3 aj.1) zk zf (cf 0 _ rfl) (qw (yB (pt am 1) zf (qw (yD am 1 (I3 hi) zk zf (yI i rfl) (qw (qP hi 1 (hi + 1) rfl zk zk (xE _ zh zh) (qw (xV .i32 aj.1 (hi + 1) (aj.1 = (hi + 1)) rfl (Zq aj.1 (hi + 1)) zk zk ?_ ?_))))))))))))
    ·intro c3
     replace c3 : aj.1 = (hi + 1) := by omega
     refine qT (zV (qw (zV (qw (yB (pt l 0) zf (qw (yB (pt l 0) zf (qw (yD l 0 s zk zf (yI j rfl) (qw (zV (qw ?_))))))))))))
     have hz := (c.rd).at (k := 3) zj bm
     obtain ⟨b9, bg, cs, cl⟩ := hz
     refine yN (k := .i64) s (fromG (cutM xs lo hi) lo) _ b9 bg xK cs zo zk zk (qw (yB (pt b9 ((bg + (fromG (cutM xs lo hi) lo) * 3) + 2)) zf (qw (yD b9 ((bg + (fromG (cutM xs lo hi) lo) * 3) + 2) (I6 aj.2.2) zk zf (cl 2 _ rfl) (qw (zV (qw (xV .i64 aj.2.2 val (aj.2.2 = val) rfl (Zq aj.2.2 val) zk zk ?_ ?_))))))))
     ·intro cv
      replace cv : aj.2.2 = val := by omega
      refine qT (yQ ?_)
      intro d3 ay
      have r := r.trans (ay.mono n)
      replace n := Nat.le_trans n (ay.size)
      have j := zC j ay
      refine zB (zT (wR (zD (zr (pt l 0) (wB 0 j rfl (zD ?_))))))
      have i := zC i ay
      have c := c.below ay
      refine zE c.rd xK (fromG (cutM xs lo hi) lo) bm 1 rfl fun _ _ => (zr (pt am 1) (z1 1 (I3 aj.2.1) [(I3 p), (I3 aj.2.1), (I6 val)] i ?_))
      intro d1 a2
      replace n := Nat.le_trans n (Nat.le_of_eq a2.size.symm)
      have j := zI j a2 (zU j i zi)
      have d := zC d ay
      have d := zI d a2 (zU d i zi)
      have i := a2.here
      refine nQ (zP (zD (xN (fromG (cutM xs lo hi) lo) 1 (zH (zQ ?_)))))
      have r := r.trans (a2.below bs)
      replace o := (o.trans2 (Ch.of_below ay) (fun _ h => h.elim)).trans2 (Ch.of_wrote a2) (fun k e => e ▸ bb)
      have c := c.wrote a2 m
      exact zB ⟨((fromG (cutM xs lo hi) lo) + 1), aj.2.1, bd, zk, c, j, d, i, r, o, n, rightC_yes za zo (eqI_y za), zo⟩
     intro cw
     replace cw : aj.2.2 ≠ val := by omega
     refine qT (yQ ?_)
     intro dk ax
     have r := r.trans (ax.mono n)
     replace n := Nat.le_trans n (ax.size)
     refine zB (zF (zK ?_))
     replace o := o.trans2 (Ch.of_below ax) (fun _ h => h.elim)
     have j := zC j ax
     have d := zC d ax
     have i := zC i ax
     have c := c.below ax
     exact zB ⟨(fromG (cutM xs lo hi) lo), hi, bd, zk, c, j, d, i, r, o, n, rightC_no za (.inr (eqI_n za)), zo⟩
    intro cu
    replace cu : aj.1 ≠ (hi + 1) := by omega
    refine qT (zV (qs (qs (qs (qs (qs (qs (qs (qs (qs (qs (qF (yQ ?_)))))))))))))
    intro d0 aq
    have r := r.trans (aq.mono n)
    replace n := Nat.le_trans n (aq.size)
    refine zB (zF (zK ?_))
    replace o := o.trans2 (Ch.of_below aq) (fun _ h => h.elim)
    have j := zC j aq
    have d := zC d aq
    have i := zC i aq
    have c := c.below aq
    exact zB ⟨(fromG (cutM xs lo hi) lo), hi, bd, zk, c, j, d, i, r, o, n, rightC_no za (.inl zo), zo⟩
   intro c2
   replace c2 : ((cutM xs lo hi)).length ≤ (fromG (cutM xs lo hi) lo) := by omega
   refine zV (qs (qs (qs (qs (qs (qs (qs (qs (qs (qs (qs (qs (qF (zV (qs (qs (qs (qs (qs (qs (qs (qs (qs (qs (qF (yQ ?_))))))))))))))))))))))))))
   intro dr a6
   have r := r.trans (a6.mono n)
   replace n := Nat.le_trans n (a6.size)
   refine zB (zF (zK ?_))
   replace o := o.trans2 (Ch.of_below a6) (fun _ h => h.elim)
   have j := zC j a6
   have d := zC d a6
   have i := zC i a6
   have c := c.below a6
   exact zB ⟨(fromG (cutM xs lo hi) lo), hi, bd, zk, c, j, d, i, r, o, n, rightC_end zo, zo⟩
  rintro dw d2 ⟨b, q, bd, b8, c, j, d, i, r, o, n, jr, jb⟩
  refine yX b8 (yA (W_held 13 zk zk ?_))
  intro b7 ai
  have r := r.trans (ai.mono n)
  replace n := Nat.le_trans n (ai.size)
  refine ⟨fun w2 => Ch (Dm l s) b7 w2, ?_⟩
  have hS : Ch (Dm l s) b7 b7 := Ch.refl _ _
  refine hp 0 rfl (pt l 0) hS (hp 1 rfl (pt l 0) hS (hp 2 rfl (pt l 0) hS (hp 3 rfl (pt l 0) hS (hp 5 rfl (N6 a) hS (hp 6 rfl (N6 b) hS ?_)))))
  have j := zC j ai
  have i := zC i ai
  refine ht 7 rfl (Value.agg #[(I3 p), (I3 q), (I6 val)]) hS (R_loadA am 0 [(I3 p), (I3 q), (I6 val)] zk zf zf (fun w2 h2 => qA (yP i h2 (zU i j zi) m) 0 zk)) ?_
  refine H_all2 4 8 zk ?_ ?_
  ·skip
   refine H_op 4 rfl zk plain_load (zO 0 j rfl (zQ ?_))
   refine ⟨rfl, hS, H_all1 8 zk (H_op 8 rfl zk zk (zM 1 [(I3 p), (I3 q), (I6 val)] 131 ?_))⟩
   intro bw c6 y
   have b6 : B_ ≤ bw := by rw [y.num]; exact n
   have c := c.below ai
   have ap : Value.ownBlock s = none ∨ Value.ownBlock s ≠ Value.ownBlock (.slice (some ⟨bw, 0, none⟩) 1 1) := .inr (c.new_ne y)
   have ab := yW ap
   replace o := o.trans2 (Ch.of_below ai) (fun _ h => h.elim)
   have ce : ∀ g, Value.ownBlock (.slice (some ⟨bw, 0, none⟩) 1 1) = some g → (World.heap w).size ≤ g ∨ (Dm l t) g := fun g h => .inl (by cases h; rw [y.num]; exact o.size)
   have r := r.trans (y.below.mono n)
   replace n := Nat.le_trans n (y.below.size)
   have br : Row c6 B_ 131 3 encSpanI (.slice (some ⟨bw, 0, none⟩) 1 1) ([(p, q, val)] : List (Int × Int × Int)) := Row.made ([(p, q, val)] : List (Int × Int × Int)) y b6 rfl rfl (by first | decide | (simp; done))
   refine zQ ?_
   replace hS := hS.trans2 (Ch.of_below y.below) (fun _ h => h.elim)
   refine ⟨rfl, hS, H_all1 9 zk (H_op 9 rfl zk zk ?_)⟩
   have c := c.below y.below
   refine zc (c_replace_I B_ s (cutM xs lo hi) a b (.slice (some ⟨bw, 0, none⟩) 1 1) ([(p, q, val)] : List (Int × Int × Int)) _ n c br.mono0 ab zo zo zo (by first | omega | simp)) ?_
   replace o := o.trans2 (Ch.of_below y.below) (fun _ h => h.elim)
   rintro b3 dh ⟨_, rfl, al, bu, ae⟩
   have bh := dr_call o bu ag
   have r := ae.below r n (fun k e => (World.ownsRow.lt c k e).1)
   replace n := Nat.le_trans n ae.size
   have j := zC j y.below
   have av := xQ j ae (c.ne j zi)
   have d := zC (zC d ai) y.below
   have bx := xQ d ae (c.ne d zi)
   have i := zC i y.below
   have bp := nb_mutrow i bu m
   have bz := xQ i ae m
   have cr := br.ch_row ae ab
   have j := av; clear av
   refine zQ ?_
   replace hS := hS.trans2 ae (fun k e => .inr (.inr e))
   refine ⟨rfl, hS, hp 10 rfl (pt l 0) hS (hp 11 rfl (pt l 0) hS (H_all1 12 zk (H_op 12 rfl zk plain_store (xC l 0 b3 [s, (.bool true)] [b3, (.bool true)] 118 zk zk al.one zk j zi rfl ?_))))⟩
   intro dc a1
   replace n := Nat.le_trans n (Nat.le_of_eq a1.size.symm)
   have al := al.wrote a1 (al.ne j zi)
   have j := a1.here
   refine zQ ?_
   replace hS := hS.trans2 (Ch.of_wrote a1) (fun k e => .inr (.inl e))
   refine ⟨rfl, hS, H_done zk (zB (wR (zH (nQ (zR (zZ [(I6 0)] (hd := bd) ?_))))))⟩
   have hE : ((0 : Int) = (layE lo hi)) ∧ ((List.take a (cutM xs lo hi) ++ ([(p, q, val)] : List (Int × Int × Int)) ++ List.drop b (cutM xs lo hi)) = (layF eqI xs lo hi val)) := ⟨(by (rw [layE, if_neg (tnf za)]; done)), (by (rw [layF, if_neg (tnf za), layG, show cutG lo hi xs = cutM xs lo hi from (by rw [cutM, if_neg (tnf za)])]; exact layC_mk jl jr))⟩
   replace o := (o.trans2 ae (fun k e => ag k e)).trans2 (Ch.of_wrote a1) (fun k e => e ▸ bk)
   exact ⟨_, e6 hE.1, j, al.cast hE.2, bh, o⟩
  skip
  refine H_op 8 rfl zk zk (zM 1 [(I3 p), (I3 q), (I6 val)] 131 ?_)
  intro ba ck u
  have b0 : B_ ≤ ba := by rw [u.num]; exact n
  have c := c.below ai
  have ao : Value.ownBlock s = none ∨ Value.ownBlock s ≠ Value.ownBlock (.slice (some ⟨ba, 0, none⟩) 1 1) := .inr (c.new_ne u)
  have aa := yW ao
  replace o := o.trans2 (Ch.of_below ai) (fun _ h => h.elim)
  have b5 : ∀ g, Value.ownBlock (.slice (some ⟨ba, 0, none⟩) 1 1) = some g → (World.heap w).size ≤ g ∨ (Dm l t) g := fun g h => .inl (by cases h; rw [u.num]; exact o.size)
  have r := r.trans (u.below.mono n)
  replace n := Nat.le_trans n (u.below.size)
  have bj : Row ck B_ 131 3 encSpanI (.slice (some ⟨ba, 0, none⟩) 1 1) ([(p, q, val)] : List (Int × Int × Int)) := Row.made ([(p, q, val)] : List (Int × Int × Int)) u b0 rfl rfl (by first | decide | (simp; done))
  refine zQ ?_
  replace hS := hS.trans2 (Ch.of_below u.below) (fun _ h => h.elim)
  refine ⟨rfl, hS, H_all1 4 zk (H_op 4 rfl zk plain_load ?_)⟩
  have j := zC j u.below
  refine zO 0 j rfl (zQ ?_)
  refine ⟨rfl, hS, H_all1 9 zk (H_op 9 rfl zk zk ?_)⟩
  have c := c.below u.below
  refine zc (c_replace_I B_ s (cutM xs lo hi) a b (.slice (some ⟨ba, 0, none⟩) 1 1) ([(p, q, val)] : List (Int × Int × Int)) _ n c bj.mono0 aa zo zo zo (by first | omega | simp)) ?_
  replace o := o.trans2 (Ch.of_below u.below) (fun _ h => h.elim)
  rintro b4 df ⟨_, rfl, an, bq, ac⟩
  have bf := dr_call o bq ag
  have r := ac.below r n (fun k e => (World.ownsRow.lt c k e).1)
  replace n := Nat.le_trans n ac.size
  have av := xQ j ac (c.ne j zi)
  have d := zC (zC d ai) u.below
  have bx := xQ d ac (c.ne d zi)
  have i := zC i u.below
  have bo := nb_mutrow i bq m
  have bz := xQ i ac m
  have cd := bj.ch_row ac aa
  have j := av; clear av
  refine zQ ?_
  replace hS := hS.trans2 ac (fun k e => .inr (.inr e))
  refine ⟨rfl, hS, hp 10 rfl (pt l 0) hS (hp 11 rfl (pt l 0) hS (H_all1 12 zk (H_op 12 rfl zk plain_store (xC l 0 b4 [s, (.bool true)] [b4, (.bool true)] 118 zk zk an.one zk j zi rfl ?_))))⟩
  intro dd a4
  replace n := Nat.le_trans n (Nat.le_of_eq a4.size.symm)
  have an := an.wrote a4 (an.ne j zi)
  have j := a4.here
  refine zQ ?_
  replace hS := hS.trans2 (Ch.of_wrote a4) (fun k e => .inr (.inl e))
  refine ⟨rfl, hS, H_done zk (zB (wR (zH (nQ (zR (zZ [(I6 0)] (hd := bd) ?_))))))⟩
  have hE : ((0 : Int) = (layE lo hi)) ∧ ((List.take a (cutM xs lo hi) ++ ([(p, q, val)] : List (Int × Int × Int)) ++ List.drop b (cutM xs lo hi)) = (layF eqI xs lo hi val)) := ⟨(by (rw [layE, if_neg (tnf za)]; done)), (by (rw [layF, if_neg (tnf za), layG, show cutG lo hi xs = cutM xs lo hi from (by rw [cutM, if_neg (tnf za)])]; exact layC_mk jl jr))⟩
  replace o := (o.trans2 ac (fun k e => ag k e)).trans2 (Ch.of_wrote a4) (fun k e => e ▸ bk)
  exact ⟨_, e6 hE.1, j, an.cast hE.2, bf, o⟩
 intro de
 refine qO false (zH (nQ (zT (wR (zH (nQ (zR (zL (zG (zZ [(I6 41)] ?_))))))))))
 have hE : ((41 : Int) = (layE lo hi)) ∧ (xs = (layF eqI xs lo hi val)) := ⟨(by (rw [layE, if_pos za]; done)), (by (rw [layF, if_pos za]; done))⟩
 replace o := o.trans2 (Ch.of_below a7) (fun _ h => h.elim)
 have j := zC (zC j a8) a7
 have af := (af.below a8).below a7
 exact ⟨_, e6 hE.1, j, af.cast hE.2, aw, o⟩
theorem c_put_I (f : Nat) (b : Value) (xs : List (Int × Int × Int)) (lo : Int) (hi : Int) (val : Int) (B_ : Nat) (w : World) (hs0 : B_ ≤ w.heap.size) (d : w.heap[f]? = some (.cells [b, (.bool true)].toArray 118 (0, 0))) (ah : B_ ≤ f) (a : Row w B_ 131 3 encSpanI b xs) (hr : RiseG 0 xs) (hlo : -2147483648 ≤ lo ∧ lo ≤ 2147483647) (hhi : -2147483648 ≤ hi ∧ hi ≤ 2147483647) :
  Calls Tryz.prog 61 #[(pt f 0), (Value.agg #[(I3 lo), (I3 hi)]), (I6 val)] w (Ret fun v w' => ∃ q0 : Value, v = (I6 (putE xs lo hi)) ∧ w'.heap[f]? = some (.cells [q0, (.bool true)].toArray 118 (0, 0)) ∧ Row w' B_ 131 3 encSpanI q0 (putF eqI xs lo hi val) ∧ (∀ g, Value.ownBlock q0 = some g → w.heap.size ≤ g ∨ (Dm f b) g) ∧ Ch (Dm f b) w w') := by
 refine wJ 29 func61 rfl ?_
 have s := Below.refl B_ w
 have m : B_ ≤ (World.heap w).size := hs0
 have n := Ch.refl (Dm f b) w
 have ad : (World.heap w).size ≤ f ∨ (Dm f b) f := .inr (.inl rfl)
 have j : ∀ g, Value.ownBlock b = some g → (World.heap w).size ≤ g ∨ (Dm f b) g := fun g h => .inr (.inr h)
 have av := hr.len
 refine wR (zN [(I3 lo), (I3 hi)] 32 ?_)
 intro b1 w2 r
 have ap : B_ ≤ b1 := by rw [r.num]; exact m
 have am : (World.heap w).size ≤ b1 ∨ (Dm f b) b1 := .inl (by rw [r.num]; exact n.size)
 have s := s.trans (r.below.mono m)
 replace m := Nat.le_trans m (r.below.size)
 have c := r.here
 have d := zC d r.below
 have a := a.below r.below
 refine zH (nW (zW (wR (zD (zc (c_none_I f b xs _ d a.rd) ?_)))))
 replace n := n.trans2 (Ch.of_below r.below) (fun _ h => h.elim)
 rintro _ w4 ⟨rfl, q⟩
 have s := s.trans (q.mono m)
 replace m := Nat.le_trans m (q.size)
 have c := zC c q
 refine zH (nQ (zF (wR (vT c (zc (qK lo hi _ ) ?_)))))
 replace n := n.trans2 (Ch.of_below q) (fun _ h => h.elim)
 rintro _ w7 ⟨rfl, p⟩
 have s := s.trans (p.mono m)
 replace m := Nat.le_trans m (p.size)
 refine yT (mayF lo hi) ?_ ?_
 ·intro ao
  have ar := Zn ao
  have d := zC (zC d q) p
  have c := zC c p
  have a := (a.below q).below p
  refine qO true (zH (nQ (zF (zK (zJ (zB (yA (wR (zD (vT c (zc (c_meets_I f b xs lo hi _ d a.rd (by exact hr) zo) ?_)))))))))))
  replace n := n.trans2 (Ch.of_below p) (fun _ h => h.elim)
  rintro _ au ⟨rfl, o⟩
  have s := s.trans (o.mono m)
  replace m := Nat.le_trans m (o.size)
  refine zD (zr (Value.agg #[(I3 ((metV 0 (metG xs lo hi)).1)), (I3 ((metV 0 (metG xs lo hi)).2.1))]) (zr (I6 ((metV 0 (metG xs lo hi)).2.2.1)) (zr (.bool ((metV 0 (metG xs lo hi)).2.2.2)) (zN [(I3 0), (I3 0)] 32 ?_))))
  intro ag ay i
  have c := zC c o
  have u := NE_new (yL c) i
  have ai : B_ ≤ ag := by rw [i.num]; exact m
  replace n := n.trans2 (Ch.of_below o) (fun _ h => h.elim)
  have ab : (World.heap w).size ≤ ag ∨ (Dm f b) ag := .inl (by rw [i.num]; exact n.size)
  have s := s.trans (i.below.mono m)
  replace m := Nat.le_trans m (i.below.size)
  have y := i.here
  refine qQ [(I3 ((metV 0 (metG xs lo hi)).1)), (I3 ((metV 0 (metG xs lo hi)).2.1))] y ?_
  intro aw l
  replace m := Nat.le_trans m (Nat.le_of_eq l.size.symm)
  have d := zC (zC d o) i.below
  have d := zI d l (zU d y zi)
  have a := (a.below o).below i.below
  have a := a.wrote l (a.ne y zi)
  refine zH (zH (nR (zD (nQ ?_))))
  rcases Bool.eq_false_or_eq_true ((metV 0 (metG xs lo hi)).2.2.2) with aa | aa
  ·skip
   refine W_ifT aa zk (wR (zH (nQ (zR (zG (zZ [(I6 42)] ?_))))))
   have hE : ((42 : Int) = (putE xs lo hi)) ∧ (xs = (putF eqI xs lo hi val)) := ⟨(by exact (put_metG (eq := eqI) (v := val) (z := 0) za za).1), (by exact (put_metG (z := 0) za za).2)⟩
   replace n := (n.trans2 (Ch.of_below i.below) (fun _ h => h.elim)).trans2 (Ch.of_wrote l) (fun k e => e ▸ ab)
   exact ⟨_, e6 hE.1, d, a.cast hE.2, j, n⟩
  skip
  have c := zI (zC c i.below) l u
  refine W_ifF aa zk (zK (zB (wR (zD (vT c (zD (zc (c_lay_I f b xs lo hi val B_ _ m d ah a (by exact hr) zo zo) ?_)))))))
  replace n := (n.trans2 (Ch.of_below i.below) (fun _ h => h.elim)).trans2 (Ch.of_wrote l) (fun k e => e ▸ ab)
  rintro _ ax ⟨an, rfl, aj, af, ak, ac⟩
  have t : ∀ g, Value.ownBlock an = some g → (World.heap w).size ≤ g ∨ (Dm f b) g := fun g hg => (ak g hg).elim (fun x => .inl (Nat.le_trans n.size x)) (fun x => x.elim (fun x => x ▸ ad) (fun x => j g x))
  have s := s.trans (l.below ai)
  have s := ac.below s m (fun k e => e.elim (fun x => x ▸ ah) (fun x => (World.ownsRow.lt a k x).1))
  replace m := Nat.le_trans m ac.size
  have d := aj
  refine zH (nQ (zR (zZ [(I6 (layE lo hi))] ?_)))
  have hE : (((layE lo hi) : Int) = (putE xs lo hi)) ∧ ((layF eqI xs lo hi val) = (putF eqI xs lo hi val)) := ⟨(by exact (put_okG (eq := eqI) (v := val) (z := 0) za za).1), (by exact (put_okG (z := 0) za za).2)⟩
  replace n := n.trans2 ac (fun k e => e.elim (fun x => x ▸ ad) (fun x => j k x))
  exact ⟨_, e6 hE.1, d, af.cast hE.2, t, n⟩
 intro aq
 refine qO false (zH (nQ (zT (wR (zH (nQ (zR (zL (zG (zZ [(I6 41)] ?_))))))))))
 have hE : ((41 : Int) = (putE xs lo hi)) ∧ (xs = (putF eqI xs lo hi val)) := ⟨(by exact (put_badG (eq := eqI) (v := val) za).1), (by exact (put_badG za).2)⟩
 replace n := n.trans2 (Ch.of_below p) (fun _ h => h.elim)
 have d := zC (zC d q) p
 have a := (a.below q).below p
 exact ⟨_, e6 hE.1, d, a.cast hE.2, j, n⟩
end Go.Proofs.YtkclikfejmeblaaGreatDoor
end

/- === WcmC === -/
section
/- Walks, written by my program walk.py out of the specification cmC.py: each theorem says what one function returns and that it leaves memory as it was. -/
namespace Go.Proofs.YtkclikfejmeblaaGreatDoor
open Go Go.RowKit Go.FK _root_.Go.Proofs.Tryz
set_option maxHeartbeats 4000000
set_option maxRecDepth 100000
theorem xH : Elem Tryz.prog 113 126 3 12 := ⟨underlying113, zk, rfl⟩
theorem c_new_C (w : World) :
  Calls Tryz.prog 28 #[] w (Ret fun v w' => ∃ (cb0 : Nat), v = (pt cb0 0) ∧ w'.heap[cb0]? = some (.cells [(.slice none 0 0), (.bool true)].toArray 115 (0, 0)) ∧ w.heap.size ≤ cb0 ∧ Below w.heap.size w w') := by
 refine wJ 3 func28 rfl ?_
 have d := Below.refl w.heap.size w
 refine wR (zH (nR (zr (Value.agg #[(.slice none 0 0), (.bool true)]) (zN [(.slice none 0 0), (.bool true)] 115 ?_))))
 intro e f a
 have b := a.ge d.size
 have c := a.here
 have d := d.tr a.below
 exact zH (nQ (zR (zZ [(pt e 0)] ⟨e, rfl, c, b, d⟩)))
theorem c_none_C (a : Nat) (b : Value) (xs : List (Int × Int × Int)) (w : World) (c : w.heap[a]? = some (.cells [b, (.bool true)].toArray 115 (0, 0))) (d : Rd w encSpanC b xs) :
  Calls Tryz.prog 63 #[(pt a 0)] w (Ret fun v w' => v = (.bool false) ∧ Below w.heap.size w w') := by
 refine wJ 12 func63 rfl ?_
 have e := Below.refl w.heap.size w
 exact wR (zH (nR (zD (zr (.bool false) (zD (zw (zD (zw (zr (pt a 0) (zw (zr (pt a 1) (zw (zO 1 c rfl (zw (qO true (xF (zH (nQ (zR (zZ [(.bool false)] ⟨rfl, e⟩))))))))))))))))))))
theorem c_cmp_C (lo : Int) (hi : Int) (val : Int) (x : Int) (w : World) (h1 : -2147483648 ≤ hi ∧ hi ≤ 2147483647) (h2 : -2147483648 ≤ x ∧ x ≤ 2147483647) :
  Calls Tryz.prog 105 #[(Value.agg #[(I3 lo), (I3 hi), (U8 val)]), (I3 x)] w (Ret fun v w' => v = (I6 (hi - x)) ∧ Below w.heap.size w w') := by
 refine wJ 11 func105 rfl ?_
 have c := Below.refl w.heap.size w
 refine wR (zN [(I3 lo), (I3 hi), (U8 val)] 126 ?_)
 intro e f a
 have d := a.ge c.size
 have b := a.here
 have c := c.tr a.below
 exact zH (nR (wB 1 b rfl (wU (k := .i32) hi hi zk underlying3 zk (yK _ zo zo) (zD (wU (k := .i32) x x zk underlying3 zk (yK _ zo zo) (yY hi x (hi - x) rfl zk zk (yK _ zh zh) (zH (nQ (zR (zZ [(I6 (hi - x))] ⟨rfl, c⟩))))))))))
theorem c_bsf_C (b : Value) (xs : List (Int × Int × Int)) (x : Int) (w : World) (a : Rd w encSpanC b xs) (hr : RiseG 0 xs) (hx : -2147483648 ≤ x ∧ x ≤ 2147483647) :
  Calls Tryz.prog 104 #[b, (I3 x), (.func (.func 105) #[] #[])] w (Ret fun v w' => v = (.tuple #[(N6 (fromG xs x)), (.bool (foundG xs x))]) ∧ Below w.heap.size w w') := by
 refine wJ 49 func104 rfl ?_
 have c := Below.refl w.heap.size w
 have ak := hr.len
 refine wR (zH (zH (nR (zD (vY underlying113 (a).len (zH (nR (zD (zH (zH (nW (zW (xA (fun m s0 w0 => ∃ (i : Nat) (j : Nat), (m = j - i) ∧ (s0.ds = []) ∧ ([0, 1, 2, 6, 7, 8, 9, 10].map s0.f = [b, (I3 x), (.func (.func 105) #[] #[]), (I6 0), (.bool false), (N6 ((xs).length)), (N6 i), (N6 j)]) ∧ (Rd w0 encSpanC b xs) ∧ (Below w.heap.size w w0) ∧ (i ≤ j) ∧ (j ≤ xs.length) ∧ (lowG xs x i) ∧ (highG xs x j)) _ ⟨0, ((xs).length), rfl, zk, zk, a, c, by omega, by omega, lowG_zero xs x, highG_end xs x⟩ ?_)))))))))))))
 rintro m1 s2 w3 ⟨i, j, hm, h, ab, a, c, s, r, p, o⟩
 refine yX ab (yA (wR (zD (zD (nLt i j ?_ ?_)))))
 ·intro h4
  refine nQ (zT (zK (zB (zW (wR (zD (zD (xN i j (wU (k := .i64) (((i + j) : Nat) : Int) (((i + j) : Nat) : Int) zk underlying187 zk (wrap_u64 _ zo zo) (L_shr (k := .u64) (yk := .u64) (((i + j) : Nat) : Int) 1 2 rfl zk zk zk (wU (k := .u64) ((((i + j) / 2) : Nat) : Int) ((((i + j) / 2) : Nat) : Int) zk underlying3 zk (yK _ zo zo) (zH (nR (zD (zD (zD ?_))))))))))))))))
  have y := zX xs ((i + j) / 2) zo; obtain ⟨q, u⟩ := y
  have ac := hr.at u
  refine zEA a xH ((i + j) / 2) u [(I3 q.1), (I3 q.2.1), (U8 q.2.2)] rfl fun _ => (zD (zc (c_cmp_C q.1 q.2.1 q.2.2 x _ zo zo) ?_))
  rintro _ aj ⟨rfl, e⟩
  refine zLt .i64 (q.2.1 - x) 0 ?_ ?_
  ·intro am
   refine nQ (zT (zP (zD (xN ((i + j) / 2) 1 (zH (zQ (zJ ?_)))))))
   have c := c.tr e
   have a := a.below e
   refine zB ⟨_, zo, (((i + j) / 2) + 1), j, rfl, h, zk, a, c, zo, zo, ?_, ?_⟩
   ·exact lowG_step hr za zo
   exact o
  intro ag
  refine nQ (zF (zP (zD (zH (zQ (zJ ?_))))))
  have c := c.tr e
  have a := a.below e
  refine zB ⟨_, zo, i, ((i + j) / 2), rfl, h, zk, a, c, zo, zo, ?_, ?_⟩
  ·exact p
  exact highG_step za zo
 intro al
 refine nQ (zF (yU (zS (zS (yF (zB (wR (zD (zD (zD (nLt i ((xs).length) ?_ ?_)))))))))))
 ·intro ai
  refine zD (zw (zD (zw (zD (zw (zD (zw ?_)))))))
  have y := zX xs i zo; obtain ⟨d, l⟩ := y
  have y := (a).at (k := 3) zj l
  obtain ⟨t, g, aa, z⟩ := y
  have ac := hr.at l
  refine yS (k := .i64) b i _ t g xH aa zo zk zk (zw (xB t (g + i * 3) [(I3 d.1), (I3 d.2.1), (U8 d.2.2)] zk zk zk z (zw (zD (zw (zc (c_cmp_C d.1 d.2.1 d.2.2 x _ zo zo) ?_))))))
  rintro _ ad ⟨rfl, n⟩
  refine zw (qX .i64 (d.2.1 - x) 0 ?_ ?_)
  ·intro ae
   have c := c.tr n
   exact xJ (zH (zH (nQ (zR (zZ [(N6 i), (.bool true)] (hd := h) ⟨yV (congrArg (fun x : Nat => Value.int .i64 (x : Int)) (by exact (qE p o s zo r).symm)) (eb (by (rw [foundG_some (qE p o s zo r) za]; simp; omega))), c⟩)))))
  intro af
  have c := c.tr n
  exact xJ (zH (zH (nQ (zR (zZ [(N6 i), (.bool false)] (hd := h) ⟨yV (congrArg (fun x : Nat => Value.int .i64 (x : Int)) (by exact (qE p o s zo r).symm)) (eb (by (rw [foundG_some (qE p o s zo r) za]; simp; omega))), c⟩)))))
 intro ah
 exact zD (zs (zs (zs (zs (zs (zs (zs (zs (xF (zH (zH (nQ (zR (zZ [(N6 i), (.bool false)] (hd := h) ⟨yV (congrArg (fun x : Nat => Value.int .i64 (x : Int)) (by exact (qE p o s zo r).symm)) (eb (by (rw [foundG_none (qE p o s zo r) zo]; done))), c⟩))))))))))))))
theorem c_from_C (b : Nat) (a : Value) (xs : List (Int × Int × Int)) (x : Int) (w : World) (e : w.heap[b]? = some (.cells [a, (.bool true)].toArray 115 (0, 0))) (c : Rd w encSpanC a xs) (hr : RiseG 0 xs) (hx : -2147483648 ≤ x ∧ x ≤ 2147483647) :
  Calls Tryz.prog 66 #[(pt b 0), (I3 x)] w (Ret fun v w' => v = (N6 (fromG xs x)) ∧ Below w.heap.size w w') := by
 refine wJ 17 func66 rfl ?_
 have d := Below.refl w.heap.size w
 have g := hr.len
 refine wR (zH (nR (zD (zr (pt b 0) (wB 0 e rfl (zD (zc (c_bsf_C a xs x _ c (by exact hr) zo) ?_)))))))
 rintro _ h ⟨rfl, f⟩
 have d := d.tr f
 exact zD (zr (N6 (fromG xs x)) (zr (.bool (foundG xs x)) (zH (zH (nR (zD (zH (nQ (zR (zZ [(N6 (fromG xs x))] ⟨rfl, d⟩))))))))))
theorem c_at_C (c : Nat) (d : Value) (xs : List (Int × Int × Int)) (x : Int) (w : World) (b : w.heap[c]? = some (.cells [d, (.bool true)].toArray 115 (0, 0))) (a : Rd w encSpanC d xs) (hr : RiseG 0 xs) :
  Calls Tryz.prog 39 #[(pt c 0), (I3 x)] w (Ret fun v w' => v = (.tuple #[(U8 ((atM 0 xs x).1)), (.bool ((atM 0 xs x).2))]) ∧ Below w.heap.size w w') := by
 refine wJ 50 func39 rfl ?_
 have f := Below.refl w.heap.size w
 have r := hr.len
 refine wR (zH (zH (nR (zH (nW (wR (zD (zc (c_none_C c d xs _ b a) ?_))))))))
 rintro _ u ⟨rfl, e⟩
 refine zD (zw (zD (zw (zLt .i32 x 0 ?_ ?_))))
 ·intro h4
  have f := f.tr e
  exact xF (zD (zs (zs (xJ (nQ (zT (wR (zD (zH (zH (nQ (zR (zG (zZ [(U8 0), (.bool false)] ⟨yV (eu (by (rw [atG_out zo]; done))) (eb (by (rw [atG_out zo]; done))), f⟩))))))))))))))
 intro h5
 refine xF (zD (zw (zD (zw (zGt .i32 x 1114111 ?_ ?_)))))
 ·intro h6
  have f := f.tr e
  exact xF (nQ (zT (wR (zD (zH (zH (nQ (zR (zG (zZ [(U8 0), (.bool false)] ⟨yV (eu (by (rw [atG_out zo]; done))) (eb (by (rw [atG_out zo]; done))), f⟩))))))))))
 intro z
 have b := zC b e
 have a := a.below e
 refine xF (nQ (zF (zK (zB (yA (wR (zD (zD (zc (c_from_C c d xs x _ b a (by exact hr) zo) ?_)))))))))
 rintro _ y ⟨rfl, h⟩
 have := uC xs x
 have b := zC b h
 have a := a.below h
 refine zH (nR (zD (zD (zr (pt c 0) (wB 0 b rfl (vY underlying113 (a).len (nLt (fromG xs x) ((xs).length) ?_ ?_)))))))
 ·intro t
  refine zD (zw (zD (zw (zr (pt c 0) (zw (zr (pt c 0) (zw (zO 0 b rfl (zw (zD (zw ?_)))))))))))
  have o := zX xs (fromG xs x) zo; obtain ⟨l, i⟩ := o
  have o := (a).at (k := 3) zj i
  obtain ⟨j, g, m, n⟩ := o
  refine yS (k := .i64) d (fromG xs x) _ j g xH m zo zk zk (zw (zr (pt j (g + (fromG xs x) * 3)) (zw (qL j (g + (fromG xs x) * 3) (I3 l.1) zk zk (n 0 _ rfl) (zw (zD (zw (zLe .i32 l.1 x ?_ ?_))))))))
  ·intro q
   refine xJ (nQ (zT (wR (zD (zr (pt c 0) (wB 0 b rfl (zD ?_)))))))
   have f := (f.tr e).tr h
   exact zE a xH (fromG xs x) i 2 rfl fun _ _ => (zH (zH (nQ (zR (zG (zZ [(U8 l.2.2), (.bool true)] ⟨yV (eu (by (rw [atG_in hr zo zo za zo]; done))) (eb (by (rw [atG_in hr zo zo za zo]; done))), f⟩))))))
  intro p
  have f := (f.tr e).tr h
  exact xJ (nQ (zF (zK (zB (wR (zD (zH (zH (nQ (zR (zZ [(U8 0), (.bool false)] ⟨yV (eu (by (rw [atG_gap hr zo zo za zo]; done))) (eb (by (rw [atG_gap hr zo zo za zo]; done))), f⟩)))))))))))
 intro s
 have f := (f.tr e).tr h
 exact zD (zs (zs (zs (zs (zs (zs (zs (zs (zs (zs (xF (nQ (zF (zK (zB (wR (zD (zH (zH (nQ (zR (zZ [(U8 0), (.bool false)] ⟨yV (eu (by (rw [atG_end zo zo zo]; done))) (eb (by (rw [atG_end zo zo zo]; done))), f⟩))))))))))))))))))))))
theorem c_meets_C (f : Nat) (c : Value) (xs : List (Int × Int × Int)) (lo : Int) (hi : Int) (w : World) (h : w.heap[f]? = some (.cells [c, (.bool true)].toArray 115 (0, 0))) (m : Rd w encSpanC c xs) (hr : RiseG 0 xs) (hlo : -2147483648 ≤ lo ∧ lo ≤ 2147483647) :
  Calls Tryz.prog 103 #[(pt f 0), (Value.agg #[(I3 lo), (I3 hi)])] w (Ret fun v w' => v = (.tuple #[(Value.agg #[(I3 ((metV 0 (metG xs lo hi)).1)), (I3 ((metV 0 (metG xs lo hi)).2.1))]), (U8 ((metV 0 (metG xs lo hi)).2.2.1)), (.bool ((metV 0 (metG xs lo hi)).2.2.2))]) ∧ Below w.heap.size w w') := by
 refine wJ 69 func103 rfl ?_
 have i := Below.refl w.heap.size w
 have g := m
 have bg := hr.len
 refine wR (zN [(I3 lo), (I3 hi)] 32 ?_)
 intro b1 w2 af
 have a6 := af.ge i.size
 have j := af.here
 refine zN [(I3 0), (I3 0)] 32 ?_
 intro b4 w5 z
 have i := i.tr af.below
 have n := z.ge i.size
 have b := z.here
 have i := i.tr z.below
 have h := zC (zC h af.below) z.below
 have m := g.below i
 refine zH (zH (nR (zH (nW (wR (zD (zc (c_none_C f c xs _ h m) ?_)))))))
 rintro _ w7 ⟨rfl, s⟩
 have j := zC (zC j z.below) s
 refine zD (zw (vT j (zw (zc (qK lo hi _ ) ?_))))
 rintro _ bd ⟨rfl, l⟩
 refine yT (mayF lo hi) ?_ ?_
 ·intro bf
  have i := (i.tr s).tr l
  have h := zC (zC h s) l
  have j := zC j l
  have m := g.below i
  refine zw (qO true (xF (nQ (zF (zK (zB (yA (wR (zD (wB 0 j rfl (zc (c_from_C f c xs lo _ h m (by exact hr) zo) ?_)))))))))))
  rintro _ a9 ⟨rfl, o⟩
  have := uC xs lo
  have i := i.tr o
  have h := zC h o
  have m := g.below i
  refine zH (nW (xX zk zk (zV (zV (yB (pt f 0) zf (yB (pt f 0) zf (yD f 0 c zk zf (yI h rfl) (vV 113 126 (xs).length c rfl underlying113 (m).len zk (xV .i64 (((fromG xs lo) : Nat) : Int) (((xs).length : Nat) : Int) ((fromG xs lo) < (xs).length) rfl (cmpN_lt (fromG xs lo) ((xs).length)) zk zk ?_ ?_)))))))))
  ·intro a1
   replace a1 : (fromG xs lo) < (xs).length := by omega
   refine zV (qw (zV (qw (yB (pt f 0) zf (qw (yB (pt f 0) zf (qw (yD f 0 c zk zf (yI h rfl) (qw (zV (qw ?_)))))))))))
   have hz := zX xs (fromG xs lo) zo; obtain ⟨d, y⟩ := hz
   have hz := (m).at (k := 3) zj y
   obtain ⟨ao, t, a0, az⟩ := hz
   have j := zC j o
   refine yN (k := .i64) c (fromG xs lo) _ ao t xH a0 zo zk zk (qw (yB (pt ao (t + (fromG xs lo) * 3)) zf (qw (yD ao (t + (fromG xs lo) * 3) (I3 d.1) zk zf (az 0 _ rfl) (qw (yB (pt b1 1) zf (qw (yD b1 1 (I3 hi) zk zf (yI j rfl) (qw (xV .i32 d.1 hi (d.1 ≤ hi) rfl (cmp_le d.1 hi) zk zk ?_ ?_))))))))))
   ·intro a4
    replace a4 : d.1 ≤ hi := by omega
    refine qT (yQ ?_)
    intro bi ab
    refine zB (zT (yA (W_held 28 zk zk ?_)))
    intro aq aa
    refine ⟨fun w2 => Ch (fun k => k = b4) aq w2, ?_⟩
    have a : Ch (fun k => k = b4) aq aq := Ch.refl _ _
    refine hp 0 rfl (pt f 0) a (hp 1 rfl (pt f 0) a (hp 2 rfl (pt f 0) a ?_))
    have h := zC (zC h ab) aa
    have b := zC (zC (zC (zC (zC b s) l) o) ab) aa
    refine ht 3 rfl c a (R_load f 0 c zk zf (fun w2 h2 => yI (yG h h2 (zU h b zi)) rfl)) ?_
    refine hp 4 rfl (N6 (fromG xs lo)) a ?_
    have hz := (g).at (k := 3) zj y
    obtain ⟨ae, r, aw, ay⟩ := hz
    refine ht 5 rfl (pt ae (r + (fromG xs lo) * 3)) a (R_ixaddr (k := .i64) c (fromG xs lo) _ ae r xH aw zo zk zk) (hp 6 rfl (pt ae (r + (fromG xs lo) * 3)) a ?_)
    have i := (i.tr ab).tr aa
    refine ht 7 rfl (I3 d.1) a (R_load ae (r + (fromG xs lo) * 3) (I3 d.1) zk zf (fun w2 h2 => cell_old (ay 0 _ rfl) i h2 (fun k e => e ▸ n))) ?_
    refine hp 8 rfl (pt f 0) a (hp 9 rfl (pt f 0) a (hp 10 rfl (pt f 0) a (ht 11 rfl c a (R_load f 0 c zk zf (fun w2 h2 => yI (yG h h2 (zU h b zi)) rfl)) ?_)))
    refine hp 12 rfl (N6 (fromG xs lo)) a ?_
    have hz := (g).at (k := 3) zj y
    obtain ⟨ac, q, ar, av⟩ := hz
    refine ht 13 rfl (pt ac (q + (fromG xs lo) * 3)) a (R_ixaddr (k := .i64) c (fromG xs lo) _ ac q xH ar zo zk zk) (hp 14 rfl (pt ac ((q + (fromG xs lo) * 3) + 1)) a (ht 15 rfl (I3 d.2.1) a (R_load ac ((q + (fromG xs lo) * 3) + 1) (I3 d.2.1) zk zf (fun w2 h2 => cell_old (av 1 _ rfl) i h2 (fun k e => e ▸ n))) ?_))
    refine hp 16 rfl (Value.agg #[(I3 d.1), (I3 d.2.1)]) a (hp 17 rfl (pt f 0) a (hp 18 rfl (pt f 0) a (hp 19 rfl (pt f 0) a (ht 20 rfl c a (R_load f 0 c zk zf (fun w2 h2 => yI (yG h h2 (zU h b zi)) rfl)) ?_))))
    refine hp 21 rfl (N6 (fromG xs lo)) a ?_
    have hz := (g).at (k := 3) zj y
    obtain ⟨ag, p, au, ax⟩ := hz
    refine ht 22 rfl (pt ag (p + (fromG xs lo) * 3)) a (R_ixaddr (k := .i64) c (fromG xs lo) _ ag p xH au zo zk zk) (hp 23 rfl (pt ag ((p + (fromG xs lo) * 3) + 2)) a (ht 24 rfl (U8 d.2.2) a (R_load ag ((p + (fromG xs lo) * 3) + 2) (U8 d.2.2) zk zf (fun w2 h2 => cell_old (ax 2 _ rfl) i h2 (fun k e => e ▸ n))) ?_))
    refine H_storeA 25 b4 0 [(I3 d.1), (I3 d.2.1)] [(I3 0), (I3 0)] [(I3 d.1), (I3 d.2.1)] 32 rfl zk zk zk rfl zk b zk rfl ?_
    intro bb u
    refine ⟨a.trans (Ch.of_wrote u), ?_⟩
    have b := u.here
    have am := a.trans (Ch.of_wrote u)
    refine hp 26 rfl (U8 d.2.2) am (hp 27 rfl (.bool true) am (H_done zk (zB (zR (zG (yM [.cell 4 32, .tmp 5, .tmp 6] [(Value.agg #[(I3 d.1), (I3 d.2.1)]), (U8 d.2.2), (.bool true)] rfl rfl ⟨⟨⟨b4, 0, none⟩, zk, yH [(I3 d.1), (I3 d.2.1)] zk zk (yE b)⟩, zk, zk, trivial⟩ ?_))))))
    have i := i.trans (u.below n)
    exact ⟨Zj (by (rw [metG_yes za za zo]; rfl)) (eu (by (rw [metG_yes za za zo]; rfl))) (eb (by (rw [metG_yes za za zo]; rfl))), i⟩
   intro a2
   replace a2 : hi < d.1 := by omega
   refine qT (yQ ?_)
   intro bc ai
   have b := zC (zC (zC (zC b s) l) o) ai
   refine zB (zF (zK (zB (wR (zr (Value.agg #[(I3 0), (I3 0)]) (zD (qQ [(I3 0), (I3 0)] b ?_)))))))
   intro bh al
   have b := al.here
   refine zH (zH (nQ (zR (yM [.cell 4 32, .tmp 5, .tmp 6] [(Value.agg #[(I3 0), (I3 0)]), (U8 0), (.bool false)] rfl rfl ⟨⟨⟨b4, 0, none⟩, zk, yH [(I3 0), (I3 0)] zk zk (yE b)⟩, zk, zk, trivial⟩ ?_))))
   have i := (i.tr ai).trans (al.below n)
   exact ⟨Zj (by (rw [metG_no za za zo]; rfl)) (eu (by (rw [metG_no za za zo]; rfl))) (eb (by (rw [metG_no za za zo]; rfl))), i⟩
  intro a3
  replace a3 : (xs).length ≤ (fromG xs lo) := by omega
  refine zV (qs (qs (qs (qs (qs (qs (qs (qs (qs (qs (qs (qF (yQ ?_)))))))))))))
  intro a7 ak
  have b := zC (zC (zC (zC b s) l) o) ak
  refine zB (zF (zK (zB (wR (zr (Value.agg #[(I3 0), (I3 0)]) (zD (qQ [(I3 0), (I3 0)] b ?_)))))))
  intro be ah
  have b := ah.here
  refine zH (zH (nQ (zR (yM [.cell 4 32, .tmp 5, .tmp 6] [(Value.agg #[(I3 0), (I3 0)]), (U8 0), (.bool false)] rfl rfl ⟨⟨⟨b4, 0, none⟩, zk, yH [(I3 0), (I3 0)] zk zk (yE b)⟩, zk, zk, trivial⟩ ?_))))
  have i := (i.tr ak).trans (ah.below n)
  exact ⟨Zj (by (rw [metG_end za zo]; rfl)) (eu (by (rw [metG_end za zo]; rfl))) (eb (by (rw [metG_end za zo]; rfl))), i⟩
 intro a8
 have b := zC (zC b s) l
 refine zw (qO false (xF (nQ (zT (wR (zr (Value.agg #[(I3 0), (I3 0)]) (zD (qQ [(I3 0), (I3 0)] b ?_))))))))
 intro ba aj
 have b := aj.here
 refine zH (zH (nQ (zR (zG (yM [.cell 4 32, .tmp 5, .tmp 6] [(Value.agg #[(I3 0), (I3 0)]), (U8 0), (.bool false)] rfl rfl ⟨⟨⟨b4, 0, none⟩, zk, yH [(I3 0), (I3 0)] zk zk (yE b)⟩, zk, zk, trivial⟩ ?_)))))
 have i := ((i.tr s).tr l).trans (aj.below n)
 exact ⟨Zj (by (rw [metG_may za]; rfl)) (eu (by (rw [metG_may za]; rfl))) (eb (by (rw [metG_may za]; rfl))), i⟩
theorem c_insert_C (B_ : Nat) (o : Value) (s : List (Int × Int × Int)) (i : Nat) (z : Value) (vs : List (Int × Int × Int)) (w : World) (hs0 : B_ ≤ w.heap.size) (ag : Row w B_ 126 3 encSpanC o s) (r : Row w 0 126 3 encSpanC z vs) (f : Value.ownBlock z = none ∨ Value.ownBlock z ≠ Value.ownBlock o) (hi : i ≤ s.length) (hl : s.length ≤ 4194304) (hv : vs.length ≤ 4194304) :
  Calls Tryz.prog 106 #[o, (N6 i), z] w (Ret fun v w' => ∃ q0 : Value, v = q0 ∧ Row w' B_ 126 3 encSpanC q0 (List.take i s ++ vs ++ List.drop i s) ∧ (∀ g, Value.ownBlock q0 = some g → w.heap.size ≤ g ∨ Value.ownBlock o = some g) ∧ Ch (fun k => Value.ownBlock o = some k) w w') := by
 refine wJ 95 func106 rfl ?_
 have hb := Below.refl B_ w
 have hs : B_ ≤ (World.heap w).size := hs0
 have hc := Ch.refl (fun k => Value.ownBlock o = some k) w
 have l : ∀ g, Value.ownBlock o = some g → (World.heap w).size ≤ g ∨ (fun k => Value.ownBlock o = some k) g := fun g h => .inr h
 refine wR (zH (nR (zD (zD (L_slfrom xH o ((s).length) i (ag.shape) zo zk ⟨.i64, zk⟩ ?_)))))
 intro co cp
 refine nR (zD (vY underlying113 (r.rd).len (zH (nW (wR (zD (nEq ((vs).length) 0 ?_ ?_)))))))
 ·intro h3
  refine nQ (zT (wR (zD (zH (nQ (zR (zG (zZ [o] ?_))))))))
  have e0 : s = (List.take i s ++ vs ++ List.drop i s) := by exact gep_same rfl zo
  exact ⟨_, rfl, ag.cast e0, l, hc⟩
 intro h4
 refine nQ (zF (zK (zB (wR (zD (vY underlying113 (ag.rd).len (zH (nW (wR (zD (zD (nEq i ((s).length) ?_ ?_))))))))))))
 ·intro h5
  refine nQ (zT (wR (zD (zD (xM xH B_ o z s vs hs ag r.rd zo zj zj zk zk zk ?_)))))
  intro v6 w7 cb bl a0 
  have a3 := uZ (D := (fun k => Value.ownBlock o = some k)) a0 (by have h0 := hc.size; omega : (World.heap w).size ≤ (World.heap w).size) l
  have aw := xD r a0 f
  have hb := hb.tg hs bl ag
  replace hs := Nat.le_trans hs (bl.size)
  have ag := cb
  replace hc := hc.trans2 (Ch.of_grown bl) (fun k e => l k e)
  have l := a3; clear a3
  refine zH (nQ (zR (zG (zZ [v6] ?_))))
  have e0 : (s ++ vs) = (List.take i s ++ vs ++ List.drop i s) := by exact gep_end zo
  exact ⟨_, rfl, ag.cast e0, l, hc⟩
 intro cq
 refine nQ (zF (zK (zB (yA (wR (zD (zD (xN ((s).length) ((vs).length) (zD ?_)))))))))
 have j : ∀ x, (encSpanC x).length = 3 := fun _ => rfl
 have hz := Row.raw ag j zo
 obtain ⟨ab, c, b9, t, ca, d, a6⟩ := hz
 have b8 := ag.shape
 have be := (at_mid j a6 i zo).1
 have a1 := xO (at_mid j a6 i zo).2 (Nat.zero_add _)
 refine L_cap 113 126 c o rfl underlying113 ⟨_, _, t⟩ zk (nGt ((s).length + (vs).length) c ?_ ?_)
 ·intro cr
  refine nQ (zT (wR (zD (zD (L_sltoR xH o s i ag zj zo zk ⟨.i64, zk⟩ ?_)))))
  intro az ak ar
  have bh : ∀ g, Value.ownBlock az = some g → (World.heap w).size ≤ g ∨ (fun k => Value.ownBlock o = some k) g := by rw [ar.own]; exact l
  have ae := (by rw [ar.own]; exact f : Value.ownBlock z = none ∨ Value.ownBlock z ≠ Value.ownBlock az); have ax := yW ae
  refine zD (zD (xN ((s).length) ((vs).length) (zD (zsb ((s).length + (vs).length) i ?_))))
  have b6 := samecap_val ar t ak
  refine L_appZeros (kq := .i64) (kn := .i64) xH underlying3 ((0, 0, 0) : SpI) zk B_ az (List.take i s) (((s).length + (vs).length) - i) c hs ak zj b6.1 zo zl zo b6.2 zk zk zk ?_
  intro a2 ci a7 an af 
  have a3 := uZ (D := (fun k => Value.ownBlock o = some k)) af (by have h0 := hc.size; omega : (World.heap w).size ≤ (World.heap w).size) (dr_nil _)
  have a5 := grow_ne d (zer_new a7 af zl)
  replace d := Raw.grown d an (by simp [Value.ownBlock])
  have b1 := xD ag af (qI _)
  have aw := xD r af (qI _)
  have a9 := xD ak af (qI _)
  have hb := hb.grown an hs (fun k hk => by simp [Value.ownBlock] at hk)
  replace hc := hc.trans2 (Ch.of_grown an) (fun k e => by simp [Value.ownBlock] at e)
  replace hs := Nat.le_trans hs (an.size)
  have r := r.grown an (by cases h : Value.ownBlock _ <;> simp [Value.ownBlock])
  have a4 := a7
  have ac := a3; clear a3
  have j : ∀ x, (encSpanC x).length = 3 := fun _ => rfl
  have hz := Row.raw a4 j zl
  obtain ⟨bc, al, cc, u, bk, av, bz⟩ := hz
  have bn := a4.shape
  have au := bk; simp only [List.length_append, List.length_take, List.length_replicate] at au
  have bb := (at_split j bz).1
  have n : bc ≠ ab := fun e => a5 (by rw [yR u, e])
  have ay := n.symm
  refine zH (nR (zD (zD (vX xH a2 bc 0 ((((List.take i s) ++ (List.replicate (((s).length + (vs).length) - i) ((0, 0, 0) : SpI)))).length) al i ((((List.take i s) ++ (List.replicate (((s).length + (vs).length) - i) ((0, 0, 0) : SpI)))).length) (by rw [Nat.zero_mul]; exact u) zk ⟨.i64, zk⟩ rfl zl zo zo (zD (vA (a := (0 + i)) (p := ((((List.take i s) ++ (List.replicate (((s).length + (vs).length) - i) ((0, 0, 0) : SpI)))).length - i)) (c1 := (al - i)) xH z vs av r.rd j zj zk zk zl zo ?_))))))
  intro ch ah br
  have bd := vI (a := (0 + i)) (cs := List.flatMap encSpanC vs) bb zl (Raw.le av zo)
  have bp := vJ (a := (0 + i)) (ys := vs) j (Raw.le2 av zo)
  have m : World.grownBy ci ch (Value.ownBlock a2) := by rw [yR u]; exact br
  have hb := hb.grown m hs (fun k hk => by rw [yR u] at hk; cases hk; exact av.base)
  replace hs := Nat.le_trans hs m.size
  replace d := d.grown m (by rw [yR u]; exact fun e => n (Option.some.inj e))
  replace hc := hc.trans2 (Ch.of_grown m) (fun k e => ac k e)
  clear m
  refine nW (W_pre 8 9 1 zk zk zk zk zk zk zk (zV (zV (zV (wW i ((vs).length) zo zk zk (wC xH a2 bc 0 ((((List.take i s) ++ (List.replicate (((s).length + (vs).length) - i) ((0, 0, 0) : SpI)))).length) al (i + (vs).length) ((((List.take i s) ++ (List.replicate (((s).length + (vs).length) - i) ((0, 0, 0) : SpI)))).length) (by rw [Nat.zero_mul]; exact u) zk ⟨.i64, zk⟩ rfl zl zo zo (zV (zV (wC xH o ab 0 ((s).length) c i ((s).length) (by rw [Nat.zero_mul]; exact t) zk ⟨.i64, zk⟩ rfl zo zo zo (yQ ?_))))))))))
  intro cg ap
  have hb := hb.trans (ap.mono hs)
  replace hs := Nat.le_trans hs (ap.size)
  refine yC 8 zk (yO 8 rfl ?_ rfl)
  replace d := Raw.below d ap
  replace ah := Raw.below ah ap
  refine vA (a := (0 + (i + (vs).length))) (p := ((((List.take i s) ++ (List.replicate (((s).length + (vs).length) - i) ((0, 0, 0) : SpI)))).length - (i + (vs).length))) (c1 := (al - (i + (vs).length))) xH (.slice (some ⟨ab, (0 + i) * 3, none⟩) ((s).length - i) (c - i)) (List.drop i s) ah (at_rd d j (xO a1 zo) zl) j zj zk zk zl zl ?_
  intro cj bw bs
  have ba := vI (a := (0 + (i + (vs).length))) (cs := List.flatMap encSpanC (List.drop i s)) bd zl (Raw.le ah zo)
  have bt := vI (a := (0 + (i + (vs).length))) (cs := List.flatMap encSpanC (List.drop i s)) bp zo (Raw.le ah zo)
  have b3 := vJ (a := (0 + (i + (vs).length))) (ys := (List.drop i s)) j (Raw.le2 ah zl)
  have m : World.grownBy cg cj (Value.ownBlock a2) := by rw [yR u]; exact bs
  have hb := hb.grown m hs (fun k hk => by rw [yR u] at hk; cases hk; exact ah.base)
  replace hs := Nat.le_trans hs m.size
  replace d := d.grown m (by rw [yR u]; exact fun e => n (Option.some.inj e))
  replace hc := (hc.trans2 (Ch.of_below ap) (fun _ h => h.elim)).trans2 (Ch.of_grown m) (fun k e => ac k e)
  clear m
  refine zQ ?_
  refine ⟨rfl, yJ zk (zB (wR (zD (zH (nQ (zR (zG (zZ [a2] ?_))))))))⟩
  have bg := qC j (qC j ba (xO bt zl)) (xO b3 zl)
  have bm := Raw.row bw j (N := ((((List.take i s) ++ (List.replicate (((s).length + (vs).length) - i) ((0, 0, 0) : SpI)))).length)) zl zl bg
  exact ⟨_, u, bm, (fun g e => ac g (by rw [yR u]; exact e)), hc⟩
 intro ct
 refine nQ (zF (zK (zB (wR (zD (zD (zD (xN ((s).length) ((vs).length) (L_slTot xH o ab ((s).length) c ((s).length + (vs).length) t zk ⟨.i64, zk⟩ zo (zH (nW (wR (zD (zD (zD (zD (xN i ((vs).length) (vX xH (.slice (some ⟨ab, 0, none⟩) ((s).length + (vs).length) c) ab 0 ((s).length + (vs).length) c (i + (vs).length) ((s).length + (vs).length) (by rw [Nat.zero_mul]) zk ⟨.i64, zk⟩ rfl zo zo zo ?_))))))))))))))))))
 have j : ∀ x, (encSpanC x).length = 3 := fun _ => rfl
 have hz := Row.raw r j zo
 obtain ⟨bq, bf, ck, a8, cl, ai, cm⟩ := hz
 have bu := r.shape
 have aa : bq ≠ ab := rne_of a8 t f
 have y := aa.symm
 refine L_overlaps xH (ga := bq) (gb := ab) (R := 4) func107 zk zk zk zk 0 ((vs).length) bf ((0 + (i + (vs).length)) * 3) (((s).length + (vs).length) - (i + (vs).length)) (c - (i + (vs).length)) ai d aa (by rw [d.size]; exact Nat.mul_pos zo (by decide)) ((zk : _ = z).trans a8) zk (qO false (nQ (zT (yA (W_pre 8 9 1 zk zk zk zk zk zk zk (zV (zV (zV (wW i ((vs).length) zo zk zk (wC xH (.slice (some ⟨ab, 0, none⟩) ((s).length + (vs).length) c) ab 0 ((s).length + (vs).length) c (i + (vs).length) ((s).length + (vs).length) (by rw [Nat.zero_mul]) zk ⟨.i64, zk⟩ rfl zo zo zo (zV (zV (wC xH (.slice (some ⟨ab, 0, none⟩) ((s).length + (vs).length) c) ab 0 ((s).length + (vs).length) c i ((s).length + (vs).length) (by rw [Nat.zero_mul]) zk ⟨.i64, zk⟩ rfl zo zo zo (yQ ?_))))))))))))))
 intro cf aj
 have hb := hb.trans (aj.mono hs)
 replace hs := Nat.le_trans hs (aj.size)
 refine yC 8 zk (yO 8 rfl ?_ rfl)
 replace d := Raw.below d aj
 refine L_copySelf (a := (0 + (i + (vs).length))) (p := (((s).length + (vs).length) - (i + (vs).length))) (c1 := (c - (i + (vs).length))) (b := (0 + i)) (q := (((s).length + (vs).length) - i)) (c2 := (c - i)) xH (List.drop i s) d (xO a1 zo) j zj zk zk zl zl ?_
 intro b4 ao bv
 have bi := vI (a := (0 + (i + (vs).length))) (cs := List.flatMap encSpanC (List.drop i s)) be zl (Raw.le d zo)
 have b5 := vJ (a := (0 + (i + (vs).length))) (ys := (List.drop i s)) j (Raw.le2 d zl)
 have m : World.grownBy cf b4 (Value.ownBlock o) := by rw [yR t]; exact bv
 have hb := hb.grown m hs (fun k hk => by rw [yR t] at hk; cases hk; exact d.base)
 replace hs := Nat.le_trans hs m.size
 replace ai := Raw.below ai aj
 replace ai := ai.grown m (by rw [yR t]; exact fun e => y (Option.some.inj e))
 replace hc := (hc.trans2 (Ch.of_below aj) (fun _ h => h.elim)).trans2 (Ch.of_grown m) (fun k e => l k e)
 have r := (r.below aj).grown m f
 clear m
 refine zQ ?_
 refine ⟨rfl, yJ zk (zB (wR (zD (zD (vX xH (.slice (some ⟨ab, 0, none⟩) ((s).length + (vs).length) c) ab 0 ((s).length + (vs).length) c i ((s).length + (vs).length) (by rw [Nat.zero_mul]) zk ⟨.i64, zk⟩ rfl zo zo zo (zD (vA (a := (0 + i)) (p := (((s).length + (vs).length) - i)) (c1 := (c - i)) xH z vs ao r.rd j zj zk zk zo zo ?_)))))))⟩
 intro cd bx b2
 have bj := vI (a := (0 + i)) (cs := List.flatMap encSpanC vs) bi zl (Raw.le ao zo)
 have bo := at_hi (a := (0 + i)) (ys := vs) j b5 zo (Raw.le2 ao zo)
 have b7 := vJ (a := (0 + i)) (ys := vs) j (Raw.le2 ao zo)
 have m : World.grownBy b4 cd (Value.ownBlock o) := by rw [yR t]; exact b2
 have hb := hb.grown m hs (fun k hk => by rw [yR t] at hk; cases hk; exact ao.base)
 replace hs := Nat.le_trans hs m.size
 replace ai := ai.grown m (by rw [yR t]; exact fun e => y (Option.some.inj e))
 replace hc := hc.trans2 (Ch.of_grown m) (fun k e => l k e)
 clear m
 refine nR (zD (zH (nQ (zR (zG (zZ [(.slice (some ⟨ab, 0, none⟩) ((s).length + (vs).length) c)] ?_))))))
 have bg := qC j (qC j bj (xO b7 zl)) (xO bo zl)
 have bm := Raw.row bx j (N := ((s).length + (vs).length)) zl zl bg
 exact ⟨_, rfl, bm, (fun g e => l g (by rw [yR t]; exact e)), hc⟩
theorem c_replace_C (B_ : Nat) (r : Value) (s : List (Int × Int × Int)) (i : Nat) (j : Nat) (u : Value) (vs : List (Int × Int × Int)) (w : World) (hs0 : B_ ≤ w.heap.size) (an : Row w B_ 126 3 encSpanC r s) (f : Row w 0 126 3 encSpanC u vs) (n : Value.ownBlock u = none ∨ Value.ownBlock u ≠ Value.ownBlock r) (hij : i ≤ j) (hj : j ≤ s.length) (hl : s.length ≤ 4194304) (hv : vs.length ≤ 4194304) :
  Calls Tryz.prog 67 #[r, (N6 i), (N6 j), u] w (Ret fun v w' => ∃ q0 : Value, v = q0 ∧ Row w' B_ 126 3 encSpanC q0 (List.take i s ++ vs ++ List.drop j s) ∧ (∀ g, Value.ownBlock q0 = some g → w.heap.size ≤ g ∨ Value.ownBlock r = some g) ∧ Ch (fun k => Value.ownBlock r = some k) w w') := by
 refine wJ 224 func67 rfl ?_
 have hb := Below.refl B_ w
 have hs : B_ ≤ (World.heap w).size := hs0
 have hc := Ch.refl (fun k => Value.ownBlock r = some k) w
 have t : ∀ g, Value.ownBlock r = some g → (World.heap w).size ≤ g ∨ (fun k => Value.ownBlock r = some k) g := fun g h => .inr h
 refine wR (zH (nR (zD (zD (zD (L_slmid xH r ((s).length) i j (an.shape) zo zo zk ⟨.i64, zk⟩ ⟨.i64, zk⟩ ?_))))))
 intro d3
 refine nW (wR (zD (zD (nEq i j ?_ ?_))))
 ·intro h2
  refine nQ (zT (wR (zD (zD (zD (zc (c_insert_C B_ r s i u vs _ hs an f.mono0 n zo zo zo) ?_))))))
  rintro q3 w4 ⟨_, rfl, cr, dn, ce⟩
  have bd := dr_call hc dn t
  have hb := ce.below hb hs (fun k e => (World.ownsRow.lt an k e).1)
  replace hs := Nat.le_trans hs ce.size
  refine zH (nQ (zR (zG (zZ [q3] ?_))))
  have e0 : (List.take i s ++ vs ++ List.drop i s) = (List.take i s ++ vs ++ List.drop j s) := by (subst j; rfl)
  replace hc := hc.trans2 ce (fun k e => t k e)
  exact ⟨_, rfl, cr.cast e0, bd, hc⟩
 intro h7
 refine nQ (zF (zK (zB (yA (wR (zD (zD (vY underlying113 (an.rd).len (nEq j ((s).length) ?_ ?_)))))))))
 ·intro h8
  refine nQ (zT (wR (zD (zD (L_sltoR xH r s i an zj zo zk ⟨.i64, zk⟩ ?_)))))
  intro b2 y a6
  have ab : ∀ g, Value.ownBlock b2 = some g → (World.heap w).size ≤ g ∨ (fun k => Value.ownBlock r = some k) g := by rw [a6.own]; exact t
  have af := (by rw [a6.own]; exact n : Value.ownBlock u = none ∨ Value.ownBlock u ≠ Value.ownBlock b2); have bb := yW af
  refine zD (L_appPre xH B_ b2 u (List.take i s) vs hs y f.rd (by (simp only [List.length_append, List.length_take]; omega)) zj zj zk zk zk ?_)
  have ak := an.shape
  intro b9 d7 bx bg bk cg
  have ba := room_app an a6 bx cg
  have bm := uZ (D := (fun k => Value.ownBlock r = some k)) bk (by have h0 := hc.size; omega : (World.heap w).size ≤ (World.heap w).size) ab
  have ay := xD f bk af
  have hb := hb.tg hs bg y
  replace hs := Nat.le_trans hs (bg.size)
  have y := bx
  replace hc := hc.trans2 (Ch.of_grown bg) (fun k e => ab k e)
  have ab := bm; clear bm
  refine zH (nW (wR (zD (vY underlying113 (y.rd).len (zD (vY underlying113 ak.len (nLt ((((List.take i s) ++ vs)).length) ((s).length) ?_ ?_)))))))
  ·intro d1
   refine nQ (zT (zP (zD (zD (vY underlying113 (y.rd).len (L_slfrom xH r ((s).length) ((((List.take i s) ++ vs)).length) ak zo zk ⟨.i64, zk⟩ ?_))))))
   intro cw c3
   refine L_clearTail xH r b9 cw ((List.take i s) ++ vs) c3 ba y zo zo ak (fun z hz => by cases hz; decide) zk ?_
   intro ea c6 bs
   have y := c6
   replace hs := Nat.le_trans hs bs.size
   refine nR (zD (zH (nQ (zR (zG (zZ [b9] ?_))))))
   have e0 : ((List.take i s) ++ vs) = (List.take i s ++ vs ++ List.drop j s) := by exact gep_tail zo
   replace hc := hc.trans2 (Ch.of_grown bs) (fun k e => t k e)
   exact ⟨_, rfl, y.cast e0, ab, hc⟩
  intro d8
  refine nQ (zF (zK (zB (wR (zD (zH (nQ (zR (zG (zZ [b9] ?_))))))))))
  have e0 : ((List.take i s) ++ vs) = (List.take i s ++ vs ++ List.drop j s) := by exact gep_tail zo
  exact ⟨_, rfl, y.cast e0, ab, hc⟩
 intro d4
 refine nQ (zF (zK (zB (yA ?_))))
 have o : ∀ x, (encSpanC x).length = 3 := fun _ => rfl
 have hz := Row.raw an o zo
 obtain ⟨aa, c, ds, m, ch, d, bz⟩ := hz
 have ak := an.shape
 have be := (at_mid o bz i zo).1
 have a7 := xO (at_mid o bz j zo).2 (Nat.zero_add _)
 refine xX zk zk (zV (zV (Lq_slTot xH r aa ((s).length) c i m zk ⟨.i64, zk⟩ zo (vV 113 126 i (.slice (some ⟨aa, 0, none⟩) i c) rfl underlying113 ⟨_, _, rfl⟩ zk (zV (vV 113 126 (vs).length u rfl underlying113 (f.rd).len zk (wW i ((vs).length) zo zk zk (zV (zV (wC xH r aa 0 ((s).length) c j ((s).length) (by rw [Nat.zero_mul]; exact m) zk ⟨.i64, zk⟩ rfl zo zo zo (vV 113 126 ((s).length - j) (.slice (some ⟨aa, (0 + j) * 3, none⟩) ((s).length - j) (c - j)) rfl underlying113 ⟨_, _, rfl⟩ zk (wW (i + (vs).length) ((s).length - j) zo zk zk (qZ (yQ ?_))))))))))))))
 intro dd ag
 have hb := hb.trans (ag.mono hs)
 replace hs := Nat.le_trans hs (ag.size)
 refine zB (yA (wR (zD (zD (L_cap 113 126 c r rfl underlying113 ⟨_, _, m⟩ zk (nGt ((i + (vs).length) + ((s).length - j)) c ?_ ?_))))))
 ·intro d6
  have an := an.below ag
  refine nQ (zT (wR (zD (zD (L_sltoR xH r s i an zj zo zk ⟨.i64, zk⟩ ?_)))))
  intro bf a0 a5
  have b1 : ∀ g, Value.ownBlock bf = some g → (World.heap w).size ≤ g ∨ (fun k => Value.ownBlock r = some k) g := by rw [a5.own]; exact t
  have ap := (by rw [a5.own]; exact n : Value.ownBlock u = none ∨ Value.ownBlock u ≠ Value.ownBlock bf); have bc := yW ap
  refine zD (zD (zsb ((i + (vs).length) + ((s).length - j)) i ?_))
  have di := samecap_val a5 m a0
  refine L_appZeros (kq := .i64) (kn := .i64) xH underlying3 ((0, 0, 0) : SpI) zk B_ bf (List.take i s) (((i + (vs).length) + ((s).length - j)) - i) c hs a0 zj di.1 zo zl zo di.2 zk zk zk ?_
  intro bl d0 bw a1 au 
  replace hc := hc.trans2 (Ch.of_below ag) (fun _ h => h.elim)
  have bm := uZ (D := (fun k => Value.ownBlock r = some k)) au (by have h0 := hc.size; omega : (World.heap w).size ≤ (World.heap dd).size) (dr_nil _)
  replace d := Raw.below d ag
  have bo := grow_ne d (zer_new bw au zl)
  replace d := Raw.grown d a1 (by simp [Value.ownBlock])
  have c8 := xD an au (qI _)
  have f := f.below ag
  have ay := xD f au (qI _)
  have b0 := xD a0 au (qI _)
  have hb := hb.grown a1 hs (fun k hk => by simp [Value.ownBlock] at hk)
  replace hc := hc.trans2 (Ch.of_grown a1) (fun k e => by simp [Value.ownBlock] at e)
  replace hs := Nat.le_trans hs (a1.size)
  have f := f.grown a1 (by cases h : Value.ownBlock _ <;> simp [Value.ownBlock])
  have aq := ay
  have bi := bw
  have am := bm; clear bm
  have o : ∀ x, (encSpanC x).length = 3 := fun _ => rfl
  have hz := Row.raw bi o zl
  obtain ⟨cl, az, du, ai, cd, a8, db⟩ := hz
  have cn := bi.shape
  have a4 := cd; simp only [List.length_append, List.length_take, List.length_replicate] at a4
  have ca := (at_split o db).1
  have ac : cl ≠ aa := fun e => bo (by rw [yR ai, e])
  have bj := ac.symm
  refine zH (nR (zD (zD (vX xH bl cl 0 ((((List.take i s) ++ (List.replicate (((i + (vs).length) + ((s).length - j)) - i) ((0, 0, 0) : SpI)))).length) az i ((((List.take i s) ++ (List.replicate (((i + (vs).length) + ((s).length - j)) - i) ((0, 0, 0) : SpI)))).length) (by rw [Nat.zero_mul]; exact ai) zk ⟨.i64, zk⟩ rfl zl zo zo (zD (vA (a := (0 + i)) (p := ((((List.take i s) ++ (List.replicate (((i + (vs).length) + ((s).length - j)) - i) ((0, 0, 0) : SpI)))).length - i)) (c1 := (az - i)) xH u vs a8 f.rd o zj zk zk zl zo ?_))))))
  intro dq ar cy
  have b4 := vI (a := (0 + i)) (cs := List.flatMap encSpanC vs) ca zl (Raw.le a8 zo)
  have cp := vJ (a := (0 + i)) (ys := vs) o (Raw.le2 a8 zo)
  have l : World.grownBy d0 dq (Value.ownBlock bl) := by rw [yR ai]; exact cy
  have hb := hb.grown l hs (fun k hk => by rw [yR ai] at hk; cases hk; exact a8.base)
  replace hs := Nat.le_trans hs l.size
  replace d := d.grown l (by rw [yR ai]; exact fun e => ac (Option.some.inj e))
  replace hc := hc.trans2 (Ch.of_grown l) (fun k e => am k e)
  have f := f.grown l aq
  clear l
  refine nW (W_pre 9 10 1 zk zk zk zk zk zk zk (zV (zV (zV (vV 113 126 (vs).length u rfl underlying113 (f.rd).len zk (wW i ((vs).length) zo zk zk (wC xH bl cl 0 ((((List.take i s) ++ (List.replicate (((i + (vs).length) + ((s).length - j)) - i) ((0, 0, 0) : SpI)))).length) az (i + (vs).length) ((((List.take i s) ++ (List.replicate (((i + (vs).length) + ((s).length - j)) - i) ((0, 0, 0) : SpI)))).length) (by rw [Nat.zero_mul]; exact ai) zk ⟨.i64, zk⟩ rfl zl zo zo (zV (zV (wC xH r aa 0 ((s).length) c j ((s).length) (by rw [Nat.zero_mul]; exact m) zk ⟨.i64, zk⟩ rfl zo zo zo (yQ ?_)))))))))))
  intro dv a2
  have hb := hb.trans (a2.mono hs)
  replace hs := Nat.le_trans hs (a2.size)
  refine yC 9 zk (yO 9 rfl ?_ rfl)
  replace d := Raw.below d a2
  replace ar := Raw.below ar a2
  refine vA (a := (0 + (i + (vs).length))) (p := ((((List.take i s) ++ (List.replicate (((i + (vs).length) + ((s).length - j)) - i) ((0, 0, 0) : SpI)))).length - (i + (vs).length))) (c1 := (az - (i + (vs).length))) xH (.slice (some ⟨aa, (0 + j) * 3, none⟩) ((s).length - j) (c - j)) (List.drop j s) ar (at_rd d o (xO a7 zo) zl) o zj zk zk zl zl ?_
  intro dt c7 df
  have ci := vI (a := (0 + (i + (vs).length))) (cs := List.flatMap encSpanC (List.drop j s)) b4 zl (Raw.le ar zo)
  have dk := vI (a := (0 + (i + (vs).length))) (cs := List.flatMap encSpanC (List.drop j s)) cp zo (Raw.le ar zo)
  have cz := vJ (a := (0 + (i + (vs).length))) (ys := (List.drop j s)) o (Raw.le2 ar zl)
  have l : World.grownBy dv dt (Value.ownBlock bl) := by rw [yR ai]; exact df
  have hb := hb.grown l hs (fun k hk => by rw [yR ai] at hk; cases hk; exact ar.base)
  replace hs := Nat.le_trans hs l.size
  replace d := d.grown l (by rw [yR ai]; exact fun e => ac (Option.some.inj e))
  replace hc := (hc.trans2 (Ch.of_below a2) (fun _ h => h.elim)).trans2 (Ch.of_grown l) (fun k e => am k e)
  clear l
  refine zQ ?_
  refine ⟨rfl, yJ zk (zB (wR (zD (zH (nQ (zR (zG (zZ [bl] ?_))))))))⟩
  have bh := qC o (qC o ci (xO dk zl)) (xO cz zl)
  have bn := Raw.row c7 o (N := ((((List.take i s) ++ (List.replicate (((i + (vs).length) + ((s).length - j)) - i) ((0, 0, 0) : SpI)))).length)) zl zl bh
  exact ⟨_, ai, bn, (fun g e => am g (by rw [yR ai]; exact e)), hc⟩
 intro ec
 have f := f.below ag
 refine nQ (zF (zK (zB (wR (zD (zD (L_slTot xH r aa ((s).length) c ((i + (vs).length) + ((s).length - j)) m zk ⟨.i64, zk⟩ zo (zH (nW (wR (zD (zD (vY underlying113 (f.rd).len (xN i ((vs).length) (zD (nLe (i + (vs).length) j ?_ ?_))))))))))))))))
 ·intro d5
  replace d := Raw.below d ag
  refine nQ (zT (wR (zD (zD (vX xH (.slice (some ⟨aa, 0, none⟩) ((i + (vs).length) + ((s).length - j)) c) aa 0 ((i + (vs).length) + ((s).length - j)) c i ((i + (vs).length) + ((s).length - j)) (by rw [Nat.zero_mul]) zk ⟨.i64, zk⟩ rfl zo zo zo (zD (vA (a := (0 + i)) (p := (((i + (vs).length) + ((s).length - j)) - i)) (c1 := (c - i)) xH u vs d f.rd o zj zk zk zo zo ?_)))))))
  intro dy aw dc
  have cf := vI (a := (0 + i)) (cs := List.flatMap encSpanC vs) be zl (Raw.le d zo)
  have ck := at_hi (a := (0 + i)) (ys := vs) o a7 zo (Raw.le2 d zo)
  have c9 := vJ (a := (0 + i)) (ys := vs) o (Raw.le2 d zo)
  have l : World.grownBy dd dy (Value.ownBlock r) := by rw [yR m]; exact dc
  have hb := hb.grown l hs (fun k hk => by rw [yR m] at hk; cases hk; exact d.base)
  replace hs := Nat.le_trans hs l.size
  replace hc := (hc.trans2 (Ch.of_below ag) (fun _ h => h.elim)).trans2 (Ch.of_grown l) (fun k e => t k e)
  have f := f.grown l n
  clear l
  refine nW (W_pre 9 10 1 zk zk zk zk zk zk zk (zV (zV (zV (vV 113 126 (vs).length u rfl underlying113 (f.rd).len zk (wW i ((vs).length) zo zk zk (wC xH (.slice (some ⟨aa, 0, none⟩) ((i + (vs).length) + ((s).length - j)) c) aa 0 ((i + (vs).length) + ((s).length - j)) c (i + (vs).length) ((i + (vs).length) + ((s).length - j)) (by rw [Nat.zero_mul]) zk ⟨.i64, zk⟩ rfl zo zo zo (zV (zV (wC xH r aa 0 ((s).length) c j ((s).length) (by rw [Nat.zero_mul]; exact m) zk ⟨.i64, zk⟩ rfl zo zo zo (yQ ?_)))))))))))
  intro dz a9
  have hb := hb.trans (a9.mono hs)
  replace hs := Nat.le_trans hs (a9.size)
  refine yC 9 zk (yO 9 rfl ?_ rfl)
  replace aw := Raw.below aw a9
  refine L_copySelf (a := (0 + (i + (vs).length))) (p := (((i + (vs).length) + ((s).length - j)) - (i + (vs).length))) (c1 := (c - (i + (vs).length))) (b := (0 + j)) (q := ((s).length - j)) (c2 := (c - j)) xH (List.drop j s) aw (xO ck zo) o zj zk zk zl zl ?_
  intro dj bu dg
  have cb := vI (a := (0 + (i + (vs).length))) (cs := List.flatMap encSpanC (List.drop j s)) cf zl (Raw.le aw zo)
  have da := vI (a := (0 + (i + (vs).length))) (cs := List.flatMap encSpanC (List.drop j s)) c9 zo (Raw.le aw zo)
  have dh := vJ (a := (0 + (i + (vs).length))) (ys := (List.drop j s)) o (Raw.le2 aw zl)
  have l : World.grownBy dz dj (Value.ownBlock r) := by rw [yR m]; exact dg
  have hb := hb.grown l hs (fun k hk => by rw [yR m] at hk; cases hk; exact aw.base)
  replace hs := Nat.le_trans hs l.size
  replace hc := (hc.trans2 (Ch.of_below a9) (fun _ h => h.elim)).trans2 (Ch.of_grown l) (fun k e => t k e)
  clear l
  refine zQ ?_
  refine ⟨rfl, yJ zk (zB (wR (zD (zD (L_slfrom xH r ((s).length) ((i + (vs).length) + ((s).length - j)) ak zo zk ⟨.i64, zk⟩ ?_)))))⟩
  intro co c5
  refine L_clearRaw (α := Int × Int × Int) (enc := encSpanC) (lo := ((i + (vs).length) + ((s).length - j))) xH r co m c5 bu zo ch (fun z hz => by cases hz; decide) zk ?_
  intro dr dp de a3 cx
  have b7 := a3 _ _ zl cb
  have ct := a3 _ _ zo da
  have cu := a3 _ _ zl dh
  have l : World.grownBy dj dr (Value.ownBlock r) := by rw [yR m]; exact cx
  have hb := hb.grown l hs (fun k hk => by rw [yR m] at hk; cases hk; exact bu.base)
  replace hs := Nat.le_trans hs l.size
  replace hc := hc.trans2 (Ch.of_grown l) (fun k e => t k e)
  clear l
  refine nR (zD (zH (nQ (zR (zG (zZ [(.slice (some ⟨aa, 0, none⟩) ((i + (vs).length) + ((s).length - j)) c)] ?_))))))
  have bh := qC o (qC o b7 (xO ct zl)) (xO cu zl)
  have bn := Raw.row de o (N := ((i + (vs).length) + ((s).length - j))) zl zl bh
  exact ⟨_, rfl, bn, (fun g e => t g (by rw [yR m]; exact e)), hc⟩
 intro d9
 refine nQ (zF (zK (zB (yA (wR (zD (zD (zD (vY underlying113 (f.rd).len (xN i ((vs).length) (vX xH (.slice (some ⟨aa, 0, none⟩) ((i + (vs).length) + ((s).length - j)) c) aa 0 ((i + (vs).length) + ((s).length - j)) c (i + (vs).length) ((i + (vs).length) + ((s).length - j)) (by rw [Nat.zero_mul]) zk ⟨.i64, zk⟩ rfl zo zo zo (zD ?_))))))))))))
 have o : ∀ x, (encSpanC x).length = 3 := fun _ => rfl
 have hz := Row.raw f o zo
 obtain ⟨cq, b8, dw, bt, dx, ah, dm⟩ := hz
 have cv := f.shape
 have ax : cq ≠ aa := rne_of bt m n
 have ae := ax.symm
 replace d := Raw.below d ag
 refine L_overlaps xH (ga := aa) (gb := cq) (R := 4) func107 zk zk zk zk ((0 + (i + (vs).length)) * 3) (((i + (vs).length) + ((s).length - j)) - (i + (vs).length)) (c - (i + (vs).length)) 0 ((vs).length) b8 d ah ae (by rw [ah.size]; exact Nat.mul_pos zo (by decide)) zk ((zk : _ = u).trans bt) (qO false (nQ (zT (yA (W_pre 9 10 1 zk zk zk zk zk zk zk (zV (zV (zV (vV 113 126 (vs).length u rfl underlying113 (f.rd).len zk (wW i ((vs).length) zo zk zk (wC xH (.slice (some ⟨aa, 0, none⟩) ((i + (vs).length) + ((s).length - j)) c) aa 0 ((i + (vs).length) + ((s).length - j)) c (i + (vs).length) ((i + (vs).length) + ((s).length - j)) (by rw [Nat.zero_mul]) zk ⟨.i64, zk⟩ rfl zo zo zo (zV (zV (wC xH r aa 0 ((s).length) c j ((s).length) (by rw [Nat.zero_mul]; exact m) zk ⟨.i64, zk⟩ rfl zo zo zo (yQ ?_)))))))))))))))
 intro dl ao
 have hb := hb.trans (ao.mono hs)
 replace hs := Nat.le_trans hs (ao.size)
 refine yC 9 zk (yO 9 rfl ?_ rfl)
 replace d := Raw.below d ao
 refine L_copySelf (a := (0 + (i + (vs).length))) (p := (((i + (vs).length) + ((s).length - j)) - (i + (vs).length))) (c1 := (c - (i + (vs).length))) (b := (0 + j)) (q := ((s).length - j)) (c2 := (c - j)) xH (List.drop j s) d (xO a7 zo) o zj zk zk zl zl ?_
 intro bv av b3
 have br := vI (a := (0 + (i + (vs).length))) (cs := List.flatMap encSpanC (List.drop j s)) be zl (Raw.le d zo)
 have b6 := vJ (a := (0 + (i + (vs).length))) (ys := (List.drop j s)) o (Raw.le2 d zl)
 have l : World.grownBy dl bv (Value.ownBlock r) := by rw [yR m]; exact b3
 have hb := hb.grown l hs (fun k hk => by rw [yR m] at hk; cases hk; exact d.base)
 replace hs := Nat.le_trans hs l.size
 replace ah := Raw.below ah ao
 replace ah := ah.grown l (by rw [yR m]; exact fun e => ae (Option.some.inj e))
 replace hc := ((hc.trans2 (Ch.of_below ag) (fun _ h => h.elim)).trans2 (Ch.of_below ao) (fun _ h => h.elim)).trans2 (Ch.of_grown l) (fun k e => t k e)
 have f := (f.below ao).grown l n
 clear l
 refine zQ ?_
 refine ⟨rfl, yJ zk (zB (wR (zD (zD (vX xH (.slice (some ⟨aa, 0, none⟩) ((i + (vs).length) + ((s).length - j)) c) aa 0 ((i + (vs).length) + ((s).length - j)) c i ((i + (vs).length) + ((s).length - j)) (by rw [Nat.zero_mul]) zk ⟨.i64, zk⟩ rfl zo zo zo (zD (vA (a := (0 + i)) (p := (((i + (vs).length) + ((s).length - j)) - i)) (c1 := (c - i)) xH u vs av f.rd o zj zk zk zo zo ?_)))))))⟩
 intro c4 cm cc
 have bq := vI (a := (0 + i)) (cs := List.flatMap encSpanC vs) br zl (Raw.le av zo)
 have b5 := at_hi (a := (0 + i)) (ys := vs) o b6 zo (Raw.le2 av zo)
 have cj := vJ (a := (0 + i)) (ys := vs) o (Raw.le2 av zo)
 have l : World.grownBy bv c4 (Value.ownBlock r) := by rw [yR m]; exact cc
 have hb := hb.grown l hs (fun k hk => by rw [yR m] at hk; cases hk; exact av.base)
 replace hs := Nat.le_trans hs l.size
 replace ah := ah.grown l (by rw [yR m]; exact fun e => ae (Option.some.inj e))
 replace hc := hc.trans2 (Ch.of_grown l) (fun k e => t k e)
 clear l
 refine nR (zD (zH (nQ (zR (zG (zZ [(.slice (some ⟨aa, 0, none⟩) ((i + (vs).length) + ((s).length - j)) c)] ?_))))))
 have bh := qC o (qC o bq (xO cj zl)) (xO b5 zl)
 have bn := Raw.row cm o (N := ((i + (vs).length) + ((s).length - j))) zl zl bh
 exact ⟨_, rfl, bn, (fun g e => t g (by rw [yR m]; exact e)), hc⟩
end Go.Proofs.YtkclikfejmeblaaGreatDoor
end

/- === WcnC === -/
section
/- Walks, written by my program walk.py out of the specification cnC.py: each theorem says what one function returns and that it leaves memory as it was. -/
namespace Go.Proofs.YtkclikfejmeblaaGreatDoor
open Go Go.RowKit Go.FK _root_.Go.Proofs.Tryz
set_option maxHeartbeats 4000000
set_option maxRecDepth 100000
theorem c_cut_C (q : Nat) (n : Value) (xs : List (Int × Int × Int)) (lo : Int) (hi : Int) (B_ : Nat) (w : World) (hs0 : B_ ≤ w.heap.size) (l : w.heap[q]? = some (.cells [n, (.bool true)].toArray 115 (0, 0))) (cq : B_ ≤ q) (a : Row w B_ 126 3 encSpanC n xs) (hr : RiseG 0 xs) (hlo : -2147483648 ≤ lo ∧ lo ≤ 2147483647) (hhi : -2147483648 ≤ hi ∧ hi ≤ 2147483647) :
  Calls Tryz.prog 65 #[(pt q 0), (Value.agg #[(I3 lo), (I3 hi)])] w (Ret fun v w' => ∃ q0 : Value, v = (.tuple #[(I6 (cutN xs lo hi)), (I6 (layE lo hi))]) ∧ w'.heap[q]? = some (.cells [q0, (.bool true)].toArray 115 (0, 0)) ∧ Row w' B_ 126 3 encSpanC q0 (cutM xs lo hi) ∧ (∀ g, Value.ownBlock q0 = some g → w.heap.size ≤ g ∨ (Dm q n) g) ∧ Ch (Dm q n) w w') := by
 refine wJ 111 func65 rfl ?_
 have hb := Below.refl B_ w
 have u : B_ ≤ (World.heap w).size := hs0
 have hc := Ch.refl (Dm q n) w
 have bf : (World.heap w).size ≤ q ∨ (Dm q n) q := .inr (.inl rfl)
 have af : ∀ g, Value.ownBlock n = some g → (World.heap w).size ≤ g ∨ (Dm q n) g := fun g h => .inr (.inr h)
 have cu := hr.len
 refine wR (zN [(I3 lo), (I3 hi)] 32 ?_)
 intro b1 w2 az
 have b9 : B_ ≤ b1 := by rw [az.num]; exact u
 have bv : (World.heap w).size ≤ b1 ∨ (Dm q n) b1 := .inl (by rw [az.num]; exact hc.size)
 have hb := hb.trans (az.below.mono u)
 replace u := Nat.le_trans u (az.below.size)
 have c := az.here
 have l := zC l az.below
 have a := a.below az.below
 refine zH (zH (nW (zW (wR (zD (zc (c_none_C q n xs _ l a.rd) ?_))))))
 replace hc := hc.trans2 (Ch.of_below az.below) (fun _ h => h.elim)
 rintro _ w4 ⟨rfl, ax⟩
 have hb := hb.trans (ax.mono u)
 replace u := Nat.le_trans u (ax.size)
 have c := zC c ax
 refine zH (nQ (zF (wR (vT c (zc (qK lo hi _ ) ?_)))))
 replace hc := hc.trans2 (Ch.of_below ax) (fun _ h => h.elim)
 rintro _ w7 ⟨rfl, av⟩
 have hb := hb.trans (av.mono u)
 replace u := Nat.le_trans u (av.size)
 refine yT (mayF lo hi) ?_ ?_
 ·intro b3
  have ch := Zn b3
  have l := zC (zC l ax) av
  have c := zC c av
  have a := (a.below ax).below av
  refine qO true (zH (nQ (zF (zK (zJ (zB (wR (zH (nR (zD (wB 0 c rfl (zc (c_from_C q n xs lo _ l a.rd (by exact hr) zo) ?_))))))))))))
  replace hc := hc.trans2 (Ch.of_below av) (fun _ h => h.elim)
  rintro _ cr ⟨rfl, au⟩
  have hb := hb.trans (au.mono u)
  replace u := Nat.le_trans u (au.size)
  have := uC xs lo
  refine zH (nR (zD (zH (nR (zH (nW (zW ?_)))))))
  replace hc := hc.trans2 (Ch.of_below au) (fun _ h => h.elim)
  have l := zC l au
  have c := zC c au
  have a := a.below au
  refine xA (fun m s0 w0 => ∃ (j : Nat) (z : Int) (ys : List SpI) (an : Value), (m = xs.length - j) ∧ (s0.ds = []) ∧ ([0, 3, 4, 5, 7, 6, 8, 9].map s0.f = [(pt q 0), (pt b1 0), (I6 0), (I6 0), (N6 (fromG xs lo)), (I6 z), (N6 j), an]) ∧ (Row w0 B_ 126 3 encSpanC n xs) ∧ (Row w0 B_ 126 3 encSpanC an ys) ∧ (w0.heap[q]? = some (.cells [n, (.bool true)].toArray 115 (0, 0))) ∧ (w0.heap[b1]? = some (.cells [(I3 lo), (I3 hi)].toArray 32 (0, 0))) ∧ (Value.ownBlock n = none ∨ Value.ownBlock n ≠ Value.ownBlock an) ∧ (Below B_ w w0) ∧ (Ch (Dm q n) w w0) ∧ (∀ g, Value.ownBlock an = some g → (World.heap w).size ≤ g ∨ (Dm q n) g) ∧ (B_ ≤ w0.heap.size) ∧ (cutI lo hi xs j z ys)) _ ⟨(fromG xs lo), 0, [], (.slice none 0 0), rfl, zk, zk, a, Row.nil _ _ _ _ _, l, c, qI _, hb, hc, dr_nil _, u, cutI_zero⟩ ?_
  rintro cm cy cc ⟨j, z, ys, an, hm, a9, bz, a, r, l, c, b, hb, hc, s, u, i1⟩
  refine yX bz ?_
  have p := yW b
  have co := i1.2.2.2.2
  have c1 := i1.2.1
  have cb := i1.1
  refine yA (yA (xX zk zk (zV (zV (yB (pt q 0) zf (yB (pt q 0) zf (yD q 0 n zk zf (yI l rfl) (vV 113 126 (xs).length n rfl underlying113 (a.rd).len zk (xV .i64 ((j : Nat) : Int) (((xs).length : Nat) : Int) (j < (xs).length) rfl (cmpN_lt j ((xs).length)) zk zk ?_ ?_)))))))))
  ·intro b0
   replace b0 : j < (xs).length := by omega
   refine zV (qw (zV (qw (yB (pt q 0) zf (qw (yB (pt q 0) zf (qw (yD q 0 n zk zf (yI l rfl) (qw (zV (qw ?_)))))))))))
   have hz := zX xs j zo; obtain ⟨d, bd⟩ := hz
   have hz := (a.rd).at (k := 3) zj bd
   obtain ⟨bh, a3, bu, bp⟩ := hz
   have cx := hr.at bd
   refine yN (k := .i64) n j _ bh a3 xH bu zo zk zk (qw (yB (pt bh (a3 + j * 3)) zf (qw (yD bh (a3 + j * 3) (I3 d.1) zk zf (bp 0 _ rfl) (qw (yB (pt b1 1) zf (qw (yD b1 1 (I3 hi) zk zf (yI c rfl) (qw (xV .i32 d.1 hi (d.1 ≤ hi) rfl (cmp_le d.1 hi) zk zk ?_ ?_))))))))))
   ·intro b4
    replace b4 : d.1 ≤ hi := by omega
    refine qT (yQ ?_)
    intro cl aj
    have hb := hb.trans (aj.mono u)
    replace u := Nat.le_trans u (aj.size)
    have l := zC l aj
    refine zB (zT (zK (zB (yA (zW (wR (zD (zr (pt q 0) (wB 0 l rfl (zD ?_))))))))))
    have a := a.below aj
    refine zEA a.rd xH j bd [(I3 d.1), (I3 d.2.1), (U8 d.2.2)] rfl fun _ => (zN [(I3 0), (I3 0), (U8 0)] 126 ?_)
    intro bi ca y
    have a1 : B_ ≤ bi := by rw [y.num]; exact u
    replace hc := hc.trans2 (Ch.of_below aj) (fun _ h => h.elim)
    have aw : (World.heap w).size ≤ bi ∨ (Dm q n) bi := .inl (by rw [y.num]; exact hc.size)
    have ac := a.new_ne y
    have r := r.below aj
    have i := r.new_ne y
    have hb := hb.trans (y.below.mono u)
    replace u := Nat.le_trans u (y.below.size)
    have o := y.here
    refine qQ [(I3 d.1), (I3 d.2.1), (U8 d.2.2)] o ?_
    intro bs aa
    replace u := Nat.le_trans u (Nat.le_of_eq aa.size.symm)
    have l := zC l y.below
    have l := zI l aa (zU l o zi)
    have c := zC (zC c aj) y.below
    have c := zI c aa (zU c o zi)
    have o := aa.here
    refine nR (zD (wB 1 o rfl (wB 1 c rfl (L_min (k := .i32) d.2.1 hi zk zk (wB 0 o rfl (wB 0 c rfl (L_max (k := .i32) d.1 lo zk zk (yY (min d.2.1 hi) (max d.1 lo) ((min d.2.1 hi) - (max d.1 lo)) rfl zk zk (xE _ zh zh) (wU (k := .i32) ((min d.2.1 hi) - (max d.1 lo)) ((min d.2.1 hi) - (max d.1 lo)) zk underlying3 zk (yK _ zo zo) (yY ((min d.2.1 hi) - (max d.1 lo)) 1 (((min d.2.1 hi) - (max d.1 lo)) + 1) rfl zk zk (yK _ zh zh) (yY z (((min d.2.1 hi) - (max d.1 lo)) + 1) (z + (((min d.2.1 hi) - (max d.1 lo)) + 1)) rfl zk zk (yK _ zh zh) (zH (nW (wR (wB 0 o rfl (wB 0 c rfl (zLt .i32 d.1 lo ?_ ?_)))))))))))))))))
    ·intro ck
     have r := (r.below y.below).wrote aa i
     refine nQ (zT (zP (zD (wB 0 o rfl (wB 0 c rfl (yY lo 1 (lo - 1) rfl zk zk (xE _ zh zh) (wB 2 o rfl (zr (Value.agg #[(I3 d.1), (I3 (lo - 1)), (U8 d.2.2)]) (wH xH B_ an ys (d.1, (lo - 1), d.2.2) u r zo zk rfl rfl zk rfl zk zk ?_)))))))))
     intro br bw bm ah a4
     replace hc := (hc.trans2 (Ch.of_below y.below) (fun _ h => h.elim)).trans2 (Ch.of_wrote aa) (fun k e => e ▸ aw)
     have ay := uZ (D := (Dm q n)) a4 (by have h0 := hc.size; omega : (World.heap w).size ≤ (World.heap bs).size + 1) s
     have ad := wZ a4 i (yL o)
     have a := (a.below y.below).wrote aa ac
     have t := ap_app a a4 b
     have hb := hb.trans (aa.below a1)
     have hb := hb.tg u ah r
     replace u := Nat.le_trans u (ah.size)
     have l := zY l ah (r.ne l zi)
     have c := zY c ah (r.ne c zi)
     have o := zY o ah i
     have i := ad
     have a := a.grown ah b
     have b := t; have p := yW t
     have r := bm
     replace hc := hc.trans2 (Ch.of_grown ah) (fun k e => s k e)
     have s := ay; clear ay
     refine zH (nR (wB 1 o rfl (wB 1 c rfl (zGt .i32 d.2.1 hi ?_ ?_))))
     ·intro cz
      refine nQ (zT (zP (zD (wB 1 c rfl (yY hi 1 (hi + 1) rfl zk zk (xE _ zh zh) (wB 1 o rfl (wB 2 o rfl (zr (Value.agg #[(I3 (hi + 1)), (I3 d.2.1), (U8 d.2.2)]) (wH xH B_ br (ys ++ [(d.1, (lo - 1), d.2.2)]) ((hi + 1), d.2.1, d.2.2) u r (by (simp only [List.length_append, List.length_cons, List.length_nil] <;> omega)) zk rfl rfl zk rfl zk zk ?_)))))))))
      intro b5 cd bk ar a2
      have ay := uZ (D := (Dm q n)) a2 (by have h0 := hc.size; omega : (World.heap w).size ≤ (World.heap bw).size + 1) s
      have ad := wZ a2 i (yL o)
      have t := ap_app a a2 b
      have hb := hb.tg u ar r
      replace u := Nat.le_trans u (ar.size)
      have l := zY l ar (r.ne l zi)
      have c := zY c ar (r.ne c zi)
      have i := ad
      have a := a.grown ar b
      have b := t; have p := yW t
      have r := bk
      replace hc := hc.trans2 (Ch.of_grown ar) (fun k e => s k e)
      have s := ay; clear ay
      refine zH (zQ (zJ (zB (zP (zD (xN j 1 (zH (zQ (zB ⟨_, zo, (j + 1), (z + (((min d.2.1 hi) - (max d.1 lo)) + 1)), ((ys ++ [(d.1, (lo - 1), d.2.2)]) ++ [((hi + 1), d.2.1, d.2.2)]), b5, rfl, a9, zk, a, r, l, c, b, hb, hc, s, u, ?_⟩)))))))))
      exact cut_11 hr zo i1 za zo zo zo zo
     intro cn
     refine nQ (zF (zK (zJ (zB (zP (zD (xN j 1 (zH (zQ (zB ⟨_, zo, (j + 1), (z + (((min d.2.1 hi) - (max d.1 lo)) + 1)), (ys ++ [(d.1, (lo - 1), d.2.2)]), br, rfl, a9, zk, a, r, l, c, b, hb, hc, s, u, ?_⟩))))))))))
     exact cut_10 hr zo i1 za zo zo zo zo
    intro ct
    refine nQ (zF (zK (zB (wR (wB 1 o rfl (wB 1 c rfl (zGt .i32 d.2.1 hi ?_ ?_)))))))
    ·intro ci
     have r := (r.below y.below).wrote aa i
     refine nQ (zT (zP (zD (wB 1 c rfl (yY hi 1 (hi + 1) rfl zk zk (xE _ zh zh) (wB 1 o rfl (wB 2 o rfl (zr (Value.agg #[(I3 (hi + 1)), (I3 d.2.1), (U8 d.2.2)]) (wH xH B_ an ys ((hi + 1), d.2.1, d.2.2) u r zo zk rfl rfl zk rfl zk zk ?_)))))))))
     intro b6 cv bq ap a0
     replace hc := (hc.trans2 (Ch.of_below y.below) (fun _ h => h.elim)).trans2 (Ch.of_wrote aa) (fun k e => e ▸ aw)
     have ay := uZ (D := (Dm q n)) a0 (by have h0 := hc.size; omega : (World.heap w).size ≤ (World.heap bs).size + 1) s
     have ad := wZ a0 i (yL o)
     have a := (a.below y.below).wrote aa ac
     have t := ap_app a a0 b
     have hb := hb.trans (aa.below a1)
     have hb := hb.tg u ap r
     replace u := Nat.le_trans u (ap.size)
     have l := zY l ap (r.ne l zi)
     have c := zY c ap (r.ne c zi)
     have i := ad
     have a := a.grown ap b
     have b := t; have p := yW t
     have r := bq
     replace hc := hc.trans2 (Ch.of_grown ap) (fun k e => s k e)
     have s := ay; clear ay
     refine zH (zQ (zJ (zB (zP (zD (xN j 1 (zH (zQ (zB ⟨_, zo, (j + 1), (z + (((min d.2.1 hi) - (max d.1 lo)) + 1)), (ys ++ [((hi + 1), d.2.1, d.2.2)]), b6, rfl, a9, zk, a, r, l, c, b, hb, hc, s, u, ?_⟩)))))))))
     exact cut_01 hr zo i1 za zo zo zo zo
    intro cp
    refine nQ (zF (zK (zJ (zB (zP (zD (xN j 1 (zH (zQ ?_)))))))))
    have hb := hb.trans (aa.below a1)
    replace hc := (hc.trans2 (Ch.of_below y.below) (fun _ h => h.elim)).trans2 (Ch.of_wrote aa) (fun k e => e ▸ aw)
    have a := (a.below y.below).wrote aa ac
    have r := (r.below y.below).wrote aa i
    exact zB ⟨_, zo, (j + 1), (z + (((min d.2.1 hi) - (max d.1 lo)) + 1)), ys, an, rfl, a9, zk, a, r, l, c, b, hb, hc, s, u, cut_00 hr zo i1 za zo zo zo zo⟩
   intro bx
   replace bx : hi < d.1 := by omega
   refine qT (yQ ?_)
   intro cs al
   have hb := hb.trans (al.mono u)
   replace u := Nat.le_trans u (al.size)
   have l := zC l al
   have a := a.below al
   have r := r.below al
   refine zB (zF (yU (zS (zS (yF (zB (wR (zD (zD (zr (pt q 0) (wB 0 l rfl (zD (zD (zD (zc (c_replace_C B_ n xs (fromG xs lo) j an ys _ u a r.mono0 p zo zo zo zo) ?_)))))))))))))))
   replace hc := hc.trans2 (Ch.of_below al) (fun _ h => h.elim)
   rintro bt ce ⟨_, rfl, am, bl, aq⟩
   have ba := dr_call hc bl af
   have hb := aq.below hb u (fun k e => (World.ownsRow.lt a k e).1)
   replace u := Nat.le_trans u aq.size
   have ai := xQ l aq (a.ne l zi)
   have c := zC c al
   have be := xQ c aq (a.ne c zi)
   have bg := r.ch_row aq p
   have l := ai; clear ai
   refine zr (pt q 0) (zr (pt q 0) (xC q 0 bt [n, (.bool true)] [bt, (.bool true)] 115 zk zk am.one zk l zi rfl ?_))
   intro cg a7
   replace u := Nat.le_trans u (Nat.le_of_eq a7.size.symm)
   have am := am.wrote a7 (am.ne l zi)
   have l := a7.here
   refine nR (zD (zH (zH (nQ (zR (zZ [(I6 z), (I6 0)] (hd := a9) ?_))))))
   have hE : ((z : Int) = (cutN xs lo hi)) ∧ ((0 : Int) = (layE lo hi)) ∧ ((List.take (fromG xs lo) xs ++ ys ++ List.drop j xs) = (cutM xs lo hi)) := ⟨(by (rw [cutN, if_neg (tnf za)]; first | exact (cutI_end i1 zo).2 | exact (Zh hr zo i1 za zo).2)), (by (rw [layE, if_neg (tnf za)]; done)), (by (rw [cutM, if_neg (tnf za)]; first | exact (cutI_end i1 zo).1 | exact (Zh hr zo i1 za zo).1))⟩
   replace hc := (hc.trans2 aq (fun k e => af k e)).trans2 (Ch.of_wrote a7) (fun k e => e ▸ bf)
   exact ⟨_, yV (e6 hE.1) (e6 hE.2.1), l, am.cast hE.2.2, ba, hc⟩
  intro b7
  replace b7 : (xs).length ≤ j := by omega
  refine zV (qs (qs (qs (qs (qs (qs (qs (qs (qs (qs (qs (qF (yQ ?_)))))))))))))
  intro cj ag
  have hb := hb.trans (ag.mono u)
  replace u := Nat.le_trans u (ag.size)
  have l := zC l ag
  have a := a.below ag
  have r := r.below ag
  refine zB (zF (yU (zS (zS (yF (zB (wR (zD (zD (zr (pt q 0) (wB 0 l rfl (zD (zD (zD (zc (c_replace_C B_ n xs (fromG xs lo) j an ys _ u a r.mono0 p zo zo zo zo) ?_)))))))))))))))
  replace hc := hc.trans2 (Ch.of_below ag) (fun _ h => h.elim)
  rintro bn cf ⟨_, rfl, ak, bo, ao⟩
  have bb := dr_call hc bo af
  have hb := ao.below hb u (fun k e => (World.ownsRow.lt a k e).1)
  replace u := Nat.le_trans u ao.size
  have ai := xQ l ao (a.ne l zi)
  have c := zC c ag
  have be := xQ c ao (a.ne c zi)
  have bg := r.ch_row ao p
  have l := ai; clear ai
  refine zr (pt q 0) (zr (pt q 0) (xC q 0 bn [n, (.bool true)] [bn, (.bool true)] 115 zk zk ak.one zk l zi rfl ?_))
  intro c0 a6
  replace u := Nat.le_trans u (Nat.le_of_eq a6.size.symm)
  have ak := ak.wrote a6 (ak.ne l zi)
  have l := a6.here
  refine nR (zD (zH (zH (nQ (zR (zZ [(I6 z), (I6 0)] (hd := a9) ?_))))))
  have hE : ((z : Int) = (cutN xs lo hi)) ∧ ((0 : Int) = (layE lo hi)) ∧ ((List.take (fromG xs lo) xs ++ ys ++ List.drop j xs) = (cutM xs lo hi)) := ⟨(by (rw [cutN, if_neg (tnf za)]; first | exact (cutI_end i1 zo).2 | exact (Zh hr zo i1 za zo).2)), (by (rw [layE, if_neg (tnf za)]; done)), (by (rw [cutM, if_neg (tnf za)]; first | exact (cutI_end i1 zo).1 | exact (Zh hr zo i1 za zo).1))⟩
  replace hc := (hc.trans2 ao (fun k e => af k e)).trans2 (Ch.of_wrote a6) (fun k e => e ▸ bf)
  exact ⟨_, yV (e6 hE.1) (e6 hE.2.1), l, ak.cast hE.2.2, bb, hc⟩
 intro cw
 refine qO false (zH (nQ (zT (wR (zH (zH (nQ (zR (zL (zG (zZ [(I6 0), (I6 41)] ?_)))))))))))
 have hE : ((0 : Int) = (cutN xs lo hi)) ∧ ((41 : Int) = (layE lo hi)) ∧ (xs = (cutM xs lo hi)) := ⟨(by (rw [cutN, if_pos za]; done)), (by (rw [layE, if_pos za]; done)), (by (rw [cutM, if_pos za]; done))⟩
 replace hc := hc.trans2 (Ch.of_below av) (fun _ h => h.elim)
 have l := zC (zC l ax) av
 have a := (a.below ax).below av
 exact ⟨_, yV (e6 hE.1) (e6 hE.2.1), l, a.cast hE.2.2, af, hc⟩
theorem c_lay_C (l : Nat) (t : Value) (xs : List (Int × Int × Int)) (lo : Int) (hi : Int) (val : Int) (B_ : Nat) (w : World) (hs0 : B_ ≤ w.heap.size) (j : w.heap[l]? = some (.cells [t, (.bool true)].toArray 115 (0, 0))) (co : B_ ≤ l) (af : Row w B_ 126 3 encSpanC t xs) (hr : RiseG 0 xs) (hlo : -2147483648 ≤ lo ∧ lo ≤ 2147483647) (hhi : -2147483648 ≤ hi ∧ hi ≤ 2147483647) :
  Calls Tryz.prog 34 #[(pt l 0), (Value.agg #[(I3 lo), (I3 hi)]), (U8 val)] w (Ret fun v w' => ∃ q0 : Value, v = (I6 (layE lo hi)) ∧ w'.heap[l]? = some (.cells [q0, (.bool true)].toArray 115 (0, 0)) ∧ Row w' B_ 126 3 encSpanC q0 (layF eqC xs lo hi val) ∧ (∀ g, Value.ownBlock q0 = some g → w.heap.size ≤ g ∨ (Dm l t) g) ∧ Ch (Dm l t) w w') := by
 refine wJ 128 func34 rfl ?_
 have r := Below.refl B_ w
 have n : B_ ≤ (World.heap w).size := hs0
 have o := Ch.refl (Dm l t) w
 have bk : (World.heap w).size ≤ l ∨ (Dm l t) l := .inr (.inl rfl)
 have aw : ∀ g, Value.ownBlock t = some g → (World.heap w).size ≤ g ∨ (Dm l t) g := fun g h => .inr (.inr h)
 have dx := hr.len
 have bt := cutF_rise (lo := lo) (hi := hi) hr
 have du := bt.len
 refine wR (zN [(I3 lo), (I3 hi)] 32 ?_)
 intro b1 w2 a9
 have dg : B_ ≤ b1 := by rw [a9.num]; exact n
 have c9 : (World.heap w).size ≤ b1 ∨ (Dm l t) b1 := .inl (by rw [a9.num]; exact o.size)
 have r := r.trans (a9.below.mono n)
 replace n := Nat.le_trans n (a9.below.size)
 have d := a9.here
 have j := zC j a9.below
 have af := af.below a9.below
 refine zH (nW (zW (wR (zD (zc (c_none_C l t xs _ j af.rd) ?_)))))
 replace o := o.trans2 (Ch.of_below a9.below) (fun _ h => h.elim)
 rintro _ w4 ⟨rfl, a8⟩
 have r := r.trans (a8.mono n)
 replace n := Nat.le_trans n (a8.size)
 have d := zC d a8
 refine zH (nQ (zF (wR (vT d (zc (qK lo hi _ ) ?_)))))
 replace o := o.trans2 (Ch.of_below a8) (fun _ h => h.elim)
 rintro _ w7 ⟨rfl, a7⟩
 have r := r.trans (a7.mono n)
 replace n := Nat.le_trans n (a7.size)
 refine yT (mayF lo hi) ?_ ?_
 ·intro c4
  have dm := Zn c4
  have j := zC (zC j a8) a7
  have d := zC d a7
  have af := (af.below a8).below a7
  refine qO true (zH (nQ (zF (zK (zJ (zB (wR (zD (vT d (zc (c_cut_C l t xs lo hi B_ _ n j co af (by first | exact hr | exact bt) zo zo) ?_))))))))))
  replace o := o.trans2 (Ch.of_below a7) (fun _ h => h.elim)
  rintro _ dy ⟨s, rfl, cq, c, cn, bn⟩
  have ag : ∀ g, Value.ownBlock s = some g → (World.heap w).size ≤ g ∨ (Dm l t) g := fun g hg => (cn g hg).elim (fun x => .inl (Nat.le_trans o.size x)) (fun x => x.elim (fun x => x ▸ bk) (fun x => aw g x))
  have r := bn.below r n (fun k e => e.elim (fun x => x ▸ co) (fun x => (World.ownsRow.lt af k x).1))
  replace n := Nat.le_trans n bn.size
  have d := yP d bn (zU d j zi) (af.ne d zi)
  have j := cq
  refine nR (wB 0 d rfl (wB 1 d rfl (zD (zr (Value.agg #[(I3 lo), (I3 hi), (U8 val)]) (zN [(I3 0), (I3 0), (U8 0)] 126 ?_)))))
  intro am dj ah
  have bs : B_ ≤ am := by rw [ah.num]; exact n
  replace o := o.trans2 bn (fun k e => e.elim (fun x => x ▸ bk) (fun x => aw k x))
  have bb : (World.heap w).size ≤ am ∨ (Dm l t) am := .inl (by rw [ah.num]; exact o.size)
  have m := c.new_ne ah
  have r := r.trans (ah.below.mono n)
  replace n := Nat.le_trans n (ah.below.size)
  have i := ah.here
  refine qQ [(I3 lo), (I3 hi), (U8 val)] i ?_
  intro dl a0
  replace n := Nat.le_trans n (Nat.le_of_eq a0.size.symm)
  have j := zC j ah.below
  have j := zI j a0 (zU j i zi)
  have d := zC d ah.below
  have d := zI d a0 (zU d i zi)
  have i := a0.here
  have c := (c.below ah.below).wrote a0 m
  refine nR (zD (wB 0 d rfl (zc (c_from_C l s (cutM xs lo hi) lo _ j c.rd (by first | exact hr | exact bt) zo) ?_)))
  replace o := (o.trans2 (Ch.of_below ah.below) (fun _ h => h.elim)).trans2 (Ch.of_wrote a0) (fun k e => e ▸ bb)
  rintro _ d4 ⟨rfl, z⟩
  have r := r.trans (a0.below bs)
  have r := r.trans (z.mono n)
  replace n := Nat.le_trans n (z.size)
  have := uC (cutM xs lo hi) lo
  refine zH (nR (zD (zH (nQ (W_cut (fun s0 w0 => ∃ (a : Nat) (p : Int), (s0.ds = []) ∧ ([0, 2, 6, 7, 9, 8].map s0.f = [(pt l 0), (U8 val), (I6 0), (pt am 0), (N6 (fromG (cutM xs lo hi) lo)), (N6 a)]) ∧ (Row w0 B_ 126 3 encSpanC s (cutM xs lo hi)) ∧ (w0.heap[l]? = some (.cells [s, (.bool true)].toArray 115 (0, 0))) ∧ (w0.heap[b1]? = some (.cells [(I3 lo), (I3 hi)].toArray 32 (0, 0))) ∧ (w0.heap[am]? = some (.cells [(I3 p), (I3 hi), (U8 val)].toArray 126 (0, 0))) ∧ (Below B_ w w0) ∧ (Ch (Dm l t) w w0) ∧ (B_ ≤ w0.heap.size) ∧ (leftC eqC (cutM xs lo hi) lo val = (a, p)) ∧ (a ≤ fromG (cutM xs lo hi) lo)) ?_ ?_)))))
  ·refine yA (xX zk zk (zV (xV .i64 (((fromG (cutM xs lo hi) lo) : Nat) : Int) ((0 : Nat) : Int) (0 < (fromG (cutM xs lo hi) lo)) rfl (cmpN_gt (fromG (cutM xs lo hi) lo) 0) zk zk ?_ ?_)))
   ·intro c5
    replace c5 : 0 < (fromG (cutM xs lo hi) lo) := by omega
    have j := zC j z
    refine zV (qw (zV (qw (yB (pt l 0) zf (qw (yB (pt l 0) zf (qw (yD l 0 s zk zf (yI j rfl) (qw (zV (qw (Lq_subN (fromG (cutM xs lo hi) lo) 1 zo zo zk zk (qw ?_)))))))))))))
    have hz := zX (cutM xs lo hi) ((fromG (cutM xs lo hi) lo) - 1) zo; obtain ⟨ad, bl⟩ := hz
    have c := c.below z
    have hz := (c.rd).at (k := 3) zj bl
    obtain ⟨cc, be, ch, cg⟩ := hz
    have c7 := bt.at bl
    have i := zC i z
    refine yN (k := .i64) s ((fromG (cutM xs lo hi) lo) - 1) _ cc be xH ch zo zk zk (qw (yB (pt cc ((be + ((fromG (cutM xs lo hi) lo) - 1) * 3) + 1)) zf (qw (yD cc ((be + ((fromG (cutM xs lo hi) lo) - 1) * 3) + 1) (I3 ad.2.1) zk zf (cg 1 _ rfl) (qw (qP ad.2.1 1 (ad.2.1 + 1) rfl zk zk (xE _ zh zh) (qw (yB (pt am 0) zf (qw (yD am 0 (I3 lo) zk zf (yI i rfl) (qw (xV .i32 (ad.2.1 + 1) lo ((ad.2.1 + 1) = lo) rfl (Zq (ad.2.1 + 1) lo) zk zk ?_ ?_))))))))))))
    ·intro c1
     replace c1 : (ad.2.1 + 1) = lo := by omega
     refine qT (zV (qw (zV (qw (yB (pt l 0) zf (qw (yB (pt l 0) zf (qw (yD l 0 s zk zf (yI j rfl) (qw (zV (qw (Lq_subN (fromG (cutM xs lo hi) lo) 1 zo zo zk zk (qw ?_))))))))))))))
     have hz := (c.rd).at (k := 3) zj bl
     obtain ⟨cb, bc, ci, cj⟩ := hz
     refine yN (k := .i64) s ((fromG (cutM xs lo hi) lo) - 1) _ cb bc xH ci zo zk zk (qw (yB (pt cb ((bc + ((fromG (cutM xs lo hi) lo) - 1) * 3) + 2)) zf (qw (yD cb ((bc + ((fromG (cutM xs lo hi) lo) - 1) * 3) + 2) (U8 ad.2.2) zk zf (cj 2 _ rfl) (qw (zV (qw (xV .u8 ad.2.2 val (ad.2.2 = val) rfl (Zq ad.2.2 val) zk zk ?_ ?_))))))))
     ·intro c0
      replace c0 : ad.2.2 = val := by omega
      refine qT (yQ ?_)
      intro dq a3
      have r := r.trans (a3.mono n)
      replace n := Nat.le_trans n (a3.size)
      have j := zC j a3
      refine zB (zT (wR (zD (zsb (fromG (cutM xs lo hi) lo) 1 (zH (nQ (zP (zD (zr (pt l 0) (wB 0 j rfl (zD ?_)))))))))))
      have i := zC i a3
      have c := c.below a3
      refine zE c.rd xH ((fromG (cutM xs lo hi) lo) - 1) bl 0 rfl fun _ _ => (zr (pt am 0) (z1 0 (I3 ad.1) [(I3 ad.1), (I3 hi), (U8 val)] i ?_))
      intro dp a5
      replace n := Nat.le_trans n (Nat.le_of_eq a5.size.symm)
      have j := zI j a5 (zU j i zi)
      have d := zC (zC d z) a3
      have d := zI d a5 (zU d i zi)
      have i := a5.here
      refine zQ ?_
      have r := r.trans (a5.below bs)
      replace o := ((o.trans2 (Ch.of_below z) (fun _ h => h.elim)).trans2 (Ch.of_below a3) (fun _ h => h.elim)).trans2 (Ch.of_wrote a5) (fun k e => e ▸ bb)
      have c := c.wrote a5 m
      exact zB ⟨((fromG (cutM xs lo hi) lo) - 1), ad.1, rfl, zk, c, j, d, i, r, o, n, leftC_yes zo za zo (eqC_y za), zo⟩
     intro c8
     replace c8 : ad.2.2 ≠ val := by omega
     refine qT (yQ ?_)
     intro dt az
     have r := r.trans (az.mono n)
     replace n := Nat.le_trans n (az.size)
     refine zB (zF (zK ?_))
     replace o := (o.trans2 (Ch.of_below z) (fun _ h => h.elim)).trans2 (Ch.of_below az) (fun _ h => h.elim)
     have j := zC j az
     have d := zC (zC d z) az
     have i := zC i az
     have c := c.below az
     exact zB ⟨(fromG (cutM xs lo hi) lo), lo, rfl, zk, c, j, d, i, r, o, n, leftC_no zo za (.inr (eqC_n za)), zo⟩
    intro cz
    replace cz : (ad.2.1 + 1) ≠ lo := by omega
    refine qT (zV (qs (qs (qs (qs (qs (qs (qs (qs (qs (qs (qs (qF (yQ ?_))))))))))))))
    intro dn ar
    have r := r.trans (ar.mono n)
    replace n := Nat.le_trans n (ar.size)
    refine zB (zF (zK ?_))
    replace o := (o.trans2 (Ch.of_below z) (fun _ h => h.elim)).trans2 (Ch.of_below ar) (fun _ h => h.elim)
    have j := zC j ar
    have d := zC (zC d z) ar
    have i := zC i ar
    have c := c.below ar
    exact zB ⟨(fromG (cutM xs lo hi) lo), lo, rfl, zk, c, j, d, i, r, o, n, leftC_no zo za (.inl zo), zo⟩
   intro cx
   replace cx : (fromG (cutM xs lo hi) lo) ≤ 0 := by omega
   refine zV (qs (qs (qs (qs (qs (qs (qs (qs (qs (qs (qs (qs (qs (qF (zV (qs (qs (qs (qs (qs (qs (qs (qs (qs (qs (qs (qF (yQ ?_))))))))))))))))))))))))))))
   intro dz au
   have r := r.trans (au.mono n)
   replace n := Nat.le_trans n (au.size)
   refine zB (zF (zK ?_))
   replace o := (o.trans2 (Ch.of_below z) (fun _ h => h.elim)).trans2 (Ch.of_below au) (fun _ h => h.elim)
   have j := zC (zC j z) au
   have d := zC (zC d z) au
   have i := zC (zC i z) au
   have c := (c.below z).below au
   exact zB ⟨(fromG (cutM xs lo hi) lo), lo, rfl, zk, c, j, d, i, r, o, n, leftC_zero zo, zo⟩
  rintro di dv ⟨a, p, bd, b8, c, j, d, i, r, o, n, jl, ja⟩
  refine yX b8 (W_cut (fun s0 w0 => ∃ (b : Nat) (q : Int), (s0.ds = []) ∧ ([0, 6, 7, 8, 9].map s0.f = [(pt l 0), (I6 0), (pt am 0), (N6 a), (N6 b)]) ∧ (Row w0 B_ 126 3 encSpanC s (cutM xs lo hi)) ∧ (w0.heap[l]? = some (.cells [s, (.bool true)].toArray 115 (0, 0))) ∧ (w0.heap[b1]? = some (.cells [(I3 lo), (I3 hi)].toArray 32 (0, 0))) ∧ (w0.heap[am]? = some (.cells [(I3 p), (I3 q), (U8 val)].toArray 126 (0, 0))) ∧ (Below B_ w w0) ∧ (Ch (Dm l t) w w0) ∧ (B_ ≤ w0.heap.size) ∧ (rightC eqC (cutM xs lo hi) lo hi val = (b, q)) ∧ (fromG (cutM xs lo hi) lo ≤ b ∧ b ≤ ((cutM xs lo hi)).length)) ?_ ?_)
  ·refine yA (xX zk zk (zV (zV (yB (pt l 0) zf (yB (pt l 0) zf (yD l 0 s zk zf (yI j rfl) (vV 113 126 ((cutM xs lo hi)).length s rfl underlying113 (c.rd).len zk (xV .i64 (((fromG (cutM xs lo hi) lo) : Nat) : Int) ((((cutM xs lo hi)).length : Nat) : Int) ((fromG (cutM xs lo hi) lo) < ((cutM xs lo hi)).length) rfl (cmpN_lt (fromG (cutM xs lo hi) lo) (((cutM xs lo hi)).length)) zk zk ?_ ?_))))))))
   ·intro ct
    replace ct : (fromG (cutM xs lo hi) lo) < ((cutM xs lo hi)).length := by omega
    refine zV (qw (zV (qw (yB (pt l 0) zf (qw (yB (pt l 0) zf (qw (yD l 0 s zk zf (yI j rfl) (qw (zV (qw ?_)))))))))))
    have hz := zX (cutM xs lo hi) (fromG (cutM xs lo hi) lo) zo; obtain ⟨aj, bm⟩ := hz
    have hz := (c.rd).at (k := 3) zj bm
    obtain ⟨ca, bi, cm, cf⟩ := hz
    have c7 := bt.at bm
    refine yN (k := .i64) s (fromG (cutM xs lo hi) lo) _ ca bi xH cm zo zk zk (qw (yB (pt ca (bi + (fromG (cutM xs lo hi) lo) * 3)) zf (qw (yD ca (bi + (fromG (cutM xs lo hi) lo) * 3) (I3 aj.1) zk zf (cf 0 _ rfl) (qw (yB (pt am 1) zf (qw (yD am 1 (I3 hi) zk zf (yI i rfl) (qw (qP hi 1 (hi + 1) rfl zk zk (xE _ zh zh) (qw (xV .i32 aj.1 (hi + 1) (aj.1 = (hi + 1)) rfl (Zq aj.1 (hi + 1)) zk zk ?_ ?_))))))))))))
    ·intro c3
     replace c3 : aj.1 = (hi + 1) := by omega
     refine qT (zV (qw (zV (qw (yB (pt l 0) zf (qw (yB (pt l 0) zf (qw (yD l 0 s zk zf (yI j rfl) (qw (zV (qw ?_))))))))))))
     have hz := (c.rd).at (k := 3) zj bm
     obtain ⟨b9, bg, cs, cl⟩ := hz
     refine yN (k := .i64) s (fromG (cutM xs lo hi) lo) _ b9 bg xH cs zo zk zk (qw (yB (pt b9 ((bg + (fromG (cutM xs lo hi) lo) * 3) + 2)) zf (qw (yD b9 ((bg + (fromG (cutM xs lo hi) lo) * 3) + 2) (U8 aj.2.2) zk zf (cl 2 _ rfl) (qw (zV (qw (xV .u8 aj.2.2 val (aj.2.2 = val) rfl (Zq aj.2.2 val) zk zk ?_ ?_))))))))
     ·intro cv
      replace cv : aj.2.2 = val := by omega
      refine qT (yQ ?_)
      intro d3 ay
      have r := r.trans (ay.mono n)
      replace n := Nat.le_trans n (ay.size)
      have j := zC j ay
      refine zB (zT (wR (zD (zr (pt l 0) (wB 0 j rfl (zD ?_))))))
      have i := zC i ay
      have c := c.below ay
      refine zE c.rd xH (fromG (cutM xs lo hi) lo) bm 1 rfl fun _ _ => (zr (pt am 1) (z1 1 (I3 aj.2.1) [(I3 p), (I3 aj.2.1), (U8 val)] i ?_))
      intro d1 a2
      replace n := Nat.le_trans n (Nat.le_of_eq a2.size.symm)
      have j := zI j a2 (zU j i zi)
      have d := zC d ay
      have d := zI d a2 (zU d i zi)
      have i := a2.here
      refine nQ (zP (zD (xN (fromG (cutM xs lo hi) lo) 1 (zH (zQ ?_)))))
      have r := r.trans (a2.below bs)
      replace o := (o.trans2 (Ch.of_below ay) (fun _ h => h.elim)).trans2 (Ch.of_wrote a2) (fun k e => e ▸ bb)
      have c := c.wrote a2 m
      exact zB ⟨((fromG (cutM xs lo hi) lo) + 1), aj.2.1, bd, zk, c, j, d, i, r, o, n, rightC_yes za zo (eqC_y za), zo⟩
     intro cw
     replace cw : aj.2.2 ≠ val := by omega
     refine qT (yQ ?_)
     intro dk ax
     have r := r.trans (ax.mono n)
     replace n := Nat.le_trans n (ax.size)
     refine zB (zF (zK ?_))
     replace o := o.trans2 (Ch.of_below ax) (fun _ h => h.elim)
     have j := zC j ax
     have d := zC d ax
     have i := zC i ax
     have c := c.below ax
     exact zB ⟨(fromG (cutM xs lo hi) lo), hi, bd, zk, c, j, d, i, r, o, n, rightC_no za (.inr (eqC_n za)), zo⟩
    intro cu
    replace cu : aj.1 ≠ (hi + 1) := by omega
    refine qT (zV (qs (qs (qs (qs (qs (qs (qs (qs (qs (qs (qF (yQ ?_)))))))))))))
    intro d0 aq
    have r := r.trans (aq.mono n)
    replace n := Nat.le_trans n (aq.size)
    refine zB (zF (zK ?_))
    replace o := o.trans2 (Ch.of_below aq) (fun _ h => h.elim)
    have j := zC j aq
    have d := zC d aq
    have i := zC i aq
    have c := c.below aq
    exact zB ⟨(fromG (cutM xs lo hi) lo), hi, bd, zk, c, j, d, i, r, o, n, rightC_no za (.inl zo), zo⟩
   intro c2
   replace c2 : ((cutM xs lo hi)).length ≤ (fromG (cutM xs lo hi) lo) := by omega
   refine zV (qs (qs (qs (qs (qs (qs (qs (qs (qs (qs (qs (qs (qF (zV (qs (qs (qs (qs (qs (qs (qs (qs (qs (qs (qF (yQ ?_))))))))))))))))))))))))))
   intro dr a6
   have r := r.trans (a6.mono n)
   replace n := Nat.le_trans n (a6.size)
   refine zB (zF (zK ?_))
   replace o := o.trans2 (Ch.of_below a6) (fun _ h => h.elim)
   have j := zC j a6
   have d := zC d a6
   have i := zC i a6
   have c := c.below a6
   exact zB ⟨(fromG (cutM xs lo hi) lo), hi, bd, zk, c, j, d, i, r, o, n, rightC_end zo, zo⟩
  rintro dw d2 ⟨b, q, bd, b8, c, j, d, i, r, o, n, jr, jb⟩
  refine yX b8 (yA (W_held 13 zk zk ?_))
  intro b7 ai
  have r := r.trans (ai.mono n)
  replace n := Nat.le_trans n (ai.size)
  refine ⟨fun w2 => Ch (Dm l s) b7 w2, ?_⟩
  have hS : Ch (Dm l s) b7 b7 := Ch.refl _ _
  refine hp 0 rfl (pt l 0) hS (hp 1 rfl (pt l 0) hS (hp 2 rfl (pt l 0) hS (hp 3 rfl (pt l 0) hS (hp 5 rfl (N6 a) hS (hp 6 rfl (N6 b) hS ?_)))))
  have j := zC j ai
  have i := zC i ai
  refine ht 7 rfl (Value.agg #[(I3 p), (I3 q), (U8 val)]) hS (R_loadA am 0 [(I3 p), (I3 q), (U8 val)] zk zf zf (fun w2 h2 => qA (yP i h2 (zU i j zi) m) 0 zk)) ?_
  refine H_all2 4 8 zk ?_ ?_
  ·skip
   refine H_op 4 rfl zk plain_load (zO 0 j rfl (zQ ?_))
   refine ⟨rfl, hS, H_all1 8 zk (H_op 8 rfl zk zk (zM 1 [(I3 p), (I3 q), (U8 val)] 126 ?_))⟩
   intro bw c6 y
   have b6 : B_ ≤ bw := by rw [y.num]; exact n
   have c := c.below ai
   have ap : Value.ownBlock s = none ∨ Value.ownBlock s ≠ Value.ownBlock (.slice (some ⟨bw, 0, none⟩) 1 1) := .inr (c.new_ne y)
   have ab := yW ap
   replace o := o.trans2 (Ch.of_below ai) (fun _ h => h.elim)
   have ce : ∀ g, Value.ownBlock (.slice (some ⟨bw, 0, none⟩) 1 1) = some g → (World.heap w).size ≤ g ∨ (Dm l t) g := fun g h => .inl (by cases h; rw [y.num]; exact o.size)
   have r := r.trans (y.below.mono n)
   replace n := Nat.le_trans n (y.below.size)
   have br : Row c6 B_ 126 3 encSpanC (.slice (some ⟨bw, 0, none⟩) 1 1) ([(p, q, val)] : List (Int × Int × Int)) := Row.made ([(p, q, val)] : List (Int × Int × Int)) y b6 rfl rfl (by first | decide | (simp; done))
   refine zQ ?_
   replace hS := hS.trans2 (Ch.of_below y.below) (fun _ h => h.elim)
   refine ⟨rfl, hS, H_all1 9 zk (H_op 9 rfl zk zk ?_)⟩
   have c := c.below y.below
   refine zc (c_replace_C B_ s (cutM xs lo hi) a b (.slice (some ⟨bw, 0, none⟩) 1 1) ([(p, q, val)] : List (Int × Int × Int)) _ n c br.mono0 ab zo zo zo (by first | omega | simp)) ?_
   replace o := o.trans2 (Ch.of_below y.below) (fun _ h => h.elim)
   rintro b3 dh ⟨_, rfl, al, bu, ae⟩
   have bh := dr_call o bu ag
   have r := ae.below r n (fun k e => (World.ownsRow.lt c k e).1)
   replace n := Nat.le_trans n ae.size
   have j := zC j y.below
   have av := xQ j ae (c.ne j zi)
   have d := zC (zC d ai) y.below
   have bx := xQ d ae (c.ne d zi)
   have i := zC i y.below
   have bp := nb_mutrow i bu m
   have bz := xQ i ae m
   have cr := br.ch_row ae ab
   have j := av; clear av
   refine zQ ?_
   replace hS := hS.trans2 ae (fun k e => .inr (.inr e))
   refine ⟨rfl, hS, hp 10 rfl (pt l 0) hS (hp 11 rfl (pt l 0) hS (H_all1 12 zk (H_op 12 rfl zk plain_store (xC l 0 b3 [s, (.bool true)] [b3, (.bool true)] 115 zk zk al.one zk j zi rfl ?_))))⟩
   intro dc a1
   replace n := Nat.le_trans n (Nat.le_of_eq a1.size.symm)
   have al := al.wrote a1 (al.ne j zi)
   have j := a1.here
   refine zQ ?_
   replace hS := hS.trans2 (Ch.of_wrote a1) (fun k e => .inr (.inl e))
   refine ⟨rfl, hS, H_done zk (zB (wR (zH (nQ (zR (zZ [(I6 0)] (hd := bd) ?_))))))⟩
   have hE : ((0 : Int) = (layE lo hi)) ∧ ((List.take a (cutM xs lo hi) ++ ([(p, q, val)] : List (Int × Int × Int)) ++ List.drop b (cutM xs lo hi)) = (layF eqC xs lo hi val)) := ⟨(by (rw [layE, if_neg (tnf za)]; done)), (by (rw [layF, if_neg (tnf za), layG, show cutG lo hi xs = cutM xs lo hi from (by rw [cutM, if_neg (tnf za)])]; exact layC_mk jl jr))⟩
   replace o := (o.trans2 ae (fun k e => ag k e)).trans2 (Ch.of_wrote a1) (fun k e => e ▸ bk)
   exact ⟨_, e6 hE.1, j, al.cast hE.2, bh, o⟩
  skip
  refine H_op 8 rfl zk zk (zM 1 [(I3 p), (I3 q), (U8 val)] 126 ?_)
  intro ba ck u
  have b0 : B_ ≤ ba := by rw [u.num]; exact n
  have c := c.below ai
  have ao : Value.ownBlock s = none ∨ Value.ownBlock s ≠ Value.ownBlock (.slice (some ⟨ba, 0, none⟩) 1 1) := .inr (c.new_ne u)
  have aa := yW ao
  replace o := o.trans2 (Ch.of_below ai) (fun _ h => h.elim)
  have b5 : ∀ g, Value.ownBlock (.slice (some ⟨ba, 0, none⟩) 1 1) = some g → (World.heap w).size ≤ g ∨ (Dm l t) g := fun g h => .inl (by cases h; rw [u.num]; exact o.size)
  have r := r.trans (u.below.mono n)
  replace n := Nat.le_trans n (u.below.size)
  have bj : Row ck B_ 126 3 encSpanC (.slice (some ⟨ba, 0, none⟩) 1 1) ([(p, q, val)] : List (Int × Int × Int)) := Row.made ([(p, q, val)] : List (Int × Int × Int)) u b0 rfl rfl (by first | decide | (simp; done))
  refine zQ ?_
  replace hS := hS.trans2 (Ch.of_below u.below) (fun _ h => h.elim)
  refine ⟨rfl, hS, H_all1 4 zk (H_op 4 rfl zk plain_load ?_)⟩
  have j := zC j u.below
  refine zO 0 j rfl (zQ ?_)
  refine ⟨rfl, hS, H_all1 9 zk (H_op 9 rfl zk zk ?_)⟩
  have c := c.below u.below
  refine zc (c_replace_C B_ s (cutM xs lo hi) a b (.slice (some ⟨ba, 0, none⟩) 1 1) ([(p, q, val)] : List (Int × Int × Int)) _ n c bj.mono0 aa zo zo zo (by first | omega | simp)) ?_
  replace o := o.trans2 (Ch.of_below u.below) (fun _ h => h.elim)
  rintro b4 df ⟨_, rfl, an, bq, ac⟩
  have bf := dr_call o bq ag
  have r := ac.below r n (fun k e => (World.ownsRow.lt c k e).1)
  replace n := Nat.le_trans n ac.size
  have av := xQ j ac (c.ne j zi)
  have d := zC (zC d ai) u.below
  have bx := xQ d ac (c.ne d zi)
  have i := zC i u.below
  have bo := nb_mutrow i bq m
  have bz := xQ i ac m
  have cd := bj.ch_row ac aa
  have j := av; clear av
  refine zQ ?_
  replace hS := hS.trans2 ac (fun k e => .inr (.inr e))
  refine ⟨rfl, hS, hp 10 rfl (pt l 0) hS (hp 11 rfl (pt l 0) hS (H_all1 12 zk (H_op 12 rfl zk plain_store (xC l 0 b4 [s, (.bool true)] [b4, (.bool true)] 115 zk zk an.one zk j zi rfl ?_))))⟩
  intro dd a4
  replace n := Nat.le_trans n (Nat.le_of_eq a4.size.symm)
  have an := an.wrote a4 (an.ne j zi)
  have j := a4.here
  refine zQ ?_
  replace hS := hS.trans2 (Ch.of_wrote a4) (fun k e => .inr (.inl e))
  refine ⟨rfl, hS, H_done zk (zB (wR (zH (nQ (zR (zZ [(I6 0)] (hd := bd) ?_))))))⟩
  have hE : ((0 : Int) = (layE lo hi)) ∧ ((List.take a (cutM xs lo hi) ++ ([(p, q, val)] : List (Int × Int × Int)) ++ List.drop b (cutM xs lo hi)) = (layF eqC xs lo hi val)) := ⟨(by (rw [layE, if_neg (tnf za)]; done)), (by (rw [layF, if_neg (tnf za), layG, show cutG lo hi xs = cutM xs lo hi from (by rw [cutM, if_neg (tnf za)])]; exact layC_mk jl jr))⟩
  replace o := (o.trans2 ac (fun k e => ag k e)).trans2 (Ch.of_wrote a4) (fun k e => e ▸ bk)
  exact ⟨_, e6 hE.1, j, an.cast hE.2, bf, o⟩
 intro de
 refine qO false (zH (nQ (zT (wR (zH (nQ (zR (zL (zG (zZ [(I6 41)] ?_))))))))))
 have hE : ((41 : Int) = (layE lo hi)) ∧ (xs = (layF eqC xs lo hi val)) := ⟨(by (rw [layE, if_pos za]; done)), (by (rw [layF, if_pos za]; done))⟩
 replace o := o.trans2 (Ch.of_below a7) (fun _ h => h.elim)
 have j := zC (zC j a8) a7
 have af := (af.below a8).below a7
 exact ⟨_, e6 hE.1, j, af.cast hE.2, aw, o⟩
theorem c_put_C (f : Nat) (b : Value) (xs : List (Int × Int × Int)) (lo : Int) (hi : Int) (val : Int) (B_ : Nat) (w : World) (hs0 : B_ ≤ w.heap.size) (d : w.heap[f]? = some (.cells [b, (.bool true)].toArray 115 (0, 0))) (ah : B_ ≤ f) (a : Row w B_ 126 3 encSpanC b xs) (hr : RiseG 0 xs) (hlo : -2147483648 ≤ lo ∧ lo ≤ 2147483647) (hhi : -2147483648 ≤ hi ∧ hi ≤ 2147483647) :
  Calls Tryz.prog 62 #[(pt f 0), (Value.agg #[(I3 lo), (I3 hi)]), (U8 val)] w (Ret fun v w' => ∃ q0 : Value, v = (I6 (putE xs lo hi)) ∧ w'.heap[f]? = some (.cells [q0, (.bool true)].toArray 115 (0, 0)) ∧ Row w' B_ 126 3 encSpanC q0 (putF eqC xs lo hi val) ∧ (∀ g, Value.ownBlock q0 = some g → w.heap.size ≤ g ∨ (Dm f b) g) ∧ Ch (Dm f b) w w') := by
 refine wJ 29 func62 rfl ?_
 have s := Below.refl B_ w
 have m : B_ ≤ (World.heap w).size := hs0
 have n := Ch.refl (Dm f b) w
 have ad : (World.heap w).size ≤ f ∨ (Dm f b) f := .inr (.inl rfl)
 have j : ∀ g, Value.ownBlock b = some g → (World.heap w).size ≤ g ∨ (Dm f b) g := fun g h => .inr (.inr h)
 have av := hr.len
 refine wR (zN [(I3 lo), (I3 hi)] 32 ?_)
 intro b1 w2 r
 have ap : B_ ≤ b1 := by rw [r.num]; exact m
 have am : (World.heap w).size ≤ b1 ∨ (Dm f b) b1 := .inl (by rw [r.num]; exact n.size)
 have s := s.trans (r.below.mono m)
 replace m := Nat.le_trans m (r.below.size)
 have c := r.here
 have d := zC d r.below
 have a := a.below r.below
 refine zH (nW (zW (wR (zD (zc (c_none_C f b xs _ d a.rd) ?_)))))
 replace n := n.trans2 (Ch.of_below r.below) (fun _ h => h.elim)
 rintro _ w4 ⟨rfl, q⟩
 have s := s.trans (q.mono m)
 replace m := Nat.le_trans m (q.size)
 have c := zC c q
 refine zH (nQ (zF (wR (vT c (zc (qK lo hi _ ) ?_)))))
 replace n := n.trans2 (Ch.of_below q) (fun _ h => h.elim)
 rintro _ w7 ⟨rfl, p⟩
 have s := s.trans (p.mono m)
 replace m := Nat.le_trans m (p.size)
 refine yT (mayF lo hi) ?_ ?_
 ·intro ao
  have ar := Zn ao
  have d := zC (zC d q) p
  have c := zC c p
  have a := (a.below q).below p
  refine qO true (zH (nQ (zF (zK (zJ (zB (yA (wR (zD (vT c (zc (c_meets_C f b xs lo hi _ d a.rd (by exact hr) zo) ?_)))))))))))
  replace n := n.trans2 (Ch.of_below p) (fun _ h => h.elim)
  rintro _ au ⟨rfl, o⟩
  have s := s.trans (o.mono m)
  replace m := Nat.le_trans m (o.size)
  refine zD (zr (Value.agg #[(I3 ((metV 0 (metG xs lo hi)).1)), (I3 ((metV 0 (metG xs lo hi)).2.1))]) (zr (U8 ((metV 0 (metG xs lo hi)).2.2.1)) (zr (.bool ((metV 0 (metG xs lo hi)).2.2.2)) (zN [(I3 0), (I3 0)] 32 ?_))))
  intro ag ay i
  have c := zC c o
  have u := NE_new (yL c) i
  have ai : B_ ≤ ag := by rw [i.num]; exact m
  replace n := n.trans2 (Ch.of_below o) (fun _ h => h.elim)
  have ab : (World.heap w).size ≤ ag ∨ (Dm f b) ag := .inl (by rw [i.num]; exact n.size)
  have s := s.trans (i.below.mono m)
  replace m := Nat.le_trans m (i.below.size)
  have y := i.here
  refine qQ [(I3 ((metV 0 (metG xs lo hi)).1)), (I3 ((metV 0 (metG xs lo hi)).2.1))] y ?_
  intro aw l
  replace m := Nat.le_trans m (Nat.le_of_eq l.size.symm)
  have d := zC (zC d o) i.below
  have d := zI d l (zU d y zi)
  have a := (a.below o).below i.below
  have a := a.wrote l (a.ne y zi)
  refine zH (zH (nR (zD (nQ ?_))))
  rcases Bool.eq_false_or_eq_true ((metV 0 (metG xs lo hi)).2.2.2) with aa | aa
  ·skip
   refine W_ifT aa zk (wR (zH (nQ (zR (zG (zZ [(I6 42)] ?_))))))
   have hE : ((42 : Int) = (putE xs lo hi)) ∧ (xs = (putF eqC xs lo hi val)) := ⟨(by exact (put_metG (eq := eqC) (v := val) (z := 0) za za).1), (by exact (put_metG (z := 0) za za).2)⟩
   replace n := (n.trans2 (Ch.of_below i.below) (fun _ h => h.elim)).trans2 (Ch.of_wrote l) (fun k e => e ▸ ab)
   exact ⟨_, e6 hE.1, d, a.cast hE.2, j, n⟩
  skip
  have c := zI (zC c i.below) l u
  refine W_ifF aa zk (zK (zB (wR (zD (vT c (zD (zc (c_lay_C f b xs lo hi val B_ _ m d ah a (by exact hr) zo zo) ?_)))))))
  replace n := (n.trans2 (Ch.of_below i.below) (fun _ h => h.elim)).trans2 (Ch.of_wrote l) (fun k e => e ▸ ab)
  rintro _ ax ⟨an, rfl, aj, af, ak, ac⟩
  have t : ∀ g, Value.ownBlock an = some g → (World.heap w).size ≤ g ∨ (Dm f b) g := fun g hg => (ak g hg).elim (fun x => .inl (Nat.le_trans n.size x)) (fun x => x.elim (fun x => x ▸ ad) (fun x => j g x))
  have s := s.trans (l.below ai)
  have s := ac.below s m (fun k e => e.elim (fun x => x ▸ ah) (fun x => (World.ownsRow.lt a k x).1))
  replace m := Nat.le_trans m ac.size
  have d := aj
  refine zH (nQ (zR (zZ [(I6 (layE lo hi))] ?_)))
  have hE : (((layE lo hi) : Int) = (putE xs lo hi)) ∧ ((layF eqC xs lo hi val) = (putF eqC xs lo hi val)) := ⟨(by exact (put_okG (eq := eqC) (v := val) (z := 0) za za).1), (by exact (put_okG (z := 0) za za).2)⟩
  replace n := n.trans2 ac (fun k e => e.elim (fun x => x ▸ ad) (fun x => j k x))
  exact ⟨_, e6 hE.1, d, af.cast hE.2, t, n⟩
 intro aq
 refine qO false (zH (nQ (zT (wR (zH (nQ (zR (zL (zG (zZ [(I6 41)] ?_))))))))))
 have hE : ((41 : Int) = (putE xs lo hi)) ∧ (xs = (putF eqC xs lo hi val)) := ⟨(by exact (put_badG (eq := eqC) (v := val) za).1), (by exact (put_badG za).2)⟩
 replace n := n.trans2 (Ch.of_below p) (fun _ h => h.elim)
 have d := zC (zC d q) p
 have a := (a.below q).below p
 exact ⟨_, e6 hE.1, d, a.cast hE.2, j, n⟩
theorem c_clone_C (b : Value) (s : List (Int × Int × Int)) (w : World) (e : Rd w encSpanC b s) (hl : s.length ≤ 4194304) :
  Calls Tryz.prog 69 #[b] w (Ret fun v w' => ∃ (q0 : Value), v = q0 ∧ Row w' w.heap.size 126 3 encSpanC q0 s ∧ Below w.heap.size w w') := by
 refine wJ 8 func69 rfl ?_
 have d := Below.refl w.heap.size w
 refine wR (zH (nW (wR (zD (L_snil b s e zk zk (fun _ _ _ => zk) (fun _ _ _ _ => zk) ?_ ?_)))))
 ·intro n
  exact nQ (zT (wR (zH (nQ (zR (zG (zZ [(.slice none 0 0)] ⟨(.slice none 0 0), rfl, (Row.nil _ _ _ _ _).cast (by (subst s; rfl)), d⟩)))))))
 refine nQ (zF (zK (zB (wR (zM 0 [] 126 ?_)))))
 intro i l c
 have f := c.ge d.size
 have a : Row l w.heap.size 126 3 encSpanC (.slice (some ⟨i, 0, none⟩) 0 0) ([] : List (Int × Int × Int)) := Row.made ([] : List (Int × Int × Int)) c f rfl rfl (by first | decide | (simp; done))
 have d := d.tr c.below
 have e := e.below c.below
 refine zD (xM xH w.heap.size (.slice (some ⟨i, 0, none⟩) 0 0) b ([] : List (Int × Int × Int)) s d.size a e (by (simp only [List.length_append, List.length_nil] <;> omega)) zj zj zk zk zk ?_)
 intro j m h g k 
 have d := d.tg d.size g a
 have a := h
 exact zH (nQ (zR (zZ [j] ⟨j, rfl, a.cast (by rfl), d⟩)))
theorem it_all_C (bx_m v : Nat) (s : Value) (xs : List (Int × Int × Int)) (hl : xs.length ≤ 4194304) :
  Iter (α := SpI) Tryz.prog 68 [.pointer (some ⟨bx_m, 0, none⟩)] (fun x => [.agg #[.int .i32 x.1, .int .i32 x.2.1], .int .u8 x.2.2]) xs (fun w => w.heap[bx_m]? = some (.cells [(pt v 0)].toArray 61 (0, 0)) ∧ w.heap[v]? = some (.cells [s, (.bool true)].toArray 115 (0, 0)) ∧ Rd w encSpanC s xs) := by
 intro l J Jx w hN h0 aq az hY
 refine wJ 28 func68 rfl ?_
 have hb := Below.refl w.heap.size w
 have q : w.heap.size ≤ w.heap.size := Nat.le_refl _
 obtain ⟨b, a, c⟩ := hN
 have aa := c
 refine yA (wR (zO 0 b rfl (zc (c_none_C v s xs _ a c) ?_)))
 rintro _ w1 ⟨rfl, ab⟩
 have hb := hb.trans (ab.mono q)
 replace q := Nat.le_trans q (ab.size)
 have b := zC b ab
 have a := zC a ab
 have c := c.below ab
 refine nQ (zF (zK (zB (wR (zO 0 b rfl (zr (pt v 0) (wB 0 a rfl (zc (c_clone_C s xs _ c zo) ?_))))))))
 rintro q4 w5 ⟨_, rfl, j, ac⟩
 have j := j.base q
 have hb := hb.trans (ac.mono q)
 replace q := Nat.le_trans q (ac.size)
 refine vY underlying113 (j.rd).len (zD (nQ (zW ?_)))
 have hJ := h0 _ hb
 obtain ⟨K, av⟩ : ∃ K, K = w5.heap.size := ⟨_, rfl⟩
 rw [← av] at hJ
 have y : K ≤ w5.heap.size := by omega
 have au : w.heap.size ≤ K := by omega
 have u : ∀ g, Value.ownBlock q4 = some g → Iv w.heap.size K g := fun g hg => by have := World.ownsRow.lt j g hg; exact ⟨this.1, by omega⟩
 have b := zC b ac
 have a := zC a ac
 have c := c.below ac
 refine xA (fun m s0 w0 => ∃ (i : Nat) (t : List SpI), (m = xs.length - i) ∧ (s0.ds = []) ∧ ([0, 11, 12, 13].map s0.f = [(.func (.yield l) #[] #[]), q4, (N6 ((xs).length)), (N6 i)]) ∧ (Rd w0 encSpanC s xs) ∧ (Row w0 w.heap.size 126 3 encSpanC q4 xs) ∧ (w0.heap[bx_m]? = some (.cells [(pt v 0)].toArray 61 (0, 0))) ∧ (w0.heap[v]? = some (.cells [s, (.bool true)].toArray 115 (0, 0))) ∧ (w.heap.size ≤ w0.heap.size) ∧ (K ≤ w0.heap.size) ∧ (J K t w0) ∧ (i ≤ xs.length) ∧ (t = xs.take i)) _ ⟨0, [], rfl, zk, zk, c, j, b, a, q, y, hJ, by omega, rfl⟩ ?_
 rintro m8 s9 al ⟨i, t, hm, ah, ap, c, j, b, a, q, y, hJ, i1, ag⟩
 refine yX ap (wR (nLt i ((xs).length) ?_ ?_))
 ·intro a2
  refine nW (zT (zK (zB (yA (zW (wR ?_))))))
  have hz := zX xs i zo; obtain ⟨d, ao⟩ := hz
  refine zEA j.rd xH i ao [(I3 d.1), (I3 d.2.1), (U8 d.2.2)] rfl fun _ => (zN [(I3 0), (I3 0), (U8 0)] 126 ?_)
  intro ak a1 n
  have aj := n.ge q
  have z := Ch.refl (Iv w.heap.size K) al
  have af : (World.heap al).size ≤ ak ∨ Iv w.heap.size K ak := .inl (by rw [n.num]; exact z.size)
  have r := j.new_ne n
  replace y := Nat.le_trans y (n.below.size)
  replace q := Nat.le_trans q (n.below.size)
  have p := n.here
  refine qQ [(I3 d.1), (I3 d.2.1), (U8 d.2.2)] p ?_
  intro a8 o
  replace y := Nat.le_trans y (Nat.le_of_eq o.size.symm)
  replace q := Nat.le_trans q (Nat.le_of_eq o.size.symm)
  have b := zC b n.below
  have b := zI b o (zU b p zi)
  have a := zC a n.below
  have a := zI a o (zU a p zi)
  have p := o.here
  refine nR (zD (wB 0 p rfl (wB 1 p rfl (zr (Value.agg #[(I3 d.1), (I3 d.2.1)]) (wB 2 p rfl ?_)))))
  replace z := (z.trans2 (Ch.of_below n.below) (fun _ h => h.elim)).trans2 (Ch.of_wrote o) (fun k e => e ▸ af)
  replace hJ := aq _ _ _ _ hJ z
  clear z
  have ae : t ++ [((d.1, d.2.1, d.2.2) : SpI)] <+: xs := by rw [ag]; exact tk_pre za
  have c := Rd.ch aa (Nat.le_refl _) (c.below n.below) (Ch.of_wrote o) (fun k e => e ▸ aj)
  refine L_yield l [(Value.agg #[(I3 d.1), (I3 d.2.1)]), (U8 d.2.2)] zk zk (hY K t ((d.1, d.2.1, d.2.2) : SpI) _ hJ ⟨b, a, c⟩ au y ae) ?_
  rintro e a4 (⟨rfl, ay, hk, aw⟩ | ⟨rfl, ax, hk⟩)
  ·refine ⟨true, rfl, ?_⟩
   have j := (j.below n.below).wrote o r
   have j := j.kp hk u
   replace q := Nat.le_trans q hk.size
   replace y := Nat.le_trans y hk.size
   replace hJ := ay
   obtain ⟨b, a, c⟩ := aw
   refine qO true (nQ (zF (zK (zJ (zB (zP (xN i 1 (zD (zQ (zB ⟨_, zo, (i + 1), (t ++ [((d.1, d.2.1, d.2.2) : SpI)]), rfl, ah, zk, c, j, b, a, q, y, hJ, zo, ?_⟩))))))))))
   rw [ag]; exact tk_snoc za
  refine ⟨false, rfl, ?_⟩
  replace q := Nat.le_trans q hk.size
  replace y := Nat.le_trans y hk.size
  refine qO false (nQ (zT (zR (zL (zG (zG (zL (zZ [] (hd := ah) ?_))))))))
  exact ⟨q, Or.inr ⟨K, _, _, ae, ax⟩⟩
 intro a9
 refine nW (zF (yU (zS (zS (yF (znrm [] (hd := ah) ?_))))))
 have am : t = xs := by first | (rw [ag, List.take_of_length_le zo]; done)
 rw [am] at hJ
 exact ⟨q, Or.inl ⟨K, hJ⟩⟩
theorem c_all_C (a : Nat) (b : Value) (xs : List (Int × Int × Int)) (w : World) (i : w.heap[a]? = some (.cells [b, (.bool true)].toArray 115 (0, 0))) (h : Rd w encSpanC b xs) :
  Calls Tryz.prog 35 #[(pt a 0)] w (Ret fun v w' => ∃ (cb0 : Nat), v = (.func (.func 68) #[] #[(pt cb0 0)]) ∧ w'.heap[cb0]? = some (.cells [(pt a 0)].toArray 61 (0, 0)) ∧ w.heap.size ≤ cb0 ∧ Below w.heap.size w w') := by
 refine wJ 4 func35 rfl ?_
 have f := Below.refl w.heap.size w
 refine wR (zN [(pt a 0)] 61 ?_)
 intro g j c
 have d := c.ge f.size
 have e := c.here
 have f := f.tr c.below
 exact zH (nR (zr (.func (.func 68) #[] #[(pt g 0)]) (zH (nQ (zR (zZ [(.func (.func 68) #[] #[(pt g 0)])] ⟨g, rfl, e, d, f⟩))))))
end Go.Proofs.YtkclikfejmeblaaGreatDoor
end

/- === Wctab === -/
section
/- Walks, written by my program walk.py out of the specification ctab.py: each theorem says what one function returns and that it leaves memory as it was. -/
namespace Go.Proofs.YtkclikfejmeblaaGreatDoor
open Go Go.RowKit Go.FK _root_.Go.Proofs.Tryz
set_option maxHeartbeats 4000000
set_option maxRecDepth 100000
theorem el42 : Elem Tryz.prog 42 45 3 12 := ⟨underlying42, zk, rfl⟩
theorem el68 : Elem Tryz.prog 68 67 1 8 := ⟨underlying68, zk, rfl⟩
theorem uH : Elem Tryz.prog 29 34 3 12 := ⟨underlying29, zk, rfl⟩
theorem Zo (no : Int) (k : Int) (m : List UInt8) (ac : Value) (f : List (List UInt8)) (t : List UInt8) (wrong : Int) (w : World) (l : Rd w encStr ac f) {m_ml : Int} (hml : w.cell? ⟨1, 0, none⟩ = some (I6 m_ml)) (hf : ∀ x ∈ f, x.length ≤ 1073741824) (hn : f.length ≤ 1073741824) :
  Calls Tryz.prog 60 #[(Value.agg #[(I6 no), (U8 k), (S m), ac, (S t)]), (I6 wrong)] w (Ret fun v w' => v = (.tuple #[(Value.agg #[(I3 ((toldC f wrong).1)), (I3 ((toldC f wrong).2.1))]), (U8 ((toldC f wrong).2.2.1)), (I6 ((toldC f wrong).2.2.2))]) ∧ Below w.heap.size w w') := by
 refine wJ 39 func60 rfl ?_
 have e := Below.refl w.heap.size w
 have j := l
 refine wR (zN [(I6 no), (U8 k), (S m), ac, (S t)] 72 ?_)
 intro b1 w2 ab
 have ai := ab.ge e.size
 have b := ab.here
 refine zN [(I3 0), (I3 0)] 32 ?_
 intro b4 w5 r
 have e := e.tr ab.below
 have n := r.ge e.size
 have a := r.here
 have e := e.tr r.below
 have b := zC b r.below
 have l := j.below e
 refine zH (zH (nW (wR (wB 3 b rfl (vY underlying70 (l).len (nNe ((f).length) 2 ?_ ?_))))))
 ·intro h7
  refine nQ (zT (wR (zr (Value.agg #[(I3 0), (I3 0)]) (zD (qQ [(I3 0), (I3 0)] a ?_)))))
  intro w8 ae
  have a := ae.here
  refine zH (zH (nQ (zR (zG (yM [.cell 4 32, .tmp 5, .tmp 6] [(Value.agg #[(I3 0), (I3 0)]), (U8 0), (I6 wrong)] rfl rfl ⟨⟨⟨b4, 0, none⟩, zk, yH [(I3 0), (I3 0)] zk zk (yE a)⟩, zk, zk, trivial⟩ ?_)))))
  have e := e.trans (ae.below n)
  exact ⟨Zj (by (rw [tc_no zo]; done)) (eu (by (rw [tc_no zo]; done))) (e6 (by (rw [tc_no zo]; done))), e⟩
 intro ar
 refine nQ (zF (zK (zB (wR (wB 3 b rfl ?_)))))
 have hz := zX f 0 zo; obtain ⟨c, s⟩ := hz
 have ad := hf _ (List.mem_of_getElem? s)
 refine zE1 l el70 0 s rfl fun _ => (zc (c_points_Span c _ (wE hml e) zo) ?_)
 rintro _ aq ⟨rfl, p⟩
 refine zD (zr (Value.agg #[(I3 ((spanF c).1)), (I3 ((spanF c).2.1))]) (zr (I6 ((spanF c).2.2)) (zN [(I3 0), (I3 0)] 32 ?_)))
 intro ap au d
 have a := zC a p
 have i := NE_new (yL a) d
 have e := e.tr p
 have y := d.ge e.size
 have h := d.here
 refine qQ [(I3 ((spanF c).1)), (I3 ((spanF c).2.1))] h ?_
 intro an g
 have b := zC (zC b p) d.below
 have b := zI b g (zU b h zi)
 have h := g.here
 refine zH (nW (wR (zD (zNe .i64 ((spanF c).2.2) 0 ?_ ?_))))
 ·intro ak
  have a := zI (zC a d.below) g i
  refine nQ (zT (wR (zr (Value.agg #[(I3 0), (I3 0)]) (zD (qQ [(I3 0), (I3 0)] a ?_)))))
  intro am z
  have a := z.here
  refine zH (zH (nQ (zR (zG (yM [.cell 4 32, .tmp 5, .tmp 6] [(Value.agg #[(I3 0), (I3 0)]), (U8 0), (I6 ((spanF c).2.2))] rfl rfl ⟨⟨⟨b4, 0, none⟩, zk, yH [(I3 0), (I3 0)] zk zk (yE a)⟩, zk, zk, trivial⟩ ?_)))))
  have e := ((e.tr d.below).trans (g.below y)).trans (z.below n)
  exact ⟨Zj (by (rw [tc_span zo za za]; done)) (eu (by (rw [tc_span zo za za]; done))) (e6 (by (rw [tc_span zo za za]; done))), e⟩
 intro aj
 refine nQ (zF (zK (zB (wR (wB 3 b rfl ?_)))))
 have hz := zX f 1 zo; obtain ⟨q, aa⟩ := hz
 have af := hf _ (List.mem_of_getElem? aa)
 have e := (e.tr d.below).trans (g.below y)
 have l := j.below e
 refine zE1 l el70 1 aa rfl fun _ => (zc (c_words_Class q _ zo) ?_)
 rintro _ ao ⟨rfl, o⟩
 have a := zC (zI (zC a d.below) g i) o
 have h := zC h o
 refine zD (zr (U8 ((classF q).1)) (zr (I6 ((classF q).2)) (zH (zH (nR (vT h (zD (zD (qQ [(I3 ((spanF c).1)), (I3 ((spanF c).2.1))] a ?_)))))))))
 intro al u
 have a := u.here
 refine zH (zH (nQ (zR (yM [.cell 4 32, .tmp 5, .tmp 6] [(Value.agg #[(I3 ((spanF c).1)), (I3 ((spanF c).2.1))]), (U8 ((classF q).1)), (I6 ((classF q).2))] rfl rfl ⟨⟨⟨b4, 0, none⟩, zk, yH [(I3 ((spanF c).1)), (I3 ((spanF c).2.1))] zk zk (yE a)⟩, zk, zk, trivial⟩ ?_))))
 have e := (e.tr o).trans (u.below n)
 exact ⟨Zj (by (rw [tc_ok zo za za za]; done)) (eu (by (rw [tc_ok zo za za za]; done))) (e6 (by (rw [tc_ok zo za za za]; done))), e⟩
theorem c_classes_Read_ok (f : List UInt8) (s : List UInt8) (w : World) {m_ml : Int} (hml : w.cell? ⟨1, 0, none⟩ = some (I6 m_ml)) (hs : s.length ≤ 33554432) (hok : (clsF s).2.2 = 0) :
  Calls Tryz.prog 10 #[(S f), (S s)] w (Ret fun v w' => ∃ (q0 : Value) (q1 : Value) (q2 : Value) (q3 : Value) (cb0 : Nat) (cb1 : Nat) (cb2 : Nat) (cb3 : Nat), v = (.tuple #[(pt cb0 0), .nilIface]) ∧ Row w' w.heap.size 45 3 encSpanC q0 ((clsF s).1.2.2) ∧ Row w' w.heap.size 126 3 encSpanC q1 ((clsF s).1.1) ∧ Row w' w.heap.size 131 3 encSpanI q2 ((clsF s).1.2.1) ∧ Row w' w.heap.size 126 3 encSpanC q3 (wholeF (clsF s).1) ∧ w'.heap[cb0]? = some (.cells [(pt cb1 0), (pt cb2 0), q0, (pt cb3 0)].toArray 66 (0, 0)) ∧ w.heap.size ≤ cb0 ∧ w'.heap[cb1]? = some (.cells [q1, (.bool true)].toArray 115 (0, 0)) ∧ w.heap.size ≤ cb1 ∧ w'.heap[cb2]? = some (.cells [q2, (.bool true)].toArray 118 (0, 0)) ∧ w.heap.size ≤ cb2 ∧ w'.heap[cb3]? = some (.cells [q3, (.bool true)].toArray 115 (0, 0)) ∧ w.heap.size ≤ cb3 ∧ NE cb0 cb1 ∧ NE cb0 cb2 ∧ NE cb0 cb3 ∧ NE cb1 cb2 ∧ NE cb1 cb3 ∧ NE cb2 cb3 ∧ Below w.heap.size w w') := by
 refine enterM (args := [(S f), (S s)]) func10 rfl (zk : _ = 103) zk ?_
 have hb := Below.refl w.heap.size w
 refine wR (zH (zH (nR (zD (zD ?_)))))
 by_cases hu : (badL (toldF s)).2 = 0
 ·skip
  refine zc (c_lines_Read_ok f s _ zo zo) ?_
  rintro _ w3 ⟨l6, q2, rfl, z, h1, h3⟩
  replace z := z.base hb.size
  refine zD (zr q2 (zr .nilIface (zH (zH (nW (wR (zD (zr (.bool false) (nQ (zF (zK (zB (wR (zc (c_new_C  _ ) ?_))))))))))))))
  rintro _ w8 ⟨a3, rfl, p, c7, gx⟩
  replace hb := hb.tr h3
  replace c7 := Nat.le_trans hb.size c7
  refine zc (c_new_I  _ ) ?_
  rintro _ kq ⟨bi, rfl, q, c5, ex⟩
  replace hb := hb.tr gx
  replace c5 := Nat.le_trans hb.size c5
  refine zc (c_new_C  _ ) ?_
  rintro _ jw ⟨ay, rfl, n, bq, ea⟩
  replace p := zC p ex
  have a8 := NE_ge (yL p) bq
  have dl := NE.symm a8
  replace hb := hb.tr ex
  replace bq := Nat.le_trans hb.size bq
  refine zr (Value.agg #[(pt a3 0), (pt bi 0), (.slice none 0 0), (pt ay 0)]) (zN [(pt a3 0), (pt bi 0), (.slice none 0 0), (pt ay 0)] 66 ?_)
  intro ad kt dh
  replace hb := hb.tr ea
  have dp := dh.ge hb.size
  have o := dh.here
  refine zN [(.pointer none)] 23 ?_
  intro dn ka c8
  replace hb := hb.tr dh.below
  have hf := c8.ge hb.size
  have u := c8.here
  refine z1 0 (pt ad 0) [(pt ad 0)] u ?_
  intro j6 dg
  replace p := zC (zC (zC p ea) dh.below) c8.below
  replace p := zI p dg (zU p u zi)
  replace q := zC (zC (zC q ea) dh.below) c8.below
  replace q := zI q dg (zU q u zi)
  replace n := zC (zC n dh.below) c8.below
  replace n := zI n dg (zU n u zi)
  replace o := zC o c8.below
  replace o := zI o dg (zU o u zi)
  replace z := ((((z.below gx).below ex).below ea).below dh.below).below c8.below
  replace z := z.wrote dg (z.ne u zi)
  replace u := dg.here
  refine nR (zO 0 u rfl (zr (.func (.func 30) #[(pt ad 0)] #[]) (zO 0 u rfl (zr (.func (.func 31) #[(pt ad 0)] #[]) (zO 0 u rfl (zr (.func (.func 32) #[(pt ad 0)] #[]) (zO 0 u rfl (zr (.func (.func 33) #[(pt ad 0)] #[]) (zM 4 [(.func (.func 30) #[(pt ad 0)] #[]), (.func (.func 31) #[(pt ad 0)] #[]), (.func (.func 32) #[(pt ad 0)] #[]), (.func (.func 33) #[(pt ad 0)] #[])] 67 ?_)))))))))
  intro d2 h2 c1
  replace hb := (hb.tr c8.below).trans (dg.below hf)
  have f9 := c1.ge hb.size
  have t : Row h2 w.heap.size 67 1 encVal (.slice (some ⟨d2, 0, none⟩) 4 4) ([(.func (.func 30) #[(pt ad 0)] #[]), (.func (.func 31) #[(pt ad 0)] #[]), (.func (.func 32) #[(pt ad 0)] #[]), (.func (.func 33) #[(pt ad 0)] #[])] : List (Value)) := Row.made ([(.func (.func 30) #[(pt ad 0)] #[]), (.func (.func 31) #[(pt ad 0)] #[]), (.func (.func 32) #[(pt ad 0)] #[]), (.func (.func 33) #[(pt ad 0)] #[])] : List (Value)) c1 f9 rfl rfl (by first | decide | (simp; done))
  replace z := z.below c1.below
  refine zH (nW (wR (zD (vY underlying58 (z.rd).len (zD (nQ (zW ?_)))))))
  have hl := h1
  have j8 := lines_len hl
  have kk := Zm s
  replace hb := hb.tr c1.below
  replace p := zC p c1.below
  replace q := zC q c1.below
  replace n := zC n c1.below
  replace o := zC o c1.below
  replace u := zC u c1.below
  refine xA (fun m s0 w0 => ∃ (i : Nat) (am : List SpI) (lm : List SpI) (mm : List SpI) (af : Value) (ao : Value) (ag : Value), (m = l6.length - i) ∧ (s0.ds = []) ∧ ([0, 8, 9, 40, 41, 42].map s0.f = [(S f), (pt dn 0), (.slice (some ⟨d2, 0, none⟩) 4 4), q2, (N6 ((l6).length)), (N6 i)]) ∧ (NRow 9 w0 w.heap.size 72 5 encLine q2 l6) ∧ (Row w0 w.heap.size 67 1 encVal (.slice (some ⟨d2, 0, none⟩) 4 4) ([(.func (.func 30) #[(pt ad 0)] #[]), (.func (.func 31) #[(pt ad 0)] #[]), (.func (.func 32) #[(pt ad 0)] #[]), (.func (.func 33) #[(pt ad 0)] #[])] : List (Value))) ∧ (Row w0 w.heap.size 126 3 encSpanC af am) ∧ (Row w0 w.heap.size 131 3 encSpanI ao lm) ∧ (Row w0 w.heap.size 45 3 encSpanC ag mm) ∧ (w0.heap[a3]? = some (.cells [af, (.bool true)].toArray 115 (0, 0))) ∧ (w0.heap[bi]? = some (.cells [ao, (.bool true)].toArray 118 (0, 0))) ∧ (w0.heap[ay]? = some (.cells [(.slice none 0 0), (.bool true)].toArray 115 (0, 0))) ∧ (w0.heap[ad]? = some (.cells [(pt a3 0), (pt bi 0), ag, (pt ay 0)].toArray 66 (0, 0))) ∧ (w0.heap[dn]? = some (.cells [(pt ad 0)].toArray 23 (0, 0))) ∧ (Below w.heap.size w w0) ∧ (i ≤ l6.length) ∧ (invC s l6 i (am, lm, mm)) ∧ (MapOk eqI am) ∧ (MapOk eqI lm) ∧ (mm.length ≤ i) ∧ (rngC mm)) _ ⟨0, [], [], [], (.slice none 0 0), (.slice none 0 0), (.slice none 0 0), rfl, zk, zk, z, t, Row.nil _ _ _ _ _, Row.nil _ _ _ _ _, Row.nil _ _ _ _ _, p, q, n, o, u, hb, (Nat.zero_le _), (invC_zero (by first | assumption | exact cls_ok1 hok) hl), MapOk.nil, MapOk.nil, (Nat.le_refl _), rng_nil⟩ ?_
  rintro j5 kr hy ⟨i, am, lm, mm, af, ao, ag, hm, c2, fy, z, t, b, d, a, p, q, n, o, u, hb, i1, i3, oa, ol, i4, om⟩
  refine yX fy ?_
  have kc := oa.rise.len
  have jx := ol.rise.len
  refine wR (nLt i ((l6).length) ?_ ?_)
  ·intro ko
   refine nW (zT (zK (zB (yA (zW (wR ?_))))))
   have hz := zX l6 i zo; obtain ⟨r, d6⟩ := hz
   have hz := (z.rd).at (k := 5) zj d6
   obtain ⟨gy, fa, gn, hj⟩ := hz
   have g3 := scan_ok zo hl d6
   have ho := line_kind hl d6
   refine yS (k := .i64) q2 i _ gy fa el58 gn zo zk zk ?_
   have ba : Row hy w.heap.size 9 1 encStr (LineV.v r) (LineV.fs r) := z.inner (List.mem_of_getElem? d6)
   refine xB gy (fa + i * 5) [(I6 r.1), (U8 r.2.1), (S r.2.2.1), (LineV.v r), (S r.2.2.2.2)] zk zk zk hj (zN [(I6 0), (U8 0), (S []), (.slice none 0 0), (S [])] 72 ?_)
   intro c9 j7 a9
   have dt := a9.ge hb.size
   have bk := z.new_ne a9
   have ab := a9.here
   replace ba := ba.below a9.below
   refine xU c9 0 [(I6 r.1), (U8 r.2.1), (S r.2.2.1), (LineV.v r), (S r.2.2.2.2)] [(I6 0), (U8 0), (S []), (.slice none 0 0), (S [])] [(I6 r.1), (U8 r.2.1), (S r.2.2.1), (LineV.v r), (S r.2.2.2.2)] 72 zk zk (yZ rfl (yZ rfl (yZ rfl (yZ ba.one (yZ rfl rfl))))) zk ab zk rfl ?_
   intro jq bm
   replace p := zC p a9.below
   replace p := zI p bm (zU p ab zi)
   replace q := zC q a9.below
   replace q := zI q bm (zU q ab zi)
   replace n := zC n a9.below
   replace n := zI n bm (zU n ab zi)
   replace o := zC o a9.below
   replace o := zI o bm (zU o ab zi)
   replace u := zC u a9.below
   replace u := zI u bm (zU u ab zi)
   replace t := t.below a9.below
   replace t := t.wrote bm (t.ne ab zi)
   replace b := b.below a9.below
   replace b := b.wrote bm (b.ne ab zi)
   replace d := d.below a9.below
   replace d := d.wrote bm (d.ne ab zi)
   replace a := a.below a9.below
   replace a := a.wrote bm (a.ne ab zi)
   replace ba := ba.wrote bm (ba.ne ab zi)
   replace ab := bm.here
   refine nW (W_pre 6 8 2 zk zk zk zk zk zk zk (zV (yB (pt c9 1) zf (yD c9 1 (U8 r.2.1) zk zf (yI ab rfl) ?_))))
   have hz := zX ([(.func (.func 30) #[(pt ad 0)] #[]), (.func (.func 31) #[(pt ad 0)] #[]), (.func (.func 32) #[(pt ad 0)] #[]), (.func (.func 33) #[(pt ad 0)] #[])] : List (Value)) r.2.1.toNat (by (simp only [List.length_cons, List.length_nil]; omega)); obtain ⟨ks, fv⟩ := hz
   have hz := (t.rd).at (k := 1) zj fv
   obtain ⟨en, df, g0, d7⟩ := hz
   refine Lq_ixaddrZ (k := .u8) (.slice (some ⟨d2, 0, none⟩) 4 4) r.2.1 r.2.1.toNat _ en df zo el68 g0 (by (simp only [List.length_cons, List.length_nil]; omega)) zk zk ?_
   have hz := pick4 fv
   rcases hz with ⟨ek, de⟩ | ⟨ek, de⟩ | ⟨ek, de⟩ | ⟨ek, de⟩
   ·subst de
    have f6 : r.2.1 = 0 := by omega
    refine yD en (df + r.2.1.toNat * 1) (.func (.func 30) #[(pt ad 0)] #[]) zk zf (d7 0 _ rfl) (wO c9 0 [(I6 r.1), (U8 r.2.1), (S r.2.2.1), (LineV.v r), (S r.2.2.2.2)] zk zf zf (qA ab 0 zk) (yQ ?_))
    intro jt co
    refine yC 6 zk (yO 6 rfl ?_ rfl)
    refine vQ 30 [(pt ad 0), (Value.agg #[(I6 r.1), (U8 r.2.1), (S r.2.2.1), (LineV.v r), (S r.2.2.2.2)])] zk zk (wJ 5 func30 rfl (wR (zN [(I6 r.1), (U8 r.2.1), (S r.2.2.1), (LineV.v r), (S r.2.2.2.2)] 72 ?_)))
    intro ju kp cl
    replace hb := ((hb.tr a9.below).trans (bm.below dt)).tr co
    have go := cl.ge hb.size
    replace z := ((z.below a9.below).wrote bm bk).below co
    have ej := z.new_ne cl
    refine zH (nR (zH (nQ (zR (zZ [(I6 0)] ?_)))))
    show L _ _ _ _ _ _ (Fm.put _ _ (I6 0)) _
    refine zQ ?_
    refine ⟨rfl, ip 7 rfl (I6 0) (yJ zk (zB (wR (zD (zr (.bool false) (nQ (zF (zK (zJ (zB (zP (xN i 1 (zD (zQ ?_))))))))))))))⟩
    replace hb := hb.tr cl.below
    replace p := zC (zC p co) cl.below
    replace q := zC (zC q co) cl.below
    replace n := zC (zC n co) cl.below
    replace o := zC (zC o co) cl.below
    replace u := zC (zC u co) cl.below
    replace t := (t.below co).below cl.below
    replace b := (b.below co).below cl.below
    replace d := (d.below co).below cl.below
    replace z := z.below cl.below
    replace a := (a.below co).below cl.below
    refine zB ⟨_, zo, (i + 1), am, lm, mm, af, ao, ag, rfl, c2, zk, z, t, b, d, a, p, q, n, o, u, hb, zo, ?_, ?_, ?_, zo, ?_⟩
    ·exact invC_on i3 za (st_blank za)
    ·exact oa
    ·exact ol
    first | exact om | exact uS om _ _ _
   ·subst de
    have f6 : r.2.1 = 1 := by omega
    refine yD en (df + r.2.1.toNat * 1) (.func (.func 31) #[(pt ad 0)] #[]) zk zf (d7 0 _ rfl) (wO c9 0 [(I6 r.1), (U8 r.2.1), (S r.2.2.1), (LineV.v r), (S r.2.2.2.2)] zk zf zf (qA ab 0 zk) (yQ ?_))
    intro j0 ci
    refine yC 6 zk (yO 6 rfl ?_ rfl)
    refine vQ 31 [(pt ad 0), (Value.agg #[(I6 r.1), (U8 r.2.1), (S r.2.2.1), (LineV.v r), (S r.2.2.2.2)])] zk zk (wJ 36 func31 rfl (wR (zN [(I6 r.1), (U8 r.2.1), (S r.2.2.1), (LineV.v r), (S r.2.2.2.2)] 72 ?_)))
    intro gz kf b0
    replace hb := ((hb.tr a9.below).trans (bm.below dt)).tr ci
    have g2 := b0.ge hb.size
    replace z := ((z.below a9.below).wrote bm bk).below ci
    have ef := z.new_ne b0
    have b9 := b0.here
    replace hb := hb.tr b0.below
    replace ba := (ba.below ci).below b0.below
    refine zH (nR (vT b9 (zc (Zo r.1 r.2.1 r.2.2.1 (LineV.v r) (LineV.fs r) r.2.2.2.2 70 _ ba.rd (wE hml hb) (by exact (by assumption : _ ∧ _ ∧ _).1) (by exact (by assumption : _ ∧ _ ∧ _).2.2)) ?_)))
    rintro _ jy ⟨rfl, cm⟩
    have := tc_rng (LineV.fs r) 70
    refine zD (zr (Value.agg #[(I3 ((toldC (LineV.fs r) 70).1)), (I3 ((toldC (LineV.fs r) 70).2.1))]) (zr (U8 ((toldC (LineV.fs r) 70).2.2.1)) (zr (I6 ((toldC (LineV.fs r) 70).2.2.2)) (zN [(I3 0), (I3 0)] 32 ?_))))
    intro he j3 bx
    replace hb := hb.tr cm
    have dw := bx.ge hb.size
    have aj := bx.here
    refine qQ [(I3 ((toldC (LineV.fs r) 70).1)), (I3 ((toldC (LineV.fs r) 70).2.1))] aj ?_
    intro kl b4
    replace p := zC (zC (zC (zC p ci) b0.below) cm) bx.below
    replace p := zI p b4 (zU p aj zi)
    replace q := zC (zC (zC (zC q ci) b0.below) cm) bx.below
    replace q := zI q b4 (zU q aj zi)
    replace n := zC (zC (zC (zC n ci) b0.below) cm) bx.below
    replace n := zI n b4 (zU n aj zi)
    replace o := zC (zC (zC (zC o ci) b0.below) cm) bx.below
    replace o := zI o b4 (zU o aj zi)
    replace u := zC (zC (zC (zC u ci) b0.below) cm) bx.below
    replace u := zI u b4 (zU u aj zi)
    replace ab := zC (zC (zC (zC ab ci) b0.below) cm) bx.below
    replace ab := zI ab b4 (zU ab aj zi)
    replace b9 := zC (zC b9 cm) bx.below
    replace b9 := zI b9 b4 (zU b9 aj zi)
    replace z := ((z.below b0.below).below cm).below bx.below
    replace z := z.wrote b4 (z.ne aj zi)
    replace t := (((t.below ci).below b0.below).below cm).below bx.below
    replace t := t.wrote b4 (t.ne aj zi)
    replace b := (((b.below ci).below b0.below).below cm).below bx.below
    replace b := b.wrote b4 (b.ne aj zi)
    replace d := (((d.below ci).below b0.below).below cm).below bx.below
    replace d := d.wrote b4 (d.ne aj zi)
    replace a := (((a.below ci).below b0.below).below cm).below bx.below
    replace a := a.wrote b4 (a.ne aj zi)
    replace aj := b4.here
    refine zH (zH (nW (wR (zD (zNe .i64 ((toldC (LineV.fs r) 70).2.2.2) 0 ?_ ?_)))))
    ·intro hw
     refine nQ (zT (wR (zD (zH (nQ (zR (zG (zZ [(I6 ((toldC (LineV.fs r) 70).2.2.2))] ?_))))))))
     show L _ _ _ _ _ _ (Fm.put _ _ (I6 ((toldC (LineV.fs r) 70).2.2.2))) _
     refine zQ ?_
     refine ⟨rfl, ip 7 rfl (I6 ((toldC (LineV.fs r) 70).2.2.2)) (yJ zk (zB (wR (zD (zNe .i64 ((toldC (LineV.fs r) 70).2.2.2) 0 ?_ ?_)))))⟩
     ·intro jv
      refine nQ (zT (yA (wD 9 zk zk zk ?_)))
      intro j4 fu
      refine ip 0 rfl (S f) (ip 1 rfl (pt c9 0) (ip 3 rfl (I6 ((toldC (LineV.fs r) 70).2.2.2)) (ip 7 rfl (.pointer none) (yC 2 zk (yO 2 rfl ?_ rfl)))))
      replace ab := zC ab fu
      refine zO 0 ab rfl (zQ ?_)
      refine ⟨rfl, ip 4 rfl (Value.agg #[(S f), (I6 r.1), (I6 ((toldC (LineV.fs r) 70).2.2.2))]) (yC 5 zk (yO 5 rfl ?_ rfl))⟩
      refine zN [(S f), (I6 r.1), (I6 ((toldC (LineV.fs r) 70).2.2.2))] 75 ?_
      intro gj km ha
      replace hb := ((hb.tr bx.below).trans (b4.below dw)).tr fu
      have dr := ha.ge hb.size
      refine zQ ?_
      refine ⟨rfl, ip 6 rfl (.iface 73 (pt gj 0)) (ip 8 rfl (.iface 73 (pt gj 0)) (yJ zk (zB (zR (zL (zG (zG (zL (zG (wN (ds := []) c2 (vL [.tmp 4, .tmp 5] [(.pointer none), (.iface 73 (pt gj 0))] rfl ⟨zk, zk, trivial⟩ ?_)))))))))))⟩
      exfalso; first | exact xS hok (cb_data1 i3 za za za) (by first | assumption | decide) | exact xS hok (cb_data2 i3 za za za za) (by first | assumption | decide) | exact xS hok (cb_data3 i3 za za za za za) (by first | assumption | decide) | exact xS hok (cb_order i3 za za) (by first | assumption | decide) | exact xS hok (cb_miss i3 za za za) (by first | assumption | decide)
     intro h0
     exact absurd h0 hw
    intro kg
    refine nQ (zF (zK (zB (yA (yA (W_pre 7 9 2 zk zk zk zk zk zk zk (zV (yB (pt ad 0) zf (yB (pt ad 1) zf (yD ad 1 (pt bi 0) zk zf (yI o rfl) (wO he 0 [(I3 ((toldC (LineV.fs r) 70).1)), (I3 ((toldC (LineV.fs r) 70).2.1))] zk zf zf (qA aj 0 zk) (yB (pt gz 0) zf (yD gz 0 (I6 r.1) zk zf (yI b9 rfl) (yQ ?_))))))))))))))
    intro ki cj
    refine yC 7 zk (yO 7 rfl ?_ rfl)
    replace hb := ((hb.tr bx.below).trans (b4.below dw)).tr cj
    replace q := zC q cj
    replace d := d.below cj
    refine zc (c_put_I bi ao lm ((toldC (LineV.fs r) 70).1) ((toldC (LineV.fs r) 70).2.1) r.1 w.heap.size _ hb.size q c5 d (by exact ol.rise) zo zo) ?_
    rintro _ jr ⟨h4, rfl, gv, ct, jl, cq⟩
    replace hb := cq.below hb hb.size (fun k e => e.elim (fun x => x ▸ c5) (fun x => (World.ownsRow.lt d k x).1))
    replace p := zC p cj
    replace p := yP p cq (zU p q zi) (d.ne p zi)
    replace n := zC n cj
    replace n := yP n cq (zU n q zi) (d.ne n zi)
    replace o := zC o cj
    replace o := yP o cq (zU o q zi) (d.ne o zi)
    replace u := zC u cj
    replace u := yP u cq (zU u q zi) (d.ne u zi)
    replace ab := zC ab cj
    replace ab := yP ab cq (zU ab q zi) (d.ne ab zi)
    replace aj := zC aj cj
    replace aj := yP aj cq (zU aj q zi) (d.ne aj zi)
    replace z := z.below cj
    replace z := NRow.ch_mut z cq (z.ne q zi) (z.apart d zk)
    replace t := t.below cj
    replace t := t.ch_mut cq (t.ne q zi) (t.apart d zk)
    replace b := b.below cj
    replace b := b.ch_mut cq (b.ne q zi) (b.apart d zk)
    replace a := a.below cj
    replace a := a.ch_mut cq (a.ne q zi) (a.apart d zk)
    replace q := gv
    refine zQ ?_
    refine ⟨rfl, ip 8 rfl (I6 (putE lm ((toldC (LineV.fs r) 70).1) ((toldC (LineV.fs r) 70).2.1))) (yJ zk (zB (wR (zD (zNe .i64 (putE lm ((toldC (LineV.fs r) 70).1) ((toldC (LineV.fs r) 70).2.1)) 0 ?_ ?_)))))⟩
    ·intro hr
     refine nQ (zT (wR (zD (zH (nQ (zR (zG (zZ [(I6 (putE lm ((toldC (LineV.fs r) 70).1) ((toldC (LineV.fs r) 70).2.1)))] ?_))))))))
     show L _ _ _ _ _ _ (Fm.put _ _ (I6 (putE lm ((toldC (LineV.fs r) 70).1) ((toldC (LineV.fs r) 70).2.1)))) _
     refine zQ ?_
     refine ⟨rfl, ip 7 rfl (I6 (putE lm ((toldC (LineV.fs r) 70).1) ((toldC (LineV.fs r) 70).2.1))) (yJ zk (zB (wR (zD (zNe .i64 (putE lm ((toldC (LineV.fs r) 70).1) ((toldC (LineV.fs r) 70).2.1)) 0 ?_ ?_)))))⟩
     ·intro ke
      refine nQ (zT (yA (wD 9 zk zk zk ?_)))
      intro kd fq
      refine ip 0 rfl (S f) (ip 1 rfl (pt c9 0) (ip 3 rfl (I6 (putE lm ((toldC (LineV.fs r) 70).1) ((toldC (LineV.fs r) 70).2.1))) (ip 7 rfl (.pointer none) (yC 2 zk (yO 2 rfl ?_ rfl)))))
      replace ab := zC ab fq
      refine zO 0 ab rfl (zQ ?_)
      refine ⟨rfl, ip 4 rfl (Value.agg #[(S f), (I6 r.1), (I6 (putE lm ((toldC (LineV.fs r) 70).1) ((toldC (LineV.fs r) 70).2.1)))]) (yC 5 zk (yO 5 rfl ?_ rfl))⟩
      refine zN [(S f), (I6 r.1), (I6 (putE lm ((toldC (LineV.fs r) 70).1) ((toldC (LineV.fs r) 70).2.1)))] 75 ?_
      intro f0 kj gm
      replace hb := hb.tr fq
      have dr := gm.ge hb.size
      refine zQ ?_
      refine ⟨rfl, ip 6 rfl (.iface 73 (pt f0 0)) (ip 8 rfl (.iface 73 (pt f0 0)) (yJ zk (zB (zR (zL (zG (zG (zL (zG (wN (ds := []) c2 (vL [.tmp 4, .tmp 5] [(.pointer none), (.iface 73 (pt f0 0))] rfl ⟨zk, zk, trivial⟩ ?_)))))))))))⟩
      exfalso; first | exact xS hok (cb_data1 i3 za za za) (by first | assumption | decide) | exact xS hok (cb_data2 i3 za za za za) (by first | assumption | decide) | exact xS hok (cb_data3 i3 za za za za za) (by first | assumption | decide) | exact xS hok (cb_order i3 za za) (by first | assumption | decide) | exact xS hok (cb_miss i3 za za za) (by first | assumption | decide)
     intro hv
     exact absurd hv hr
    intro jz
    refine nQ (zF (zK (zB (yA (W_pre 6 8 2 zk zk zk zk zk zk zk (zV (yB (pt ad 0) zf (yB (pt ad 0) zf (yD ad 0 (pt a3 0) zk zf (yI o rfl) (wO he 0 [(I3 ((toldC (LineV.fs r) 70).1)), (I3 ((toldC (LineV.fs r) 70).2.1))] zk zf zf (qA aj 0 zk) (zV (yQ ?_))))))))))))
    intro kh bt
    refine yC 6 zk (yO 6 rfl ?_ rfl)
    replace hb := hb.tr bt
    replace p := zC p bt
    replace b := b.below bt
    refine zc (c_put_C a3 af am ((toldC (LineV.fs r) 70).1) ((toldC (LineV.fs r) 70).2.1) ((toldC (LineV.fs r) 70).2.2.1) w.heap.size _ hb.size p c7 b (by exact oa.rise) zo zo) ?_
    rintro _ jf ⟨hh, rfl, gd, fh, hx, cg⟩
    replace hb := cg.below hb hb.size (fun k e => e.elim (fun x => x ▸ c7) (fun x => (World.ownsRow.lt b k x).1))
    replace q := zC q bt
    replace q := yP q cg (zU q p zi) (b.ne q zi)
    replace n := zC n bt
    replace n := yP n cg dl (b.ne n zi)
    replace o := zC o bt
    replace o := yP o cg (zU o p zi) (b.ne o zi)
    replace u := zC u bt
    replace u := yP u cg (zU u p zi) (b.ne u zi)
    replace ab := zC ab bt
    replace ab := yP ab cg (zU ab p zi) (b.ne ab zi)
    replace z := z.below bt
    replace z := NRow.ch_mut z cg (z.ne p zi) (z.apart b zk)
    replace t := t.below bt
    replace t := t.ch_mut cg (t.ne p zi) (t.apart b zk)
    replace a := a.below bt
    replace a := a.ch_mut cg (a.ne p zi) (a.apart b zk)
    replace ct := ct.below bt
    replace ct := ct.ch_mut cg (ct.ne p zi) (ct.apart b zk)
    replace p := gd
    refine zQ ?_
    refine ⟨rfl, ip 7 rfl (I6 (putE am ((toldC (LineV.fs r) 70).1) ((toldC (LineV.fs r) 70).2.1))) (yJ zk (zB (zR (zZ [(I6 (putE am ((toldC (LineV.fs r) 70).1) ((toldC (LineV.fs r) 70).2.1)))] ?_))))⟩
    show L _ _ _ _ _ _ (Fm.put _ _ (I6 (putE am ((toldC (LineV.fs r) 70).1) ((toldC (LineV.fs r) 70).2.1)))) _
    refine zQ ?_
    refine ⟨rfl, ip 7 rfl (I6 (putE am ((toldC (LineV.fs r) 70).1) ((toldC (LineV.fs r) 70).2.1))) (yJ zk (zB (wR (zD (zNe .i64 (putE am ((toldC (LineV.fs r) 70).1) ((toldC (LineV.fs r) 70).2.1)) 0 ?_ ?_)))))⟩
    ·intro i0
     refine nQ (zT (yA (wD 9 zk zk zk ?_)))
     intro i2 ez
     refine ip 0 rfl (S f) (ip 1 rfl (pt c9 0) (ip 3 rfl (I6 (putE am ((toldC (LineV.fs r) 70).1) ((toldC (LineV.fs r) 70).2.1))) (ip 7 rfl (.pointer none) (yC 2 zk (yO 2 rfl ?_ rfl)))))
     replace ab := zC ab ez
     refine zO 0 ab rfl (zQ ?_)
     refine ⟨rfl, ip 4 rfl (Value.agg #[(S f), (I6 r.1), (I6 (putE am ((toldC (LineV.fs r) 70).1) ((toldC (LineV.fs r) 70).2.1)))]) (yC 5 zk (yO 5 rfl ?_ rfl))⟩
     refine zN [(S f), (I6 r.1), (I6 (putE am ((toldC (LineV.fs r) 70).1) ((toldC (LineV.fs r) 70).2.1)))] 75 ?_
     intro el ih gg
     replace hb := hb.tr ez
     have dr := gg.ge hb.size
     refine zQ ?_
     refine ⟨rfl, ip 6 rfl (.iface 73 (pt el 0)) (ip 8 rfl (.iface 73 (pt el 0)) (yJ zk (zB (zR (zL (zG (zG (zL (zG (wN (ds := []) c2 (vL [.tmp 4, .tmp 5] [(.pointer none), (.iface 73 (pt el 0))] rfl ⟨zk, zk, trivial⟩ ?_)))))))))))⟩
     exfalso; first | exact xS hok (cb_data1 i3 za za za) (by first | assumption | decide) | exact xS hok (cb_data2 i3 za za za za) (by first | assumption | decide) | exact xS hok (cb_data3 i3 za za za za za) (by first | assumption | decide) | exact xS hok (cb_order i3 za za) (by first | assumption | decide) | exact xS hok (cb_miss i3 za za za) (by first | assumption | decide)
    intro jn
    refine nQ (zF (zK (zJ (zB (zP (xN i 1 (zD (zQ (zB ⟨_, zo, (i + 1), (putF eqC am ((toldC (LineV.fs r) 70).1) ((toldC (LineV.fs r) 70).2.1) ((toldC (LineV.fs r) 70).2.2.1)), (putF eqI lm ((toldC (LineV.fs r) 70).1) ((toldC (LineV.fs r) 70).2.1) r.1), mm, hh, h4, ag, rfl, c2, zk, z, t, fh, ct, a, p, q, n, o, u, hb, zo, ?_, ?_, ?_, zo, ?_⟩)))))))))
    ·exact invC_on i3 za (st_data za za za za)
    ·exact oa.put wQ _ _ _
    ·exact ol.put wQ _ _ _
    first | exact om | exact uS om _ _ _
   ·subst de
    have f6 : r.2.1 = 2 := by omega
    refine yD en (df + r.2.1.toNat * 1) (.func (.func 32) #[(pt ad 0)] #[]) zk zf (d7 0 _ rfl) (wO c9 0 [(I6 r.1), (U8 r.2.1), (S r.2.2.1), (LineV.v r), (S r.2.2.2.2)] zk zf zf (qA ab 0 zk) (yQ ?_))
    intro jb d3
    refine yC 6 zk (yO 6 rfl ?_ rfl)
    refine vQ 32 [(pt ad 0), (Value.agg #[(I6 r.1), (U8 r.2.1), (S r.2.2.1), (LineV.v r), (S r.2.2.2.2)])] zk zk (wJ 5 func32 rfl (wR (zN [(I6 r.1), (U8 r.2.1), (S r.2.2.1), (LineV.v r), (S r.2.2.2.2)] 72 ?_)))
    intro jp iw dq
    replace hb := ((hb.tr a9.below).trans (bm.below dt)).tr d3
    have g5 := dq.ge hb.size
    replace z := ((z.below a9.below).wrote bm bk).below d3
    have ee := z.new_ne dq
    refine zH (nR (zH (nQ (zR (zZ [(I6 33)] ?_)))))
    show L _ _ _ _ _ _ (Fm.put _ _ (I6 33)) _
    refine zQ ?_
    refine ⟨rfl, ip 7 rfl (I6 33) (yJ zk (zB (wR (zD (zr (.bool true) (nQ (zT (yA (wD 9 zk zk zk ?_)))))))))⟩
    intro ik et
    refine ip 0 rfl (S f) (ip 1 rfl (pt c9 0) (ip 3 rfl (I6 33) (ip 7 rfl (.pointer none) (yC 2 zk (yO 2 rfl ?_ rfl)))))
    replace ab := zC (zC (zC ab d3) dq.below) et
    refine zO 0 ab rfl (zQ ?_)
    refine ⟨rfl, ip 4 rfl (Value.agg #[(S f), (I6 r.1), (I6 33)]) (yC 5 zk (yO 5 rfl ?_ rfl))⟩
    refine zN [(S f), (I6 r.1), (I6 33)] 75 ?_
    intro es h6 f7
    replace hb := (hb.tr dq.below).tr et
    have dr := f7.ge hb.size
    refine zQ ?_
    refine ⟨rfl, ip 6 rfl (.iface 73 (pt es 0)) (ip 8 rfl (.iface 73 (pt es 0)) (yJ zk (zB (zR (zL (zG (zG (zL (zG (wN (ds := []) c2 (vL [.tmp 4, .tmp 5] [(.pointer none), (.iface 73 (pt es 0))] rfl ⟨zk, zk, trivial⟩ ?_)))))))))))⟩
    exfalso; first | exact xS hok (cb_data1 i3 za za za) (by first | assumption | decide) | exact xS hok (cb_data2 i3 za za za za) (by first | assumption | decide) | exact xS hok (cb_data3 i3 za za za za za) (by first | assumption | decide) | exact xS hok (cb_order i3 za za) (by first | assumption | decide) | exact xS hok (cb_miss i3 za za za) (by first | assumption | decide)
   subst de
   have f6 : r.2.1 = 3 := by omega
   refine yD en (df + r.2.1.toNat * 1) (.func (.func 33) #[(pt ad 0)] #[]) zk zf (d7 0 _ rfl) (wO c9 0 [(I6 r.1), (U8 r.2.1), (S r.2.2.1), (LineV.v r), (S r.2.2.2.2)] zk zf zf (qA ab 0 zk) (yQ ?_))
   intro je bo
   refine yC 6 zk (yO 6 rfl ?_ rfl)
   refine vQ 33 [(pt ad 0), (Value.agg #[(I6 r.1), (U8 r.2.1), (S r.2.2.1), (LineV.v r), (S r.2.2.2.2)])] zk zk (wJ 29 func33 rfl (wR (zN [(I6 r.1), (U8 r.2.1), (S r.2.2.1), (LineV.v r), (S r.2.2.2.2)] 72 ?_)))
   intro iv ja a4
   replace hb := ((hb.tr a9.below).trans (bm.below dt)).tr bo
   have g7 := a4.ge hb.size
   replace z := ((z.below a9.below).wrote bm bk).below bo
   have ei := z.new_ne a4
   have e6 := a4.here
   replace hb := hb.tr a4.below
   replace ba := (ba.below bo).below a4.below
   refine zH (nR (vT e6 (zc (Zo r.1 r.2.1 r.2.2.1 (LineV.v r) (LineV.fs r) r.2.2.2.2 71 _ ba.rd (wE hml hb) (by exact (by assumption : _ ∧ _ ∧ _).1) (by exact (by assumption : _ ∧ _ ∧ _).2.2)) ?_)))
   rintro _ ie ⟨rfl, bu⟩
   have := tc_rng (LineV.fs r) 71
   refine zD (zr (Value.agg #[(I3 ((toldC (LineV.fs r) 71).1)), (I3 ((toldC (LineV.fs r) 71).2.1))]) (zr (U8 ((toldC (LineV.fs r) 71).2.2.1)) (zr (I6 ((toldC (LineV.fs r) 71).2.2.2)) (zN [(I3 0), (I3 0)] 32 ?_))))
   intro iz iu az
   replace hb := hb.tr bu
   have c3 := az.ge hb.size
   have al := az.here
   refine qQ [(I3 ((toldC (LineV.fs r) 71).1)), (I3 ((toldC (LineV.fs r) 71).2.1))] al ?_
   intro jh a7
   replace p := zC (zC (zC (zC p bo) a4.below) bu) az.below
   replace p := zI p a7 (zU p al zi)
   replace q := zC (zC (zC (zC q bo) a4.below) bu) az.below
   replace q := zI q a7 (zU q al zi)
   replace n := zC (zC (zC (zC n bo) a4.below) bu) az.below
   replace n := zI n a7 (zU n al zi)
   replace o := zC (zC (zC (zC o bo) a4.below) bu) az.below
   replace o := zI o a7 (zU o al zi)
   replace u := zC (zC (zC (zC u bo) a4.below) bu) az.below
   replace u := zI u a7 (zU u al zi)
   replace ab := zC (zC (zC (zC ab bo) a4.below) bu) az.below
   replace ab := zI ab a7 (zU ab al zi)
   replace z := ((z.below a4.below).below bu).below az.below
   replace z := z.wrote a7 (z.ne al zi)
   replace t := (((t.below bo).below a4.below).below bu).below az.below
   replace t := t.wrote a7 (t.ne al zi)
   replace b := (((b.below bo).below a4.below).below bu).below az.below
   replace b := b.wrote a7 (b.ne al zi)
   replace d := (((d.below bo).below a4.below).below bu).below az.below
   replace d := d.wrote a7 (d.ne al zi)
   replace a := (((a.below bo).below a4.below).below bu).below az.below
   replace a := a.wrote a7 (a.ne al zi)
   replace al := a7.here
   refine zH (zH (nW (wR (zD (zNe .i64 ((toldC (LineV.fs r) 71).2.2.2) 0 ?_ ?_)))))
   ·intro gs
    refine nQ (zT (wR (zD (zH (nQ (zR (zG (zZ [(I6 ((toldC (LineV.fs r) 71).2.2.2))] ?_))))))))
    show L _ _ _ _ _ _ (Fm.put _ _ (I6 ((toldC (LineV.fs r) 71).2.2.2))) _
    refine zQ ?_
    refine ⟨rfl, ip 7 rfl (I6 ((toldC (LineV.fs r) 71).2.2.2)) (yJ zk (zB (wR (zD (zNe .i64 ((toldC (LineV.fs r) 71).2.2.2) 0 ?_ ?_)))))⟩
    ·intro jd
     refine nQ (zT (yA (wD 9 zk zk zk ?_)))
     intro ij e8
     refine ip 0 rfl (S f) (ip 1 rfl (pt c9 0) (ip 3 rfl (I6 ((toldC (LineV.fs r) 71).2.2.2)) (ip 7 rfl (.pointer none) (yC 2 zk (yO 2 rfl ?_ rfl)))))
     replace ab := zC ab e8
     refine zO 0 ab rfl (zQ ?_)
     refine ⟨rfl, ip 4 rfl (Value.agg #[(S f), (I6 r.1), (I6 ((toldC (LineV.fs r) 71).2.2.2))]) (yC 5 zk (yO 5 rfl ?_ rfl))⟩
     refine zN [(S f), (I6 r.1), (I6 ((toldC (LineV.fs r) 71).2.2.2))] 75 ?_
     intro e5 jk gc
     replace hb := ((hb.tr az.below).trans (a7.below c3)).tr e8
     have dr := gc.ge hb.size
     refine zQ ?_
     refine ⟨rfl, ip 6 rfl (.iface 73 (pt e5 0)) (ip 8 rfl (.iface 73 (pt e5 0)) (yJ zk (zB (zR (zL (zG (zG (zL (zG (wN (ds := []) c2 (vL [.tmp 4, .tmp 5] [(.pointer none), (.iface 73 (pt e5 0))] rfl ⟨zk, zk, trivial⟩ ?_)))))))))))⟩
     exfalso; first | exact xS hok (cb_data1 i3 za za za) (by first | assumption | decide) | exact xS hok (cb_data2 i3 za za za za) (by first | assumption | decide) | exact xS hok (cb_data3 i3 za za za za za) (by first | assumption | decide) | exact xS hok (cb_order i3 za za) (by first | assumption | decide) | exact xS hok (cb_miss i3 za za za) (by first | assumption | decide)
    intro g9
    exact absurd g9 gs
   intro ia
   refine nQ (zF (zK (zB (yA (wD 13 zk zk zk ?_)))))
   intro ib ai
   refine ip 0 rfl (pt ad 0) (ip 1 rfl (pt ad 0) (ip 2 rfl (pt ad 0) (ip 3 rfl (pt ad 2) (ip 6 rfl (U8 ((toldC (LineV.fs r) 71).2.2.1)) (qD 4 5 zk ?_ ?_)))))
   ·skip
    refine yO 4 rfl ?_ rfl
    replace o := zC o ai
    refine zO 2 o rfl (zQ ?_)
    refine ⟨rfl, yC 5 zk (yO 5 rfl ?_ rfl)⟩
    replace al := zC al ai
    refine vT al (zQ ?_)
    refine ⟨rfl, ip 7 rfl (Value.agg #[(I3 ((toldC (LineV.fs r) 71).1)), (I3 ((toldC (LineV.fs r) 71).2.1)), (U8 ((toldC (LineV.fs r) 71).2.2.1))]) (yC 8 zk (yO 8 rfl ?_ rfl))⟩
    refine zM 1 [(I3 ((toldC (LineV.fs r) 71).1)), (I3 ((toldC (LineV.fs r) 71).2.1)), (U8 ((toldC (LineV.fs r) 71).2.2.1))] 45 ?_
    intro ey gw bl
    replace hb := ((hb.tr az.below).trans (a7.below c3)).tr ai
    have fk := bl.ge hb.size
    replace a := a.below ai
    have cu : Value.ownBlock ag = none ∨ Value.ownBlock ag ≠ Value.ownBlock (.slice (some ⟨ey, 0, none⟩) 1 1) := .inr (a.new_ne bl)
    have cy := yW cu
    have ed : Row gw w.heap.size 45 3 encSpanC (.slice (some ⟨ey, 0, none⟩) 1 1) ([((toldC (LineV.fs r) 71).1, (toldC (LineV.fs r) 71).2.1, (toldC (LineV.fs r) 71).2.2.1)] : List (Int × Int × Int)) := Row.made ([((toldC (LineV.fs r) 71).1, (toldC (LineV.fs r) 71).2.1, (toldC (LineV.fs r) 71).2.2.1)] : List (Int × Int × Int)) bl fk rfl rfl (by first | decide | (simp; done))
    refine zQ ?_
    refine ⟨rfl, yC 9 zk (yO 9 rfl ?_ rfl)⟩
    replace hb := hb.tr bl.below
    replace a := a.below bl.below
    refine xM el42 w.heap.size ag (.slice (some ⟨ey, 0, none⟩) 1 1) mm ([((toldC (LineV.fs r) 71).1, (toldC (LineV.fs r) 71).2.1, (toldC (LineV.fs r) 71).2.2.1)] : List (Int × Int × Int)) hb.size a ed.rd (by (simp only [List.length_append, List.length_cons, List.length_nil] <;> omega)) zj zj zk zk zk ?_
    intro e7 i5 gf cf fn 
    have fp := xD ed fn cy
    replace hb := hb.tg hb.size cf a
    replace p := zC (zC p ai) bl.below
    replace p := zY p cf (a.ne p zi)
    replace q := zC (zC q ai) bl.below
    replace q := zY q cf (a.ne q zi)
    replace n := zC (zC n ai) bl.below
    replace n := zY n cf (a.ne n zi)
    replace o := zC o bl.below
    replace o := zY o cf (a.ne o zi)
    replace u := zC (zC u ai) bl.below
    replace u := zY u cf (a.ne u zi)
    replace z := (z.below ai).below bl.below
    replace z := z.grown cf (z.apart a zk)
    replace t := (t.below ai).below bl.below
    replace t := t.grown cf (t.apart a zk)
    replace b := (b.below ai).below bl.below
    replace b := b.grown cf (b.apart a zk)
    replace d := (d.below ai).below bl.below
    replace d := d.grown cf (d.apart a zk)
    replace a := gf
    refine zQ ?_
    refine ⟨rfl, ip 10 rfl (pt ad 0) (ip 11 rfl (pt ad 2) (yC 12 zk (yO 12 rfl ?_ rfl)))⟩
    refine xC ad 2 e7 [(pt a3 0), (pt bi 0), ag, (pt ay 0)] [(pt a3 0), (pt bi 0), e7, (pt ay 0)] 66 zk zk a.one zk o zi rfl ?_
    intro il b5
    replace p := zI p b5 (zU p o zi)
    replace q := zI q b5 (zU q o zi)
    replace n := zI n b5 (zU n o zi)
    replace u := zI u b5 (zU u o zi)
    replace z := z.wrote b5 (z.ne o zi)
    replace t := t.wrote b5 (t.ne o zi)
    replace b := b.wrote b5 (b.ne o zi)
    replace d := d.wrote b5 (d.ne o zi)
    replace a := a.wrote b5 (a.ne o zi)
    replace o := b5.here
    refine zQ ?_
    refine ⟨rfl, yJ zk (zB (wR (zH (nQ (zR (zZ [(I6 0)] ?_))))))⟩
    show L _ _ _ _ _ _ (Fm.put _ _ (I6 0)) _
    refine zQ ?_
    refine ⟨rfl, ip 7 rfl (I6 0) (yJ zk (zB (wR (zD (zr (.bool false) (nQ (zF (zK (zJ (zB (zP (xN i 1 (zD (zQ ?_))))))))))))))⟩
    replace hb := hb.trans (b5.below dp)
    refine zB ⟨_, zo, (i + 1), am, lm, (mm ++ ([((toldC (LineV.fs r) 71).1, (toldC (LineV.fs r) 71).2.1, (toldC (LineV.fs r) 71).2.2.1)] : List (Int × Int × Int))), af, ao, e7, rfl, c2, zk, z, t, b, d, a, p, q, n, o, u, hb, zo, ?_, ?_, ?_, ?_, ?_⟩
    ·exact invC_on i3 za (st_miss za za)
    ·exact oa
    ·exact ol
    ·(simp only [List.length_append, List.length_cons, List.length_nil]; omega)
    first | exact om | exact uS om _ _ _
   skip
   refine yO 5 rfl ?_ rfl
   replace al := zC al ai
   refine vT al (zQ ?_)
   refine ⟨rfl, ip 7 rfl (Value.agg #[(I3 ((toldC (LineV.fs r) 71).1)), (I3 ((toldC (LineV.fs r) 71).2.1)), (U8 ((toldC (LineV.fs r) 71).2.2.1))]) (qD 4 8 zk ?_ ?_)⟩
   ·skip
    refine yO 4 rfl ?_ rfl
    replace o := zC o ai
    refine zO 2 o rfl (zQ ?_)
    refine ⟨rfl, yC 8 zk (yO 8 rfl ?_ rfl)⟩
    refine zM 1 [(I3 ((toldC (LineV.fs r) 71).1)), (I3 ((toldC (LineV.fs r) 71).2.1)), (U8 ((toldC (LineV.fs r) 71).2.2.1))] 45 ?_
    intro ew g6 bh
    replace hb := ((hb.tr az.below).trans (a7.below c3)).tr ai
    have ff := bh.ge hb.size
    replace a := a.below ai
    have c0 : Value.ownBlock ag = none ∨ Value.ownBlock ag ≠ Value.ownBlock (.slice (some ⟨ew, 0, none⟩) 1 1) := .inr (a.new_ne bh)
    have cv := yW c0
    have eb : Row g6 w.heap.size 45 3 encSpanC (.slice (some ⟨ew, 0, none⟩) 1 1) ([((toldC (LineV.fs r) 71).1, (toldC (LineV.fs r) 71).2.1, (toldC (LineV.fs r) 71).2.2.1)] : List (Int × Int × Int)) := Row.made ([((toldC (LineV.fs r) 71).1, (toldC (LineV.fs r) 71).2.1, (toldC (LineV.fs r) 71).2.2.1)] : List (Int × Int × Int)) bh ff rfl rfl (by first | decide | (simp; done))
    refine zQ ?_
    refine ⟨rfl, yC 9 zk (yO 9 rfl ?_ rfl)⟩
    replace hb := hb.tr bh.below
    replace a := a.below bh.below
    refine xM el42 w.heap.size ag (.slice (some ⟨ew, 0, none⟩) 1 1) mm ([((toldC (LineV.fs r) 71).1, (toldC (LineV.fs r) 71).2.1, (toldC (LineV.fs r) 71).2.2.1)] : List (Int × Int × Int)) hb.size a eb.rd (by (simp only [List.length_append, List.length_cons, List.length_nil] <;> omega)) zj zj zk zk zk ?_
    intro em jg f2 cc fd 
    have fo := xD eb fd cv
    replace hb := hb.tg hb.size cc a
    replace p := zC (zC p ai) bh.below
    replace p := zY p cc (a.ne p zi)
    replace q := zC (zC q ai) bh.below
    replace q := zY q cc (a.ne q zi)
    replace n := zC (zC n ai) bh.below
    replace n := zY n cc (a.ne n zi)
    replace o := zC o bh.below
    replace o := zY o cc (a.ne o zi)
    replace u := zC (zC u ai) bh.below
    replace u := zY u cc (a.ne u zi)
    replace z := (z.below ai).below bh.below
    replace z := z.grown cc (z.apart a zk)
    replace t := (t.below ai).below bh.below
    replace t := t.grown cc (t.apart a zk)
    replace b := (b.below ai).below bh.below
    replace b := b.grown cc (b.apart a zk)
    replace d := (d.below ai).below bh.below
    replace d := d.grown cc (d.apart a zk)
    replace a := f2
    refine zQ ?_
    refine ⟨rfl, ip 10 rfl (pt ad 0) (ip 11 rfl (pt ad 2) (yC 12 zk (yO 12 rfl ?_ rfl)))⟩
    refine xC ad 2 em [(pt a3 0), (pt bi 0), ag, (pt ay 0)] [(pt a3 0), (pt bi 0), em, (pt ay 0)] 66 zk zk a.one zk o zi rfl ?_
    intro ir b8
    replace p := zI p b8 (zU p o zi)
    replace q := zI q b8 (zU q o zi)
    replace n := zI n b8 (zU n o zi)
    replace u := zI u b8 (zU u o zi)
    replace z := z.wrote b8 (z.ne o zi)
    replace t := t.wrote b8 (t.ne o zi)
    replace b := b.wrote b8 (b.ne o zi)
    replace d := d.wrote b8 (d.ne o zi)
    replace a := a.wrote b8 (a.ne o zi)
    replace o := b8.here
    refine zQ ?_
    refine ⟨rfl, yJ zk (zB (wR (zH (nQ (zR (zZ [(I6 0)] ?_))))))⟩
    show L _ _ _ _ _ _ (Fm.put _ _ (I6 0)) _
    refine zQ ?_
    refine ⟨rfl, ip 7 rfl (I6 0) (yJ zk (zB (wR (zD (zr (.bool false) (nQ (zF (zK (zJ (zB (zP (xN i 1 (zD (zQ ?_))))))))))))))⟩
    replace hb := hb.trans (b8.below dp)
    refine zB ⟨_, zo, (i + 1), am, lm, (mm ++ ([((toldC (LineV.fs r) 71).1, (toldC (LineV.fs r) 71).2.1, (toldC (LineV.fs r) 71).2.2.1)] : List (Int × Int × Int))), af, ao, em, rfl, c2, zk, z, t, b, d, a, p, q, n, o, u, hb, zo, ?_, ?_, ?_, ?_, ?_⟩
    ·exact invC_on i3 za (st_miss za za)
    ·exact oa
    ·exact ol
    ·(simp only [List.length_append, List.length_cons, List.length_nil]; omega)
    first | exact om | exact uS om _ _ _
   skip
   refine yO 8 rfl ?_ rfl
   refine zM 1 [(I3 ((toldC (LineV.fs r) 71).1)), (I3 ((toldC (LineV.fs r) 71).2.1)), (U8 ((toldC (LineV.fs r) 71).2.2.1))] 45 ?_
   intro e4 g1 bj
   replace hb := ((hb.tr az.below).trans (a7.below c3)).tr ai
   have fm := bj.ge hb.size
   replace a := a.below ai
   have cz : Value.ownBlock ag = none ∨ Value.ownBlock ag ≠ Value.ownBlock (.slice (some ⟨e4, 0, none⟩) 1 1) := .inr (a.new_ne bj)
   have cw := yW cz
   have d8 : Row g1 w.heap.size 45 3 encSpanC (.slice (some ⟨e4, 0, none⟩) 1 1) ([((toldC (LineV.fs r) 71).1, (toldC (LineV.fs r) 71).2.1, (toldC (LineV.fs r) 71).2.2.1)] : List (Int × Int × Int)) := Row.made ([((toldC (LineV.fs r) 71).1, (toldC (LineV.fs r) 71).2.1, (toldC (LineV.fs r) 71).2.2.1)] : List (Int × Int × Int)) bj fm rfl rfl (by first | decide | (simp; done))
   refine zQ ?_
   refine ⟨rfl, yC 4 zk (yO 4 rfl ?_ rfl)⟩
   replace o := zC (zC o ai) bj.below
   refine zO 2 o rfl (zQ ?_)
   refine ⟨rfl, yC 9 zk (yO 9 rfl ?_ rfl)⟩
   replace hb := hb.tr bj.below
   replace a := a.below bj.below
   refine xM el42 w.heap.size ag (.slice (some ⟨e4, 0, none⟩) 1 1) mm ([((toldC (LineV.fs r) 71).1, (toldC (LineV.fs r) 71).2.1, (toldC (LineV.fs r) 71).2.2.1)] : List (Int × Int × Int)) hb.size a d8.rd (by (simp only [List.length_append, List.length_cons, List.length_nil] <;> omega)) zj zj zk zk zk ?_
   intro eo ic f8 cd fc 
   have fw := xD d8 fc cw
   replace hb := hb.tg hb.size cd a
   replace p := zC (zC p ai) bj.below
   replace p := zY p cd (a.ne p zi)
   replace q := zC (zC q ai) bj.below
   replace q := zY q cd (a.ne q zi)
   replace n := zC (zC n ai) bj.below
   replace n := zY n cd (a.ne n zi)
   replace o := zY o cd (a.ne o zi)
   replace u := zC (zC u ai) bj.below
   replace u := zY u cd (a.ne u zi)
   replace z := (z.below ai).below bj.below
   replace z := z.grown cd (z.apart a zk)
   replace t := (t.below ai).below bj.below
   replace t := t.grown cd (t.apart a zk)
   replace b := (b.below ai).below bj.below
   replace b := b.grown cd (b.apart a zk)
   replace d := (d.below ai).below bj.below
   replace d := d.grown cd (d.apart a zk)
   replace a := f8
   refine zQ ?_
   refine ⟨rfl, ip 10 rfl (pt ad 0) (ip 11 rfl (pt ad 2) (yC 12 zk (yO 12 rfl ?_ rfl)))⟩
   refine xC ad 2 eo [(pt a3 0), (pt bi 0), ag, (pt ay 0)] [(pt a3 0), (pt bi 0), eo, (pt ay 0)] 66 zk zk a.one zk o zi rfl ?_
   intro i6 b6
   replace p := zI p b6 (zU p o zi)
   replace q := zI q b6 (zU q o zi)
   replace n := zI n b6 (zU n o zi)
   replace u := zI u b6 (zU u o zi)
   replace z := z.wrote b6 (z.ne o zi)
   replace t := t.wrote b6 (t.ne o zi)
   replace b := b.wrote b6 (b.ne o zi)
   replace d := d.wrote b6 (d.ne o zi)
   replace a := a.wrote b6 (a.ne o zi)
   replace o := b6.here
   refine zQ ?_
   refine ⟨rfl, yJ zk (zB (wR (zH (nQ (zR (zZ [(I6 0)] ?_))))))⟩
   show L _ _ _ _ _ _ (Fm.put _ _ (I6 0)) _
   refine zQ ?_
   refine ⟨rfl, ip 7 rfl (I6 0) (yJ zk (zB (wR (zD (zr (.bool false) (nQ (zF (zK (zJ (zB (zP (xN i 1 (zD (zQ ?_))))))))))))))⟩
   replace hb := hb.trans (b6.below dp)
   refine zB ⟨_, zo, (i + 1), am, lm, (mm ++ ([((toldC (LineV.fs r) 71).1, (toldC (LineV.fs r) 71).2.1, (toldC (LineV.fs r) 71).2.2.1)] : List (Int × Int × Int))), af, ao, eo, rfl, c2, zk, z, t, b, d, a, p, q, n, o, u, hb, zo, ?_, ?_, ?_, ?_, ?_⟩
   ·exact invC_on i3 za (st_miss za za)
   ·exact oa
   ·exact ol
   ·(simp only [List.length_append, List.length_cons, List.length_nil]; omega)
   first | exact om | exact uS om _ _ _
  intro jj
  refine nW (zF (yU (zS (zS (yF (zB (wR (zO 0 u rfl (zr (pt ad 0) (wB 3 o rfl (zr (Value.agg #[(I3 0), (I3 1114111)]) (zc (c_lay_C ay (.slice none 0 0) [] 0 1114111 1 w.heap.size _ hb.size n bq (Row.nil _ w.heap.size 126 3 encSpanC) (by exact trivial) zo zo) ?_))))))))))))
  rintro _ id ⟨gp, rfl, gh, fg, f5, ce⟩
  replace hb := ce.below hb hb.size (fun k e => e.elim (fun x => x ▸ bq) (fun x => by simp [Value.ownBlock] at x))
  have bd := yP p ce a8 (by simp [Value.ownBlock])
  have bf := yP q ce (zU q n zi) (by simp [Value.ownBlock])
  have bs := yP o ce (zU o n zi) (by simp [Value.ownBlock])
  have cb := yP u ce (zU u n zi) (by simp [Value.ownBlock])
  have ca := NRow.ch_mut z ce (z.ne n zi) (NAp.none _ _)
  have br := t.ch_mut ce (t.ne n zi) (qI _)
  have bz := ap_mut b f5 (b.ne n zi) (qI _); have d0 := yW bz
  have aq := b.ch_mut ce (b.ne n zi) (qI _)
  have ar := d.ch_mut ce (d.ne n zi) (qI _)
  have ax := a.ch_mut ce (a.ne n zi) (qI _)
  replace p := bd; clear bd
  replace q := bf; clear bf
  replace o := bs; clear bs
  replace u := cb; clear cb
  replace z := ca; clear ca
  replace t := br; clear br
  replace b := aq; clear aq
  replace d := ar; clear ar
  replace a := ax; clear ax
  replace n := gh
  refine nW (wR (zO 0 u rfl (zr (pt ad 0) (wB 2 o rfl (vY underlying42 (a.rd).len (zD (nQ (zW (xA (fun m s0 w0 => ∃ (j : Nat) (wh : List SpI) (ah : Value), (m = mm.length - j) ∧ (s0.ds = []) ∧ ([8, 72, 73, 74].map s0.f = [(pt dn 0), ag, (N6 ((mm).length)), (N6 j)]) ∧ (NRow 9 w0 w.heap.size 72 5 encLine q2 l6) ∧ (Row w0 w.heap.size 67 1 encVal (.slice (some ⟨d2, 0, none⟩) 4 4) ([(.func (.func 30) #[(pt ad 0)] #[]), (.func (.func 31) #[(pt ad 0)] #[]), (.func (.func 32) #[(pt ad 0)] #[]), (.func (.func 33) #[(pt ad 0)] #[])] : List (Value))) ∧ (Row w0 w.heap.size 126 3 encSpanC af am) ∧ (Row w0 w.heap.size 131 3 encSpanI ao lm) ∧ (Row w0 w.heap.size 45 3 encSpanC ag mm) ∧ (Row w0 w.heap.size 126 3 encSpanC ah wh) ∧ (w0.heap[a3]? = some (.cells [af, (.bool true)].toArray 115 (0, 0))) ∧ (w0.heap[bi]? = some (.cells [ao, (.bool true)].toArray 118 (0, 0))) ∧ (w0.heap[ay]? = some (.cells [ah, (.bool true)].toArray 115 (0, 0))) ∧ (w0.heap[ad]? = some (.cells [(pt a3 0), (pt bi 0), ag, (pt ay 0)].toArray 66 (0, 0))) ∧ (w0.heap[dn]? = some (.cells [(pt ad 0)].toArray 23 (0, 0))) ∧ (Value.ownBlock af = none ∨ Value.ownBlock af ≠ Value.ownBlock ah) ∧ (Below w.heap.size w w0) ∧ (j ≤ mm.length) ∧ (wh = layAll eqI (layF eqC [] 0 1114111 1) (mm.take j)) ∧ (MapOk eqI wh)) _ ⟨0, (layF eqC [] 0 1114111 1), gp, rfl, c2, zk, z, t, b, d, a, fg, p, q, n, o, u, bz, hb, (Nat.zero_le _), rfl, (MapOk.nil.lay wQ _ _ _)⟩ ?_)))))))))
  rintro iy h8 jm ⟨j, wh, ah, hm, c2, fy, z, t, b, d, a, aa, p, q, n, o, u, ac, hb, j1, j2, ow⟩
  refine yX fy ?_
  have an := yW ac
  have ht := ow.rise.len
  refine wR (nLt j ((mm).length) ?_ ?_)
  ·intro jc
   refine nW (zT (zK (zB (yA (zW (wR ?_))))))
   have hz := zX mm j zo; obtain ⟨b3, eu⟩ := hz
   have gk := om _ (List.mem_of_getElem? eu)
   refine zEA a.rd el42 j eu [(I3 b3.1), (I3 b3.2.1), (U8 b3.2.2)] rfl fun _ => (zN [(I3 0), (I3 0), (U8 0)] 45 ?_)
   intro ec ix bc
   have ga := bc.ge hb.size
   have c4 := a.new_ne bc
   have au := bc.here
   refine qQ [(I3 b3.1), (I3 b3.2.1), (U8 b3.2.2)] au ?_
   intro i8 bp
   replace p := zC p bc.below
   replace p := zI p bp (zU p au zi)
   replace q := zC q bc.below
   replace q := zI q bp (zU q au zi)
   replace n := zC n bc.below
   replace n := zI n bp (zU n au zi)
   replace o := zC o bc.below
   replace o := zI o bp (zU o au zi)
   replace u := zC u bc.below
   replace u := zI u bp (zU u au zi)
   replace z := z.below bc.below
   replace z := z.wrote bp (z.ne au zi)
   replace t := t.below bc.below
   replace t := t.wrote bp (t.ne au zi)
   replace b := b.below bc.below
   replace b := b.wrote bp (b.ne au zi)
   replace d := d.below bc.below
   replace d := d.wrote bp (d.ne au zi)
   replace aa := aa.below bc.below
   replace aa := aa.wrote bp (aa.ne au zi)
   replace au := bp.here
   refine nQ (W_pre 8 9 1 zk zk zk zk zk zk zk (yD dn 0 (pt ad 0) zk zf (yI u rfl) (yB (pt ad 0) zf (yB (pt ad 3) zf (yD ad 3 (pt ay 0) zk zf (yI o rfl) (yB (pt ec 0) zf (wO ec 0 [(I3 b3.1), (I3 b3.2.1)] zk zf zf (qA au 0 zk) (yB (pt ec 2) zf (yD ec 2 (U8 b3.2.2) zk zf (yI au rfl) (yQ ?_))))))))))
   intro ig bn
   refine yC 8 zk (yO 8 rfl ?_ rfl)
   replace hb := ((hb.tr bc.below).trans (bp.below ga)).tr bn
   replace n := zC n bn
   replace aa := aa.below bn
   refine zc (c_lay_C ay ah wh b3.1 b3.2.1 b3.2.2 w.heap.size _ hb.size n bq aa (by exact ow.rise) zo zo) ?_
   rintro _ i7 ⟨g4, rfl, gi, fl, fz, b7⟩
   replace hb := b7.below hb hb.size (fun k e => e.elim (fun x => x ▸ bq) (fun x => (World.ownsRow.lt aa k x).1))
   replace p := zC p bn
   have bd := yP p b7 a8 (aa.ne p zi)
   replace q := zC q bn
   have bf := yP q b7 (zU q n zi) (aa.ne q zi)
   replace o := zC o bn
   have bs := yP o b7 (zU o n zi) (aa.ne o zi)
   replace u := zC u bn
   have cb := yP u b7 (zU u n zi) (aa.ne u zi)
   replace au := zC au bn
   have gq := yP au b7 (zU au n zi) (aa.ne au zi)
   replace z := z.below bn
   have ca := NRow.ch_mut z b7 (z.ne n zi) (z.apart aa zk)
   replace t := t.below bn
   have br := t.ch_mut b7 (t.ne n zi) (t.apart aa zk)
   replace b := b.below bn
   have b1 := ap_mut b fz (b.ne n zi) ac; have d1 := yW b1
   have aq := b.ch_mut b7 (b.ne n zi) ac
   replace d := d.below bn
   have ar := d.ch_mut b7 (d.ne n zi) (d.apart aa zk)
   replace a := ((a.below bc.below).wrote bp c4).below bn
   have ax := a.ch_mut b7 (a.ne n zi) (a.apart aa zk)
   replace p := bd; clear bd
   replace q := bf; clear bf
   replace o := bs; clear bs
   replace u := cb; clear cb
   replace z := ca; clear ca
   replace t := br; clear br
   replace b := aq; clear aq
   replace d := ar; clear ar
   replace a := ax; clear ax
   replace n := gi
   refine zQ ?_
   refine ⟨rfl, yJ zk (zJ (zB (zP (xN j 1 (zD (zQ (zB ⟨_, zo, (j + 1), (layF eqC wh b3.1 b3.2.1 b3.2.2), g4, rfl, c2, zk, z, t, b, d, a, fl, p, q, n, o, u, b1, hb, zo, ?_, ?_⟩)))))))⟩
   ·rw [j2]; exact lay_take za
   exact ow.lay wQ _ _ _
  intro im
  refine nW (zF (yU (zS (zS (yF (zB (yA (wR (zO 0 u rfl (zr (pt ad 0) (wB 0 o rfl (zc (c_all_C a3 af am _ p b.rd) ?_))))))))))))
  rintro _ aw ⟨dc, rfl, ak, dv, bv⟩
  replace dv := Nat.le_trans hb.size dv
  refine nQ (zW ?_)
  replace p := zC p bv
  have cx : a3 < aw.heap.size := yL p
  replace q := zC q bv
  have da : bi < aw.heap.size := yL q
  replace n := zC n bv
  have db : ay < aw.heap.size := yL n
  replace o := zC o bv
  have dm : ad < aw.heap.size := yL o
  replace u := zC u bv
  have dx : dn < aw.heap.size := yL u
  have cp : dc < aw.heap.size := yL ak
  replace hb := hb.tr bv
  have e2 := hb.size
  have ji := hb
  replace b := b.below bv
  refine W_range 68 [(pt dc 0)] am zk (fun _ _ => rfl) (it_all_C dc a3 af am zo) ⟨ak, p, b.rd⟩ ((fun D A B h hc hd => ⟨yG h.1 hc (fun h => Nat.not_lt.2 (hd _ h) cp), yG h.2.1 hc (fun h => Nat.not_lt.2 (hd _ h) cx), Rd.ch b.rd (Nat.le_refl _) h.2.2 hc hd⟩)) (by intro x; rfl) (fun K fi A => ∃ (wh : List SpI) (ah : Value), (A.heap[a3]? = some (.cells [af, (.bool true)].toArray 115 (0, 0))) ∧ (A.heap[bi]? = some (.cells [ao, (.bool true)].toArray 118 (0, 0))) ∧ (A.heap[ay]? = some (.cells [ah, (.bool true)].toArray 115 (0, 0))) ∧ (A.heap[ad]? = some (.cells [(pt a3 0), (pt bi 0), ag, (pt ay 0)].toArray 66 (0, 0))) ∧ (A.heap[dn]? = some (.cells [(pt ad 0)].toArray 23 (0, 0))) ∧ (A.heap[dc]? = some (.cells [(pt a3 0)].toArray 61 (0, 0))) ∧ (NRow 9 A w.heap.size 72 5 encLine q2 l6) ∧ (∀ g, NOwn q2 l6 g → ¬ Iv aw.heap.size K g) ∧ (Row A w.heap.size 67 1 encVal (.slice (some ⟨d2, 0, none⟩) 4 4) ([(.func (.func 30) #[(pt ad 0)] #[]), (.func (.func 31) #[(pt ad 0)] #[]), (.func (.func 32) #[(pt ad 0)] #[]), (.func (.func 33) #[(pt ad 0)] #[])] : List (Value))) ∧ (∀ g, Value.ownBlock (.slice (some ⟨d2, 0, none⟩) 4 4) = some g → ¬ Iv aw.heap.size K g) ∧ (Row A w.heap.size 126 3 encSpanC af am) ∧ (∀ g, Value.ownBlock af = some g → ¬ Iv aw.heap.size K g) ∧ (Row A w.heap.size 131 3 encSpanI ao lm) ∧ (∀ g, Value.ownBlock ao = some g → ¬ Iv aw.heap.size K g) ∧ (Row A w.heap.size 45 3 encSpanC ag mm) ∧ (∀ g, Value.ownBlock ag = some g → ¬ Iv aw.heap.size K g) ∧ (Row A w.heap.size 126 3 encSpanC ah wh) ∧ (∀ g, Value.ownBlock ah = some g → ¬ Iv aw.heap.size K g) ∧ (Value.ownBlock af = none ∨ Value.ownBlock af ≠ Value.ownBlock ah) ∧ (Value.ownBlock ah = none ∨ Value.ownBlock ah ≠ Value.ownBlock af) ∧ (Below w.heap.size w A) ∧ (wh = layAll eqI (layAll eqI (layF eqC [] 0 1114111 1) mm) fi) ∧ (MapOk eqI wh)) (fun K c fi A => False) ?_ ?_ ?_ ?_ ?_ ?_
  ·intro A hA
   replace t := t.below bv
   replace d := d.below bv
   replace aa := aa.below bv
   replace z := z.below bv
   replace a := a.below bv
   exact ⟨wh, ah, zC p hA, zC q hA, zC n hA, zC o hA, zC u hA, zC ak hA, z.below hA, nrN_old z _, t.below hA, nr_old t _, b.below hA, nr_old b _, d.below hA, nr_old d _, a.below hA, nr_old a _, aa.below hA, nr_old aa _, ac, an, hb.trans (hA.mono hb.size), by rw [j2, List.take_of_length_le zo]; rfl, by exact ow⟩
  ·rintro K fi A B ⟨wh, ah, p, q, n, o, u, ak, z, ck, t, b2, b, a2, d, a1, a, be, aa, a0, ac, an, hb, r1, ow⟩ hc
   exact ⟨wh, ah, yG p hc (fun h => Nat.not_lt.2 h.1 cx), yG q hc (fun h => Nat.not_lt.2 h.1 da), yG n hc (fun h => Nat.not_lt.2 h.1 db), yG o hc (fun h => Nat.not_lt.2 h.1 dm), yG u hc (fun h => Nat.not_lt.2 h.1 dx), yG ak hc (fun h => Nat.not_lt.2 h.1 cp), z.ch hc ck, ck, t.ch hc b2, b2, b.ch hc a2, a2, d.ch hc a1, a1, a.ch hc be, be, aa.ch hc a0, a0, ac, an, hc.below hb hb.size (fun k h => Nat.le_trans e2 h.1), r1, ow⟩
  ·intro K c _ A B h hc; exact h.elim
  ·intro l K fi x A hi hN kb hK gl
   obtain ⟨wh, ah, p, q, n, o, u, ak, z, ck, t, b2, b, a2, d, a1, a, be, aa, a0, ac, an, hb, r1, ow⟩ := hi
   have hk := Kp.refl (aw.heap.size) K A
   have e1 : ¬ Iv (aw.heap.size) K a3 := fun h => Nat.not_lt.2 h.1 cx
   have ev : ¬ Iv (aw.heap.size) K bi := fun h => Nat.not_lt.2 h.1 da
   have dz : ¬ Iv (aw.heap.size) K ay := fun h => Nat.not_lt.2 h.1 db
   have fj : ¬ Iv (aw.heap.size) K ad := fun h => Nat.not_lt.2 h.1 dm
   have gb : ¬ Iv (aw.heap.size) K dn := fun h => Nat.not_lt.2 h.1 dx
   have eg : ¬ Iv (aw.heap.size) K dc := fun h => Nat.not_lt.2 h.1 cp
   replace ak := hN.1
   replace p := hN.2.1
   have ht := ow.rise.len
   have j9 := oa.rise.pre gl
   refine wR (zN [(I3 0), (I3 0)] 32 ?_)
   intro fx iq av
   have f3 := av.ge hb.size
   have d5 : ¬ Iv aw.heap.size K fx := fun h => by have := h.2; have := av.num; omega
   replace hk := hk.ch (Ch.of_below av.below) hK (fun _ h => h.elim)
   replace hK := Nat.le_trans hK (av.below.size)
   have ap := av.here
   refine qQ [(I3 x.1), (I3 x.2.1)] ap ?_
   intro h9 a6
   replace hk := hk.ch (Ch.of_wrote a6) hK (fun k e h => d5 (e ▸ h))
   replace hK := Nat.le_trans hK (Nat.le_of_eq a6.size.symm)
   replace p := zC p av.below
   replace p := zI p a6 (zU p ap zi)
   replace q := zC q av.below
   replace q := zI q a6 (zU q ap zi)
   replace n := zC n av.below
   replace n := zI n a6 (zU n ap zi)
   replace o := zC o av.below
   replace o := zI o a6 (zU o ap zi)
   replace u := zC u av.below
   replace u := zI u a6 (zU u ap zi)
   replace ak := zC ak av.below
   replace ak := zI ak a6 (zU ak ap zi)
   replace z := z.below av.below
   replace z := z.wrote a6 (z.ne ap zi)
   replace t := t.below av.below
   replace t := t.wrote a6 (t.ne ap zi)
   replace b := b.below av.below
   replace b := b.wrote a6 (b.ne ap zi)
   replace d := d.below av.below
   replace d := d.wrote a6 (d.ne ap zi)
   replace a := a.below av.below
   replace a := a.wrote a6 (a.ne ap zi)
   replace aa := aa.below av.below
   replace aa := aa.wrote a6 (aa.ne ap zi)
   replace ap := a6.here
   refine nQ (zP (zH (zQ (zB ⟨hk, ?_⟩))))
   intro gr bb
   replace hb := (hb.tr av.below).trans (a6.below f3)
   replace hb := bb.below hb hb.size (fun k h => Nat.le_trans e2 h.1)
   replace hK := Nat.le_trans hK bb.size
   replace hk := Kp.refl (aw.heap.size) K gr
   replace ap := yG ap bb d5
   replace o := yG o bb fj
   replace u := yG u bb gb
   refine zW (W_pre 6 7 1 zk zk zk zk zk zk zk (yD dn 0 (pt ad 0) zk zf (yI u rfl) (yB (pt ad 0) zf (yB (pt ad 3) zf (yD ad 3 (pt ay 0) zk zf (yI o rfl) (wO fx 0 [(I3 x.1), (I3 x.2.1)] zk zf zf (qA ap 0 zk) (zV (yQ ?_))))))))
   intro io a5
   replace hk := hk.ch (Ch.of_below a5) hK (fun _ h => h.elim)
   replace hK := Nat.le_trans hK (a5.size)
   refine yC 6 zk (yO 6 rfl ?_ rfl)
   replace hb := hb.tr a5
   replace n := zC (yG n bb dz) a5
   replace aa := (aa.ch bb a0).below a5
   refine zc (c_lay_C ay ah wh x.1 x.2.1 x.2.2 w.heap.size _ hb.size n bq aa (by exact ow.rise) zo zo) ?_
   rintro _ ii ⟨fr, rfl, f1, fe, er, bg⟩
   have gu : ∀ k, Dm ay ah k → ¬ Iv (aw.heap.size) K k := fun k e => e.elim (fun x => by rw [x]; exact dz) (fun x => a0 k x)
   have d4 : ∀ g, Value.ownBlock fr = some g → ¬ Iv (aw.heap.size) K g := fun g hg => (er g hg).elim (fun x y => by have := y.2; omega) (fun e => gu g e)
   replace hk := hk.ch bg hK gu
   replace hK := Nat.le_trans hK bg.size
   replace hb := bg.below hb hb.size (fun k e => e.elim (fun x => x ▸ bq) (fun x => (World.ownsRow.lt aa k x).1))
   replace p := zC (yG p bb e1) a5
   have bd := yP p bg a8 (aa.ne p zi)
   replace q := zC (yG q bb ev) a5
   have bf := yP q bg (zU q n zi) (aa.ne q zi)
   replace o := zC o a5
   have bs := yP o bg (zU o n zi) (aa.ne o zi)
   replace u := zC u a5
   have cb := yP u bg (zU u n zi) (aa.ne u zi)
   replace ak := zC (yG ak bb eg) a5
   have di := yP ak bg (zU ak n zi) (aa.ne ak zi)
   replace ap := zC ap a5
   have g8 := yP ap bg (zU ap n zi) (aa.ne ap zi)
   replace z := (z.ch bb ck).below a5
   have ca := NRow.ch_mut z bg (z.ne n zi) (z.apart aa zk)
   replace t := (t.ch bb b2).below a5
   have br := t.ch_mut bg (t.ne n zi) (t.apart aa zk)
   replace b := (b.ch bb a2).below a5
   have bw := ap_mut b er (b.ne n zi) ac; have cs := yW bw
   have aq := b.ch_mut bg (b.ne n zi) ac
   replace d := (d.ch bb a1).below a5
   have ar := d.ch_mut bg (d.ne n zi) (d.apart aa zk)
   replace a := (a.ch bb be).below a5
   have ax := a.ch_mut bg (a.ne n zi) (a.apart aa zk)
   replace p := bd; clear bd
   replace q := bf; clear bf
   replace o := bs; clear bs
   replace u := cb; clear cb
   replace ak := di; clear di
   replace z := ca; clear ca
   replace t := br; clear br
   replace b := aq; clear aq
   replace d := ar; clear ar
   replace a := ax; clear ax
   replace n := f1
   refine zQ ?_
   refine ⟨rfl, yJ zk (zJ (qY hk ⟨ak, p, b.rd⟩ ⟨(layF eqC wh x.1 x.2.1 x.2.2), fr, p, q, n, o, u, ak, z, ck, t, b2, b, a2, d, a1, a, be, fe, d4, bw, cs, hb, ?_, ?_⟩))⟩
   ·rw [r1]; exact (layAll_snoc _ _ _).symm
   exact ow.lay wQ _ _ _
  ·intro K A hi js c6
   obtain ⟨wh, ah, p, q, n, o, u, ak, z, ck, t, b2, b, a2, d, a1, a, be, aa, a0, ac, an, hb, r1, ow⟩ := hi
   refine zJ (zB (wR (zO 0 u rfl (zH (zH (nQ (zR (wN (ds := [⟨.collected aw.heap.size, #[]⟩]) (congrArg (List.cons _) c2) (Lv_mark c6 ?_)))))))))
   intro jo cn
   replace p := zI p cn (zU p c6 zi)
   replace q := zI q cn (zU q c6 zi)
   replace n := zI n cn (zU n c6 zi)
   replace o := zI o cn (zU o c6 zi)
   replace b := b.wrote cn (b.ne c6 zi)
   replace d := d.wrote cn (d.ne c6 zi)
   replace a := a.wrote cn (a.ne c6 zi)
   replace aa := aa.wrote cn (aa.ne c6 zi)
   refine vL [.tmp 4, .tmp 5] [(pt ad 0), .nilIface] rfl ⟨zk, zk, trivial⟩ ?_
   replace hb := hb.trans (cn.below e2)
   exact ⟨ag, af, ao, ah, ad, a3, bi, ay, rfl, a.cast (by (rw [invC_end i3 zo]; done)), b.cast (by (rw [invC_end i3 zo]; done)), d.cast (by (rw [invC_end i3 zo]; done)), aa.cast (by (rw [invC_end i3 zo]; exact r1)), o, dp, p, c7, q, c5, n, bq, (zU o p zi), (zU o q zi), (zU o n zi), (zU p q zi), a8, (zU q n zi), hb⟩
  intro K c _ x A _ h; exact h.elim
 skip
 exfalso; exact hu (cls_ok1 hok)
theorem c_classes_Read_bad (f : List UInt8) (s : List UInt8) (w : World) {m_ml : Int} (hml : w.cell? ⟨1, 0, none⟩ = some (I6 m_ml)) (hs : s.length ≤ 33554432) (hbad : (clsF s).2.2 ≠ 0) :
  Calls Tryz.prog 10 #[(S f), (S s)] w (Ret fun v w' => ∃ (cb0 : Nat), v = (.tuple #[(.pointer none), (.iface 73 (pt cb0 0))]) ∧ w'.heap[cb0]? = some (.cells [(S f), (I6 ((clsF s).2.1)), (I6 ((clsF s).2.2))].toArray 75 (0, 0)) ∧ w.heap.size ≤ cb0 ∧ Below w.heap.size w w') := by
 refine enterM (args := [(S f), (S s)]) func10 rfl (zk : _ = 103) zk ?_
 have u := Below.refl w.heap.size w
 refine wR (zH (zH (nR (zD (zD ?_)))))
 by_cases gm : (badL (toldF s)).2 = 0
 ·skip
  refine zc (c_lines_Read_ok f s _ zo zo) ?_
  rintro _ w3 ⟨l6, q2, rfl, o, e6, e9⟩
  replace o := o.base u.size
  refine zD (zr q2 (zr .nilIface (zH (zH (nW (wR (zD (zr (.bool false) (nQ (zF (zK (zB (wR (zc (c_new_C  _ ) ?_))))))))))))))
  rintro _ w8 ⟨bb, rfl, h, bq, ek⟩
  replace u := u.tr e9
  replace bq := Nat.le_trans u.size bq
  refine zc (c_new_I  _ ) ?_
  rintro _ gn ⟨ba, rfl, j, br, c1⟩
  replace u := u.tr ek
  replace br := Nat.le_trans u.size br
  refine zc (c_new_C  _ ) ?_
  rintro _ f4 ⟨be, rfl, l, b3, ch⟩
  replace h := zC h c1
  have bz := NE_ge (yL h) b3
  have b0 := NE.symm bz
  replace u := u.tr c1
  replace b3 := Nat.le_trans u.size b3
  refine zr (Value.agg #[(pt bb 0), (pt ba 0), (.slice none 0 0), (pt be 0)]) (zN [(pt bb 0), (pt ba 0), (.slice none 0 0), (pt be 0)] 66 ?_)
  intro z g0 bw
  replace u := u.tr ch
  have cb := bw.ge u.size
  have g := bw.here
  refine zN [(.pointer none)] 23 ?_
  intro d9 gc bo
  replace u := u.tr bw.below
  have eo := bo.ge u.size
  have p := bo.here
  refine z1 0 (pt z 0) [(pt z 0)] p ?_
  intro gy bu
  replace h := zC (zC (zC h ch) bw.below) bo.below
  replace h := zI h bu (zU h p zi)
  replace j := zC (zC (zC j ch) bw.below) bo.below
  replace j := zI j bu (zU j p zi)
  replace l := zC (zC l bw.below) bo.below
  replace l := zI l bu (zU l p zi)
  replace g := zC g bo.below
  replace g := zI g bu (zU g p zi)
  replace o := ((((o.below ek).below c1).below ch).below bw.below).below bo.below
  replace o := o.wrote bu (o.ne p zi)
  replace p := bu.here
  refine nR (zO 0 p rfl (zr (.func (.func 30) #[(pt z 0)] #[]) (zO 0 p rfl (zr (.func (.func 31) #[(pt z 0)] #[]) (zO 0 p rfl (zr (.func (.func 32) #[(pt z 0)] #[]) (zO 0 p rfl (zr (.func (.func 33) #[(pt z 0)] #[]) (zM 4 [(.func (.func 30) #[(pt z 0)] #[]), (.func (.func 31) #[(pt z 0)] #[]), (.func (.func 32) #[(pt z 0)] #[]), (.func (.func 33) #[(pt z 0)] #[])] 67 ?_)))))))))
  intro df e8 bm
  replace u := (u.tr bo.below).trans (bu.below eo)
  have dx := bm.ge u.size
  have n : Row e8 w.heap.size 67 1 encVal (.slice (some ⟨df, 0, none⟩) 4 4) ([(.func (.func 30) #[(pt z 0)] #[]), (.func (.func 31) #[(pt z 0)] #[]), (.func (.func 32) #[(pt z 0)] #[]), (.func (.func 33) #[(pt z 0)] #[])] : List (Value)) := Row.made ([(.func (.func 30) #[(pt z 0)] #[]), (.func (.func 31) #[(pt z 0)] #[]), (.func (.func 32) #[(pt z 0)] #[]), (.func (.func 33) #[(pt z 0)] #[])] : List (Value)) bm dx rfl rfl (by first | decide | (simp; done))
  replace o := o.below bm.below
  refine zH (nW (wR (zD (vY underlying58 (o.rd).len (zD (nQ (zW ?_)))))))
  have hl := e6
  have f8 := lines_len hl
  have f2 := Zm s
  replace u := u.tr bm.below
  replace h := zC h bm.below
  replace j := zC j bm.below
  replace l := zC l bm.below
  replace g := zC g bm.below
  replace p := zC p bm.below
  refine xA (fun m s0 w0 => ∃ (i : Nat) (am : List SpI) (lm : List SpI) (mm : List SpI) (ah : Value) (ag : Value) (aa : Value), (m = l6.length - i) ∧ (s0.ds = []) ∧ ([0, 8, 9, 40, 41, 42].map s0.f = [(S f), (pt d9 0), (.slice (some ⟨df, 0, none⟩) 4 4), q2, (N6 ((l6).length)), (N6 i)]) ∧ (NRow 9 w0 w.heap.size 72 5 encLine q2 l6) ∧ (Row w0 w.heap.size 67 1 encVal (.slice (some ⟨df, 0, none⟩) 4 4) ([(.func (.func 30) #[(pt z 0)] #[]), (.func (.func 31) #[(pt z 0)] #[]), (.func (.func 32) #[(pt z 0)] #[]), (.func (.func 33) #[(pt z 0)] #[])] : List (Value))) ∧ (Row w0 w.heap.size 126 3 encSpanC ah am) ∧ (Row w0 w.heap.size 131 3 encSpanI ag lm) ∧ (Row w0 w.heap.size 45 3 encSpanC aa mm) ∧ (w0.heap[bb]? = some (.cells [ah, (.bool true)].toArray 115 (0, 0))) ∧ (w0.heap[ba]? = some (.cells [ag, (.bool true)].toArray 118 (0, 0))) ∧ (w0.heap[be]? = some (.cells [(.slice none 0 0), (.bool true)].toArray 115 (0, 0))) ∧ (w0.heap[z]? = some (.cells [(pt bb 0), (pt ba 0), aa, (pt be 0)].toArray 66 (0, 0))) ∧ (w0.heap[d9]? = some (.cells [(pt z 0)].toArray 23 (0, 0))) ∧ (Below w.heap.size w w0) ∧ (i ≤ l6.length) ∧ (invC s l6 i (am, lm, mm)) ∧ (MapOk eqI am) ∧ (MapOk eqI lm) ∧ (mm.length ≤ i) ∧ (rngC mm)) _ ⟨0, [], [], [], (.slice none 0 0), (.slice none 0 0), (.slice none 0 0), rfl, zk, zk, o, n, Row.nil _ _ _ _ _, Row.nil _ _ _ _ _, Row.nil _ _ _ _ _, h, j, l, g, p, u, (Nat.zero_le _), (invC_zero (by first | assumption | exact cls_ok1 hok) hl), MapOk.nil, MapOk.nil, (Nat.le_refl _), rng_nil⟩ ?_
  rintro gv gq e4 ⟨i, am, lm, mm, ah, ag, aa, hm, bx, e0, o, n, c, d, a, h, j, l, g, p, u, i1, i3, oa, ol, i4, om⟩
  refine yX e0 ?_
  have gd := oa.rise.len
  have f5 := ol.rise.len
  refine wR (nLt i ((l6).length) ?_ ?_)
  ·intro gh
   refine nW (zT (zK (zB (yA (zW (wR ?_))))))
   have hz := zX l6 i zo; obtain ⟨b, cg⟩ := hz
   have hz := (o.rd).at (k := 5) zj cg
   obtain ⟨d5, c8, ef, er⟩ := hz
   have es := scan_ok zo hl cg
   have eu := line_kind hl cg
   refine yS (k := .i64) q2 i _ d5 c8 el58 ef zo zk zk ?_
   have af : Row e4 w.heap.size 9 1 encStr (LineV.v b) (LineV.fs b) := o.inner (List.mem_of_getElem? cg)
   refine xB d5 (c8 + i * 5) [(I6 b.1), (U8 b.2.1), (S b.2.2.1), (LineV.v b), (S b.2.2.2.2)] zk zk zk er (zN [(I6 0), (U8 0), (S []), (.slice none 0 0), (S [])] 72 ?_)
   intro bp f6 ae
   have b4 := ae.ge u.size
   have an := o.new_ne ae
   have q := ae.here
   replace af := af.below ae.below
   refine xU bp 0 [(I6 b.1), (U8 b.2.1), (S b.2.2.1), (LineV.v b), (S b.2.2.2.2)] [(I6 0), (U8 0), (S []), (.slice none 0 0), (S [])] [(I6 b.1), (U8 b.2.1), (S b.2.2.1), (LineV.v b), (S b.2.2.2.2)] 72 zk zk (yZ rfl (yZ rfl (yZ rfl (yZ af.one (yZ rfl rfl))))) zk q zk rfl ?_
   intro f7 ak
   replace h := zC h ae.below
   replace h := zI h ak (zU h q zi)
   replace j := zC j ae.below
   replace j := zI j ak (zU j q zi)
   replace l := zC l ae.below
   replace l := zI l ak (zU l q zi)
   replace g := zC g ae.below
   replace g := zI g ak (zU g q zi)
   replace p := zC p ae.below
   replace p := zI p ak (zU p q zi)
   replace n := n.below ae.below
   replace n := n.wrote ak (n.ne q zi)
   replace c := c.below ae.below
   replace c := c.wrote ak (c.ne q zi)
   replace d := d.below ae.below
   replace d := d.wrote ak (d.ne q zi)
   replace a := a.below ae.below
   replace a := a.wrote ak (a.ne q zi)
   replace af := af.wrote ak (af.ne q zi)
   replace q := ak.here
   refine nW (W_pre 6 8 2 zk zk zk zk zk zk zk (zV (yB (pt bp 1) zf (yD bp 1 (U8 b.2.1) zk zf (yI q rfl) ?_))))
   have hz := zX ([(.func (.func 30) #[(pt z 0)] #[]), (.func (.func 31) #[(pt z 0)] #[]), (.func (.func 32) #[(pt z 0)] #[]), (.func (.func 33) #[(pt z 0)] #[])] : List (Value)) b.2.1.toNat (by (simp only [List.length_cons, List.length_nil]; omega)); obtain ⟨gw, dm⟩ := hz
   have hz := (n.rd).at (k := 1) zj dm
   obtain ⟨db, bt, ed, cj⟩ := hz
   refine Lq_ixaddrZ (k := .u8) (.slice (some ⟨df, 0, none⟩) 4 4) b.2.1 b.2.1.toNat _ db bt zo el68 ed (by (simp only [List.length_cons, List.length_nil]; omega)) zk zk ?_
   have hz := pick4 dm
   rcases hz with ⟨cs, bv⟩ | ⟨cs, bv⟩ | ⟨cs, bv⟩ | ⟨cs, bv⟩
   ·subst bv
    have dy : b.2.1 = 0 := by omega
    refine yD db (bt + b.2.1.toNat * 1) (.func (.func 30) #[(pt z 0)] #[]) zk zf (cj 0 _ rfl) (wO bp 0 [(I6 b.1), (U8 b.2.1), (S b.2.2.1), (LineV.v b), (S b.2.2.2.2)] zk zf zf (qA q 0 zk) (yQ ?_))
    intro go bc
    refine yC 6 zk (yO 6 rfl ?_ rfl)
    refine vQ 30 [(pt z 0), (Value.agg #[(I6 b.1), (U8 b.2.1), (S b.2.2.1), (LineV.v b), (S b.2.2.2.2)])] zk zk (wJ 5 func30 rfl (wR (zN [(I6 b.1), (U8 b.2.1), (S b.2.2.1), (LineV.v b), (S b.2.2.2.2)] 72 ?_)))
    intro gz gj a6
    replace u := ((u.tr ae.below).trans (ak.below b4)).tr bc
    have em := a6.ge u.size
    replace o := ((o.below ae.below).wrote ak an).below bc
    have cp := o.new_ne a6
    refine zH (nR (zH (nQ (zR (zZ [(I6 0)] ?_)))))
    show L _ _ _ _ _ _ (Fm.put _ _ (I6 0)) _
    refine zQ ?_
    refine ⟨rfl, ip 7 rfl (I6 0) (yJ zk (zB (wR (zD (zr (.bool false) (nQ (zF (zK (zJ (zB (zP (xN i 1 (zD (zQ ?_))))))))))))))⟩
    replace u := u.tr a6.below
    replace h := zC (zC h bc) a6.below
    replace j := zC (zC j bc) a6.below
    replace l := zC (zC l bc) a6.below
    replace g := zC (zC g bc) a6.below
    replace p := zC (zC p bc) a6.below
    replace n := (n.below bc).below a6.below
    replace c := (c.below bc).below a6.below
    replace d := (d.below bc).below a6.below
    replace o := o.below a6.below
    replace a := (a.below bc).below a6.below
    refine zB ⟨_, zo, (i + 1), am, lm, mm, ah, ag, aa, rfl, bx, zk, o, n, c, d, a, h, j, l, g, p, u, zo, ?_, ?_, ?_, zo, ?_⟩
    ·exact invC_on i3 za (st_blank za)
    ·exact oa
    ·exact ol
    first | exact om | exact uS om _ _ _
   ·subst bv
    have dy : b.2.1 = 1 := by omega
    refine yD db (bt + b.2.1.toNat * 1) (.func (.func 31) #[(pt z 0)] #[]) zk zf (cj 0 _ rfl) (wO bp 0 [(I6 b.1), (U8 b.2.1), (S b.2.2.1), (LineV.v b), (S b.2.2.2.2)] zk zf zf (qA q 0 zk) (yQ ?_))
    intro gp a4
    refine yC 6 zk (yO 6 rfl ?_ rfl)
    refine vQ 31 [(pt z 0), (Value.agg #[(I6 b.1), (U8 b.2.1), (S b.2.2.1), (LineV.v b), (S b.2.2.2.2)])] zk zk (wJ 36 func31 rfl (wR (zN [(I6 b.1), (U8 b.2.1), (S b.2.2.1), (LineV.v b), (S b.2.2.2.2)] 72 ?_)))
    intro eb gk au
    replace u := ((u.tr ae.below).trans (ak.below b4)).tr a4
    have ei := au.ge u.size
    replace o := ((o.below ae.below).wrote ak an).below a4
    have cn := o.new_ne au
    have ay := au.here
    replace u := u.tr au.below
    replace af := (af.below a4).below au.below
    refine zH (nR (vT ay (zc (Zo b.1 b.2.1 b.2.2.1 (LineV.v b) (LineV.fs b) b.2.2.2.2 70 _ af.rd (wE hml u) (by exact (by assumption : _ ∧ _ ∧ _).1) (by exact (by assumption : _ ∧ _ ∧ _).2.2)) ?_)))
    rintro _ gb ⟨rfl, a7⟩
    have := tc_rng (LineV.fs b) 70
    refine zD (zr (Value.agg #[(I3 ((toldC (LineV.fs b) 70).1)), (I3 ((toldC (LineV.fs b) 70).2.1))]) (zr (U8 ((toldC (LineV.fs b) 70).2.2.1)) (zr (I6 ((toldC (LineV.fs b) 70).2.2.2)) (zN [(I3 0), (I3 0)] 32 ?_))))
    intro en gr ar
    replace u := u.tr a7
    have ca := ar.ge u.size
    have t := ar.here
    refine qQ [(I3 ((toldC (LineV.fs b) 70).1)), (I3 ((toldC (LineV.fs b) 70).2.1))] t ?_
    intro ga az
    replace h := zC (zC (zC (zC h a4) au.below) a7) ar.below
    replace h := zI h az (zU h t zi)
    replace j := zC (zC (zC (zC j a4) au.below) a7) ar.below
    replace j := zI j az (zU j t zi)
    replace l := zC (zC (zC (zC l a4) au.below) a7) ar.below
    replace l := zI l az (zU l t zi)
    replace g := zC (zC (zC (zC g a4) au.below) a7) ar.below
    replace g := zI g az (zU g t zi)
    replace p := zC (zC (zC (zC p a4) au.below) a7) ar.below
    replace p := zI p az (zU p t zi)
    replace q := zC (zC (zC (zC q a4) au.below) a7) ar.below
    replace q := zI q az (zU q t zi)
    replace ay := zC (zC ay a7) ar.below
    replace ay := zI ay az (zU ay t zi)
    replace o := ((o.below au.below).below a7).below ar.below
    replace o := o.wrote az (o.ne t zi)
    replace n := (((n.below a4).below au.below).below a7).below ar.below
    replace n := n.wrote az (n.ne t zi)
    replace c := (((c.below a4).below au.below).below a7).below ar.below
    replace c := c.wrote az (c.ne t zi)
    replace d := (((d.below a4).below au.below).below a7).below ar.below
    replace d := d.wrote az (d.ne t zi)
    replace a := (((a.below a4).below au.below).below a7).below ar.below
    replace a := a.wrote az (a.ne t zi)
    replace t := az.here
    refine zH (zH (nW (wR (zD (zNe .i64 ((toldC (LineV.fs b) 70).2.2.2) 0 ?_ ?_)))))
    ·intro ez
     refine nQ (zT (wR (zD (zH (nQ (zR (zG (zZ [(I6 ((toldC (LineV.fs b) 70).2.2.2))] ?_))))))))
     show L _ _ _ _ _ _ (Fm.put _ _ (I6 ((toldC (LineV.fs b) 70).2.2.2))) _
     refine zQ ?_
     refine ⟨rfl, ip 7 rfl (I6 ((toldC (LineV.fs b) 70).2.2.2)) (yJ zk (zB (wR (zD (zNe .i64 ((toldC (LineV.fs b) 70).2.2.2) 0 ?_ ?_)))))⟩
     ·intro f3
      refine nQ (zT (yA (wD 9 zk zk zk ?_)))
      intro gu dp
      refine ip 0 rfl (S f) (ip 1 rfl (pt bp 0) (ip 3 rfl (I6 ((toldC (LineV.fs b) 70).2.2.2)) (ip 7 rfl (.pointer none) (yC 2 zk (yO 2 rfl ?_ rfl)))))
      replace q := zC q dp
      refine zO 0 q rfl (zQ ?_)
      refine ⟨rfl, ip 4 rfl (Value.agg #[(S f), (I6 b.1), (I6 ((toldC (LineV.fs b) 70).2.2.2))]) (yC 5 zk (yO 5 rfl ?_ rfl))⟩
      refine zN [(S f), (I6 b.1), (I6 ((toldC (LineV.fs b) 70).2.2.2))] 75 ?_
      intro c9 e1 cx
      replace u := ((u.tr ar.below).trans (az.below ca)).tr dp
      have a9 := cx.ge u.size
      have a8 := cx.here
      refine zQ ?_
      refine ⟨rfl, ip 6 rfl (.iface 73 (pt c9 0)) (ip 8 rfl (.iface 73 (pt c9 0)) (yJ zk (zB (zR (zL (zG (zG (zL (zG (wN (ds := []) bx (vL [.tmp 4, .tmp 5] [(.pointer none), (.iface 73 (pt c9 0))] rfl ⟨zk, zk, trivial⟩ ?_)))))))))))⟩
      have oE : e1.heap[c9]? = some (.cells [(S f), (I6 ((clsF s).2.1)), (I6 ((clsF s).2.2))].toArray 75 (0, 0)) := by (rw [cb_data1 i3 za za za]; exact a8)
      replace u := u.tr cx.below
      exact ⟨c9, rfl, oE, a9, u⟩
     intro e5
     exact absurd e5 ez
    intro gl
    refine nQ (zF (zK (zB (yA (yA (W_pre 7 9 2 zk zk zk zk zk zk zk (zV (yB (pt z 0) zf (yB (pt z 1) zf (yD z 1 (pt ba 0) zk zf (yI g rfl) (wO en 0 [(I3 ((toldC (LineV.fs b) 70).1)), (I3 ((toldC (LineV.fs b) 70).2.1))] zk zf zf (qA t 0 zk) (yB (pt eb 0) zf (yD eb 0 (I6 b.1) zk zf (yI ay rfl) (yQ ?_))))))))))))))
    intro gx a5
    refine yC 7 zk (yO 7 rfl ?_ rfl)
    replace u := ((u.tr ar.below).trans (az.below ca)).tr a5
    replace j := zC j a5
    replace d := d.below a5
    refine zc (c_put_I ba ag lm ((toldC (LineV.fs b) 70).1) ((toldC (LineV.fs b) 70).2.1) b.1 w.heap.size _ u.size j br d (by exact ol.rise) zo zo) ?_
    rintro _ f9 ⟨e2, rfl, d8, bg, fm, bd⟩
    replace u := bd.below u u.size (fun k e => e.elim (fun x => x ▸ br) (fun x => (World.ownsRow.lt d k x).1))
    replace h := zC h a5
    replace h := yP h bd (zU h j zi) (d.ne h zi)
    replace l := zC l a5
    replace l := yP l bd (zU l j zi) (d.ne l zi)
    replace g := zC g a5
    replace g := yP g bd (zU g j zi) (d.ne g zi)
    replace p := zC p a5
    replace p := yP p bd (zU p j zi) (d.ne p zi)
    replace q := zC q a5
    replace q := yP q bd (zU q j zi) (d.ne q zi)
    replace t := zC t a5
    replace t := yP t bd (zU t j zi) (d.ne t zi)
    replace o := o.below a5
    replace o := NRow.ch_mut o bd (o.ne j zi) (o.apart d zk)
    replace n := n.below a5
    replace n := n.ch_mut bd (n.ne j zi) (n.apart d zk)
    replace c := c.below a5
    replace c := c.ch_mut bd (c.ne j zi) (c.apart d zk)
    replace a := a.below a5
    replace a := a.ch_mut bd (a.ne j zi) (a.apart d zk)
    replace j := d8
    refine zQ ?_
    refine ⟨rfl, ip 8 rfl (I6 (putE lm ((toldC (LineV.fs b) 70).1) ((toldC (LineV.fs b) 70).2.1))) (yJ zk (zB (wR (zD (zNe .i64 (putE lm ((toldC (LineV.fs b) 70).1) ((toldC (LineV.fs b) 70).2.1)) 0 ?_ ?_)))))⟩
    ·intro ey
     refine nQ (zT (wR (zD (zH (nQ (zR (zG (zZ [(I6 (putE lm ((toldC (LineV.fs b) 70).1) ((toldC (LineV.fs b) 70).2.1)))] ?_))))))))
     show L _ _ _ _ _ _ (Fm.put _ _ (I6 (putE lm ((toldC (LineV.fs b) 70).1) ((toldC (LineV.fs b) 70).2.1)))) _
     refine zQ ?_
     refine ⟨rfl, ip 7 rfl (I6 (putE lm ((toldC (LineV.fs b) 70).1) ((toldC (LineV.fs b) 70).2.1))) (yJ zk (zB (wR (zD (zNe .i64 (putE lm ((toldC (LineV.fs b) 70).1) ((toldC (LineV.fs b) 70).2.1)) 0 ?_ ?_)))))⟩
     ·intro gi
      refine nQ (zT (yA (wD 9 zk zk zk ?_)))
      intro gf dt
      refine ip 0 rfl (S f) (ip 1 rfl (pt bp 0) (ip 3 rfl (I6 (putE lm ((toldC (LineV.fs b) 70).1) ((toldC (LineV.fs b) 70).2.1))) (ip 7 rfl (.pointer none) (yC 2 zk (yO 2 rfl ?_ rfl)))))
      replace q := zC q dt
      refine zO 0 q rfl (zQ ?_)
      refine ⟨rfl, ip 4 rfl (Value.agg #[(S f), (I6 b.1), (I6 (putE lm ((toldC (LineV.fs b) 70).1) ((toldC (LineV.fs b) 70).2.1)))]) (yC 5 zk (yO 5 rfl ?_ rfl))⟩
      refine zN [(S f), (I6 b.1), (I6 (putE lm ((toldC (LineV.fs b) 70).1) ((toldC (LineV.fs b) 70).2.1)))] 75 ?_
      intro c6 e7 ct
      replace u := u.tr dt
      have a9 := ct.ge u.size
      have a8 := ct.here
      refine zQ ?_
      refine ⟨rfl, ip 6 rfl (.iface 73 (pt c6 0)) (ip 8 rfl (.iface 73 (pt c6 0)) (yJ zk (zB (zR (zL (zG (zG (zL (zG (wN (ds := []) bx (vL [.tmp 4, .tmp 5] [(.pointer none), (.iface 73 (pt c6 0))] rfl ⟨zk, zk, trivial⟩ ?_)))))))))))⟩
      have oE : e7.heap[c6]? = some (.cells [(S f), (I6 ((clsF s).2.1)), (I6 ((clsF s).2.2))].toArray 75 (0, 0)) := by (rw [cb_data2 i3 za za za za]; exact a8)
      replace u := u.tr ct.below
      exact ⟨c6, rfl, oE, a9, u⟩
     intro ex
     exact absurd ex ey
    intro gg
    refine nQ (zF (zK (zB (yA (W_pre 6 8 2 zk zk zk zk zk zk zk (zV (yB (pt z 0) zf (yB (pt z 0) zf (yD z 0 (pt bb 0) zk zf (yI g rfl) (wO en 0 [(I3 ((toldC (LineV.fs b) 70).1)), (I3 ((toldC (LineV.fs b) 70).2.1))] zk zf zf (qA t 0 zk) (zV (yQ ?_))))))))))))
    intro gs aq
    refine yC 6 zk (yO 6 rfl ?_ rfl)
    replace u := u.tr aq
    replace h := zC h aq
    replace c := c.below aq
    refine zc (c_put_C bb ah am ((toldC (LineV.fs b) 70).1) ((toldC (LineV.fs b) 70).2.1) ((toldC (LineV.fs b) 70).2.2.1) w.heap.size _ u.size h bq c (by exact oa.rise) zo zo) ?_
    rintro _ f1 ⟨ep, rfl, dz, di, e3, a3⟩
    replace u := a3.below u u.size (fun k e => e.elim (fun x => x ▸ bq) (fun x => (World.ownsRow.lt c k x).1))
    replace j := zC j aq
    replace j := yP j a3 (zU j h zi) (c.ne j zi)
    replace l := zC l aq
    replace l := yP l a3 b0 (c.ne l zi)
    replace g := zC g aq
    replace g := yP g a3 (zU g h zi) (c.ne g zi)
    replace p := zC p aq
    replace p := yP p a3 (zU p h zi) (c.ne p zi)
    replace q := zC q aq
    replace q := yP q a3 (zU q h zi) (c.ne q zi)
    replace o := o.below aq
    replace o := NRow.ch_mut o a3 (o.ne h zi) (o.apart c zk)
    replace n := n.below aq
    replace n := n.ch_mut a3 (n.ne h zi) (n.apart c zk)
    replace a := a.below aq
    replace a := a.ch_mut a3 (a.ne h zi) (a.apart c zk)
    replace bg := bg.below aq
    replace bg := bg.ch_mut a3 (bg.ne h zi) (bg.apart c zk)
    replace h := dz
    refine zQ ?_
    refine ⟨rfl, ip 7 rfl (I6 (putE am ((toldC (LineV.fs b) 70).1) ((toldC (LineV.fs b) 70).2.1))) (yJ zk (zB (zR (zZ [(I6 (putE am ((toldC (LineV.fs b) 70).1) ((toldC (LineV.fs b) 70).2.1)))] ?_))))⟩
    show L _ _ _ _ _ _ (Fm.put _ _ (I6 (putE am ((toldC (LineV.fs b) 70).1) ((toldC (LineV.fs b) 70).2.1)))) _
    refine zQ ?_
    refine ⟨rfl, ip 7 rfl (I6 (putE am ((toldC (LineV.fs b) 70).1) ((toldC (LineV.fs b) 70).2.1))) (yJ zk (zB (wR (zD (zNe .i64 (putE am ((toldC (LineV.fs b) 70).1) ((toldC (LineV.fs b) 70).2.1)) 0 ?_ ?_)))))⟩
    ·intro fx
     refine nQ (zT (yA (wD 9 zk zk zk ?_)))
     intro fy c4
     refine ip 0 rfl (S f) (ip 1 rfl (pt bp 0) (ip 3 rfl (I6 (putE am ((toldC (LineV.fs b) 70).1) ((toldC (LineV.fs b) 70).2.1))) (ip 7 rfl (.pointer none) (yC 2 zk (yO 2 rfl ?_ rfl)))))
     replace q := zC q c4
     refine zO 0 q rfl (zQ ?_)
     refine ⟨rfl, ip 4 rfl (Value.agg #[(S f), (I6 b.1), (I6 (putE am ((toldC (LineV.fs b) 70).1) ((toldC (LineV.fs b) 70).2.1)))]) (yC 5 zk (yO 5 rfl ?_ rfl))⟩
     refine zN [(S f), (I6 b.1), (I6 (putE am ((toldC (LineV.fs b) 70).1) ((toldC (LineV.fs b) 70).2.1)))] 75 ?_
     intro b9 ea cf
     replace u := u.tr c4
     have a9 := cf.ge u.size
     have a8 := cf.here
     refine zQ ?_
     refine ⟨rfl, ip 6 rfl (.iface 73 (pt b9 0)) (ip 8 rfl (.iface 73 (pt b9 0)) (yJ zk (zB (zR (zL (zG (zG (zL (zG (wN (ds := []) bx (vL [.tmp 4, .tmp 5] [(.pointer none), (.iface 73 (pt b9 0))] rfl ⟨zk, zk, trivial⟩ ?_)))))))))))⟩
     have oE : ea.heap[b9]? = some (.cells [(S f), (I6 ((clsF s).2.1)), (I6 ((clsF s).2.2))].toArray 75 (0, 0)) := by (rw [cb_data3 i3 za za za za za]; exact a8)
     replace u := u.tr cf.below
     exact ⟨b9, rfl, oE, a9, u⟩
    intro fr
    refine nQ (zF (zK (zJ (zB (zP (xN i 1 (zD (zQ (zB ⟨_, zo, (i + 1), (putF eqC am ((toldC (LineV.fs b) 70).1) ((toldC (LineV.fs b) 70).2.1) ((toldC (LineV.fs b) 70).2.2.1)), (putF eqI lm ((toldC (LineV.fs b) 70).1) ((toldC (LineV.fs b) 70).2.1) b.1), mm, ep, e2, aa, rfl, bx, zk, o, n, di, bg, a, h, j, l, g, p, u, zo, ?_, ?_, ?_, zo, ?_⟩)))))))))
    ·exact invC_on i3 za (st_data za za za za)
    ·exact oa.put wQ _ _ _
    ·exact ol.put wQ _ _ _
    first | exact om | exact uS om _ _ _
   ·subst bv
    have dy : b.2.1 = 2 := by omega
    refine yD db (bt + b.2.1.toNat * 1) (.func (.func 32) #[(pt z 0)] #[]) zk zf (cj 0 _ rfl) (wO bp 0 [(I6 b.1), (U8 b.2.1), (S b.2.2.1), (LineV.v b), (S b.2.2.2.2)] zk zf zf (qA q 0 zk) (yQ ?_))
    intro fl ce
    refine yC 6 zk (yO 6 rfl ?_ rfl)
    refine vQ 32 [(pt z 0), (Value.agg #[(I6 b.1), (U8 b.2.1), (S b.2.2.1), (LineV.v b), (S b.2.2.2.2)])] zk zk (wJ 5 func32 rfl (wR (zN [(I6 b.1), (U8 b.2.1), (S b.2.2.1), (LineV.v b), (S b.2.2.2.2)] 72 ?_)))
    intro fz fq b5
    replace u := ((u.tr ae.below).trans (ak.below b4)).tr ce
    have d4 := b5.ge u.size
    replace o := ((o.below ae.below).wrote ak an).below ce
    have cm := o.new_ne b5
    refine zH (nR (zH (nQ (zR (zZ [(I6 33)] ?_)))))
    show L _ _ _ _ _ _ (Fm.put _ _ (I6 33)) _
    refine zQ ?_
    refine ⟨rfl, ip 7 rfl (I6 33) (yJ zk (zB (wR (zD (zr (.bool true) (nQ (zT (yA (wD 9 zk zk zk ?_)))))))))⟩
    intro fe c0
    refine ip 0 rfl (S f) (ip 1 rfl (pt bp 0) (ip 3 rfl (I6 33) (ip 7 rfl (.pointer none) (yC 2 zk (yO 2 rfl ?_ rfl)))))
    replace q := zC (zC (zC q ce) b5.below) c0
    refine zO 0 q rfl (zQ ?_)
    refine ⟨rfl, ip 4 rfl (Value.agg #[(S f), (I6 b.1), (I6 33)]) (yC 5 zk (yO 5 rfl ?_ rfl))⟩
    refine zN [(S f), (I6 b.1), (I6 33)] 75 ?_
    intro b8 d6 cc
    replace u := (u.tr b5.below).tr c0
    have a9 := cc.ge u.size
    have a8 := cc.here
    refine zQ ?_
    refine ⟨rfl, ip 6 rfl (.iface 73 (pt b8 0)) (ip 8 rfl (.iface 73 (pt b8 0)) (yJ zk (zB (zR (zL (zG (zG (zL (zG (wN (ds := []) bx (vL [.tmp 4, .tmp 5] [(.pointer none), (.iface 73 (pt b8 0))] rfl ⟨zk, zk, trivial⟩ ?_)))))))))))⟩
    have oE : d6.heap[b8]? = some (.cells [(S f), (I6 ((clsF s).2.1)), (I6 ((clsF s).2.2))].toArray 75 (0, 0)) := by (rw [cb_order i3 za za]; exact a8)
    replace u := u.tr cc.below
    exact ⟨b8, rfl, oE, a9, u⟩
   subst bv
   have dy : b.2.1 = 3 := by omega
   refine yD db (bt + b.2.1.toNat * 1) (.func (.func 33) #[(pt z 0)] #[]) zk zf (cj 0 _ rfl) (wO bp 0 [(I6 b.1), (U8 b.2.1), (S b.2.2.1), (LineV.v b), (S b.2.2.2.2)] zk zf zf (qA q 0 zk) (yQ ?_))
   intro fv ao
   refine yC 6 zk (yO 6 rfl ?_ rfl)
   refine vQ 33 [(pt z 0), (Value.agg #[(I6 b.1), (U8 b.2.1), (S b.2.2.1), (LineV.v b), (S b.2.2.2.2)])] zk zk (wJ 29 func33 rfl (wR (zN [(I6 b.1), (U8 b.2.1), (S b.2.2.1), (LineV.v b), (S b.2.2.2.2)] 72 ?_)))
   intro fn fg ac
   replace u := ((u.tr ae.below).trans (ak.below b4)).tr ao
   have ec := ac.ge u.size
   replace o := ((o.below ae.below).wrote ak an).below ao
   have cq := o.new_ne ac
   have cv := ac.here
   replace u := u.tr ac.below
   replace af := (af.below ao).below ac.below
   refine zH (nR (vT cv (zc (Zo b.1 b.2.1 b.2.2.1 (LineV.v b) (LineV.fs b) b.2.2.2.2 71 _ af.rd (wE hml u) (by exact (by assumption : _ ∧ _ ∧ _).1) (by exact (by assumption : _ ∧ _ ∧ _).2.2)) ?_)))
   rintro _ fb ⟨rfl, ap⟩
   have := tc_rng (LineV.fs b) 71
   refine zD (zr (Value.agg #[(I3 ((toldC (LineV.fs b) 71).1)), (I3 ((toldC (LineV.fs b) 71).2.1))]) (zr (U8 ((toldC (LineV.fs b) 71).2.2.1)) (zr (I6 ((toldC (LineV.fs b) 71).2.2.2)) (zN [(I3 0), (I3 0)] 32 ?_))))
   intro fw fk ab
   replace u := u.tr ap
   have bn := ab.ge u.size
   have y := ab.here
   refine qQ [(I3 ((toldC (LineV.fs b) 71).1)), (I3 ((toldC (LineV.fs b) 71).2.1))] y ?_
   intro fi ad
   replace h := zC (zC (zC (zC h ao) ac.below) ap) ab.below
   replace h := zI h ad (zU h y zi)
   replace j := zC (zC (zC (zC j ao) ac.below) ap) ab.below
   replace j := zI j ad (zU j y zi)
   replace l := zC (zC (zC (zC l ao) ac.below) ap) ab.below
   replace l := zI l ad (zU l y zi)
   replace g := zC (zC (zC (zC g ao) ac.below) ap) ab.below
   replace g := zI g ad (zU g y zi)
   replace p := zC (zC (zC (zC p ao) ac.below) ap) ab.below
   replace p := zI p ad (zU p y zi)
   replace q := zC (zC (zC (zC q ao) ac.below) ap) ab.below
   replace q := zI q ad (zU q y zi)
   replace o := ((o.below ac.below).below ap).below ab.below
   replace o := o.wrote ad (o.ne y zi)
   replace n := (((n.below ao).below ac.below).below ap).below ab.below
   replace n := n.wrote ad (n.ne y zi)
   replace c := (((c.below ao).below ac.below).below ap).below ab.below
   replace c := c.wrote ad (c.ne y zi)
   replace d := (((d.below ao).below ac.below).below ap).below ab.below
   replace d := d.wrote ad (d.ne y zi)
   replace a := (((a.below ao).below ac.below).below ap).below ab.below
   replace a := a.wrote ad (a.ne y zi)
   replace y := ad.here
   refine zH (zH (nW (wR (zD (zNe .i64 ((toldC (LineV.fs b) 71).2.2.2) 0 ?_ ?_)))))
   ·intro et
    refine nQ (zT (wR (zD (zH (nQ (zR (zG (zZ [(I6 ((toldC (LineV.fs b) 71).2.2.2))] ?_))))))))
    show L _ _ _ _ _ _ (Fm.put _ _ (I6 ((toldC (LineV.fs b) 71).2.2.2))) _
    refine zQ ?_
    refine ⟨rfl, ip 7 rfl (I6 ((toldC (LineV.fs b) 71).2.2.2)) (yJ zk (zB (wR (zD (zNe .i64 ((toldC (LineV.fs b) 71).2.2.2) 0 ?_ ?_)))))⟩
    ·intro fu
     refine nQ (zT (yA (wD 9 zk zk zk ?_)))
     intro fd c3
     refine ip 0 rfl (S f) (ip 1 rfl (pt bp 0) (ip 3 rfl (I6 ((toldC (LineV.fs b) 71).2.2.2)) (ip 7 rfl (.pointer none) (yC 2 zk (yO 2 rfl ?_ rfl)))))
     replace q := zC q c3
     refine zO 0 q rfl (zQ ?_)
     refine ⟨rfl, ip 4 rfl (Value.agg #[(S f), (I6 b.1), (I6 ((toldC (LineV.fs b) 71).2.2.2))]) (yC 5 zk (yO 5 rfl ?_ rfl))⟩
     refine zN [(S f), (I6 b.1), (I6 ((toldC (LineV.fs b) 71).2.2.2))] 75 ?_
     intro b7 ej cd
     replace u := ((u.tr ab.below).trans (ad.below bn)).tr c3
     have a9 := cd.ge u.size
     have a8 := cd.here
     refine zQ ?_
     refine ⟨rfl, ip 6 rfl (.iface 73 (pt b7 0)) (ip 8 rfl (.iface 73 (pt b7 0)) (yJ zk (zB (zR (zL (zG (zG (zL (zG (wN (ds := []) bx (vL [.tmp 4, .tmp 5] [(.pointer none), (.iface 73 (pt b7 0))] rfl ⟨zk, zk, trivial⟩ ?_)))))))))))⟩
     have oE : ej.heap[b7]? = some (.cells [(S f), (I6 ((clsF s).2.1)), (I6 ((clsF s).2.2))].toArray 75 (0, 0)) := by (rw [cb_miss i3 za za za]; exact a8)
     replace u := u.tr cd.below
     exact ⟨b7, rfl, oE, a9, u⟩
    intro eh
    exact absurd eh et
   intro fo
   refine nQ (zF (zK (zB (yA (wD 13 zk zk zk ?_)))))
   intro fp r
   refine ip 0 rfl (pt z 0) (ip 1 rfl (pt z 0) (ip 2 rfl (pt z 0) (ip 3 rfl (pt z 2) (ip 6 rfl (U8 ((toldC (LineV.fs b) 71).2.2.1)) (qD 4 5 zk ?_ ?_)))))
   ·skip
    refine yO 4 rfl ?_ rfl
    replace g := zC g r
    refine zO 2 g rfl (zQ ?_)
    refine ⟨rfl, yC 5 zk (yO 5 rfl ?_ rfl)⟩
    replace y := zC y r
    refine vT y (zQ ?_)
    refine ⟨rfl, ip 7 rfl (Value.agg #[(I3 ((toldC (LineV.fs b) 71).1)), (I3 ((toldC (LineV.fs b) 71).2.1)), (U8 ((toldC (LineV.fs b) 71).2.2.1))]) (yC 8 zk (yO 8 rfl ?_ rfl))⟩
    refine zM 1 [(I3 ((toldC (LineV.fs b) 71).1)), (I3 ((toldC (LineV.fs b) 71).2.1)), (U8 ((toldC (LineV.fs b) 71).2.2.1))] 45 ?_
    intro c2 eg aj
    replace u := ((u.tr ab.below).trans (ad.below bn)).tr r
    have de := aj.ge u.size
    replace a := a.below r
    have bh : Value.ownBlock aa = none ∨ Value.ownBlock aa ≠ Value.ownBlock (.slice (some ⟨c2, 0, none⟩) 1 1) := .inr (a.new_ne aj)
    have bf := yW bh
    have ck : Row eg w.heap.size 45 3 encSpanC (.slice (some ⟨c2, 0, none⟩) 1 1) ([((toldC (LineV.fs b) 71).1, (toldC (LineV.fs b) 71).2.1, (toldC (LineV.fs b) 71).2.2.1)] : List (Int × Int × Int)) := Row.made ([((toldC (LineV.fs b) 71).1, (toldC (LineV.fs b) 71).2.1, (toldC (LineV.fs b) 71).2.2.1)] : List (Int × Int × Int)) aj de rfl rfl (by first | decide | (simp; done))
    refine zQ ?_
    refine ⟨rfl, yC 9 zk (yO 9 rfl ?_ rfl)⟩
    replace u := u.tr aj.below
    replace a := a.below aj.below
    refine xM el42 w.heap.size aa (.slice (some ⟨c2, 0, none⟩) 1 1) mm ([((toldC (LineV.fs b) 71).1, (toldC (LineV.fs b) 71).2.1, (toldC (LineV.fs b) 71).2.2.1)] : List (Int × Int × Int)) u.size a ck.rd (by (simp only [List.length_append, List.length_cons, List.length_nil] <;> omega)) zj zj zk zk zk ?_
    intro cz f0 d0 a2 dl 
    have dr := xD ck dl bf
    replace u := u.tg u.size a2 a
    replace h := zC (zC h r) aj.below
    replace h := zY h a2 (a.ne h zi)
    replace j := zC (zC j r) aj.below
    replace j := zY j a2 (a.ne j zi)
    replace l := zC (zC l r) aj.below
    replace l := zY l a2 (a.ne l zi)
    replace g := zC g aj.below
    replace g := zY g a2 (a.ne g zi)
    replace p := zC (zC p r) aj.below
    replace p := zY p a2 (a.ne p zi)
    replace o := (o.below r).below aj.below
    replace o := o.grown a2 (o.apart a zk)
    replace n := (n.below r).below aj.below
    replace n := n.grown a2 (n.apart a zk)
    replace c := (c.below r).below aj.below
    replace c := c.grown a2 (c.apart a zk)
    replace d := (d.below r).below aj.below
    replace d := d.grown a2 (d.apart a zk)
    replace a := d0
    refine zQ ?_
    refine ⟨rfl, ip 10 rfl (pt z 0) (ip 11 rfl (pt z 2) (yC 12 zk (yO 12 rfl ?_ rfl)))⟩
    refine xC z 2 cz [(pt bb 0), (pt ba 0), aa, (pt be 0)] [(pt bb 0), (pt ba 0), cz, (pt be 0)] 66 zk zk a.one zk g zi rfl ?_
    intro ff av
    replace h := zI h av (zU h g zi)
    replace j := zI j av (zU j g zi)
    replace l := zI l av (zU l g zi)
    replace p := zI p av (zU p g zi)
    replace o := o.wrote av (o.ne g zi)
    replace n := n.wrote av (n.ne g zi)
    replace c := c.wrote av (c.ne g zi)
    replace d := d.wrote av (d.ne g zi)
    replace a := a.wrote av (a.ne g zi)
    replace g := av.here
    refine zQ ?_
    refine ⟨rfl, yJ zk (zB (wR (zH (nQ (zR (zZ [(I6 0)] ?_))))))⟩
    show L _ _ _ _ _ _ (Fm.put _ _ (I6 0)) _
    refine zQ ?_
    refine ⟨rfl, ip 7 rfl (I6 0) (yJ zk (zB (wR (zD (zr (.bool false) (nQ (zF (zK (zJ (zB (zP (xN i 1 (zD (zQ ?_))))))))))))))⟩
    replace u := u.trans (av.below cb)
    refine zB ⟨_, zo, (i + 1), am, lm, (mm ++ ([((toldC (LineV.fs b) 71).1, (toldC (LineV.fs b) 71).2.1, (toldC (LineV.fs b) 71).2.2.1)] : List (Int × Int × Int))), ah, ag, cz, rfl, bx, zk, o, n, c, d, a, h, j, l, g, p, u, zo, ?_, ?_, ?_, ?_, ?_⟩
    ·exact invC_on i3 za (st_miss za za)
    ·exact oa
    ·exact ol
    ·(simp only [List.length_append, List.length_cons, List.length_nil]; omega)
    first | exact om | exact uS om _ _ _
   skip
   refine yO 5 rfl ?_ rfl
   replace y := zC y r
   refine vT y (zQ ?_)
   refine ⟨rfl, ip 7 rfl (Value.agg #[(I3 ((toldC (LineV.fs b) 71).1)), (I3 ((toldC (LineV.fs b) 71).2.1)), (U8 ((toldC (LineV.fs b) 71).2.2.1))]) (qD 4 8 zk ?_ ?_)⟩
   ·skip
    refine yO 4 rfl ?_ rfl
    replace g := zC g r
    refine zO 2 g rfl (zQ ?_)
    refine ⟨rfl, yC 8 zk (yO 8 rfl ?_ rfl)⟩
    refine zM 1 [(I3 ((toldC (LineV.fs b) 71).1)), (I3 ((toldC (LineV.fs b) 71).2.1)), (U8 ((toldC (LineV.fs b) 71).2.2.1))] 45 ?_
    intro cy d7 ai
    replace u := ((u.tr ab.below).trans (ad.below bn)).tr r
    have dg := ai.ge u.size
    replace a := a.below r
    have bk : Value.ownBlock aa = none ∨ Value.ownBlock aa ≠ Value.ownBlock (.slice (some ⟨cy, 0, none⟩) 1 1) := .inr (a.new_ne ai)
    have bi := yW bk
    have ci : Row d7 w.heap.size 45 3 encSpanC (.slice (some ⟨cy, 0, none⟩) 1 1) ([((toldC (LineV.fs b) 71).1, (toldC (LineV.fs b) 71).2.1, (toldC (LineV.fs b) 71).2.2.1)] : List (Int × Int × Int)) := Row.made ([((toldC (LineV.fs b) 71).1, (toldC (LineV.fs b) 71).2.1, (toldC (LineV.fs b) 71).2.2.1)] : List (Int × Int × Int)) ai dg rfl rfl (by first | decide | (simp; done))
    refine zQ ?_
    refine ⟨rfl, yC 9 zk (yO 9 rfl ?_ rfl)⟩
    replace u := u.tr ai.below
    replace a := a.below ai.below
    refine xM el42 w.heap.size aa (.slice (some ⟨cy, 0, none⟩) 1 1) mm ([((toldC (LineV.fs b) 71).1, (toldC (LineV.fs b) 71).2.1, (toldC (LineV.fs b) 71).2.2.1)] : List (Int × Int × Int)) u.size a ci.rd (by (simp only [List.length_append, List.length_cons, List.length_nil] <;> omega)) zj zj zk zk zk ?_
    intro da fc d3 a1 dd 
    have dq := xD ci dd bi
    replace u := u.tg u.size a1 a
    replace h := zC (zC h r) ai.below
    replace h := zY h a1 (a.ne h zi)
    replace j := zC (zC j r) ai.below
    replace j := zY j a1 (a.ne j zi)
    replace l := zC (zC l r) ai.below
    replace l := zY l a1 (a.ne l zi)
    replace g := zC g ai.below
    replace g := zY g a1 (a.ne g zi)
    replace p := zC (zC p r) ai.below
    replace p := zY p a1 (a.ne p zi)
    replace o := (o.below r).below ai.below
    replace o := o.grown a1 (o.apart a zk)
    replace n := (n.below r).below ai.below
    replace n := n.grown a1 (n.apart a zk)
    replace c := (c.below r).below ai.below
    replace c := c.grown a1 (c.apart a zk)
    replace d := (d.below r).below ai.below
    replace d := d.grown a1 (d.apart a zk)
    replace a := d3
    refine zQ ?_
    refine ⟨rfl, ip 10 rfl (pt z 0) (ip 11 rfl (pt z 2) (yC 12 zk (yO 12 rfl ?_ rfl)))⟩
    refine xC z 2 da [(pt bb 0), (pt ba 0), aa, (pt be 0)] [(pt bb 0), (pt ba 0), da, (pt be 0)] 66 zk zk a.one zk g zi rfl ?_
    intro fh aw
    replace h := zI h aw (zU h g zi)
    replace j := zI j aw (zU j g zi)
    replace l := zI l aw (zU l g zi)
    replace p := zI p aw (zU p g zi)
    replace o := o.wrote aw (o.ne g zi)
    replace n := n.wrote aw (n.ne g zi)
    replace c := c.wrote aw (c.ne g zi)
    replace d := d.wrote aw (d.ne g zi)
    replace a := a.wrote aw (a.ne g zi)
    replace g := aw.here
    refine zQ ?_
    refine ⟨rfl, yJ zk (zB (wR (zH (nQ (zR (zZ [(I6 0)] ?_))))))⟩
    show L _ _ _ _ _ _ (Fm.put _ _ (I6 0)) _
    refine zQ ?_
    refine ⟨rfl, ip 7 rfl (I6 0) (yJ zk (zB (wR (zD (zr (.bool false) (nQ (zF (zK (zJ (zB (zP (xN i 1 (zD (zQ ?_))))))))))))))⟩
    replace u := u.trans (aw.below cb)
    refine zB ⟨_, zo, (i + 1), am, lm, (mm ++ ([((toldC (LineV.fs b) 71).1, (toldC (LineV.fs b) 71).2.1, (toldC (LineV.fs b) 71).2.2.1)] : List (Int × Int × Int))), ah, ag, da, rfl, bx, zk, o, n, c, d, a, h, j, l, g, p, u, zo, ?_, ?_, ?_, ?_, ?_⟩
    ·exact invC_on i3 za (st_miss za za)
    ·exact oa
    ·exact ol
    ·(simp only [List.length_append, List.length_cons, List.length_nil]; omega)
    first | exact om | exact uS om _ _ _
   skip
   refine yO 8 rfl ?_ rfl
   refine zM 1 [(I3 ((toldC (LineV.fs b) 71).1)), (I3 ((toldC (LineV.fs b) 71).2.1)), (U8 ((toldC (LineV.fs b) 71).2.2.1))] 45 ?_
   intro cr ee al
   replace u := ((u.tr ab.below).trans (ad.below bn)).tr r
   have dh := al.ge u.size
   replace a := a.below r
   have bl : Value.ownBlock aa = none ∨ Value.ownBlock aa ≠ Value.ownBlock (.slice (some ⟨cr, 0, none⟩) 1 1) := .inr (a.new_ne al)
   have bj := yW bl
   have cl : Row ee w.heap.size 45 3 encSpanC (.slice (some ⟨cr, 0, none⟩) 1 1) ([((toldC (LineV.fs b) 71).1, (toldC (LineV.fs b) 71).2.1, (toldC (LineV.fs b) 71).2.2.1)] : List (Int × Int × Int)) := Row.made ([((toldC (LineV.fs b) 71).1, (toldC (LineV.fs b) 71).2.1, (toldC (LineV.fs b) 71).2.2.1)] : List (Int × Int × Int)) al dh rfl rfl (by first | decide | (simp; done))
   refine zQ ?_
   refine ⟨rfl, yC 4 zk (yO 4 rfl ?_ rfl)⟩
   replace g := zC (zC g r) al.below
   refine zO 2 g rfl (zQ ?_)
   refine ⟨rfl, yC 9 zk (yO 9 rfl ?_ rfl)⟩
   replace u := u.tr al.below
   replace a := a.below al.below
   refine xM el42 w.heap.size aa (.slice (some ⟨cr, 0, none⟩) 1 1) mm ([((toldC (LineV.fs b) 71).1, (toldC (LineV.fs b) 71).2.1, (toldC (LineV.fs b) 71).2.2.1)] : List (Int × Int × Int)) u.size a cl.rd (by (simp only [List.length_append, List.length_cons, List.length_nil] <;> omega)) zj zj zk zk zk ?_
   intro cu ft du a0 dj 
   have dn := xD cl dj bj
   replace u := u.tg u.size a0 a
   replace h := zC (zC h r) al.below
   replace h := zY h a0 (a.ne h zi)
   replace j := zC (zC j r) al.below
   replace j := zY j a0 (a.ne j zi)
   replace l := zC (zC l r) al.below
   replace l := zY l a0 (a.ne l zi)
   replace g := zY g a0 (a.ne g zi)
   replace p := zC (zC p r) al.below
   replace p := zY p a0 (a.ne p zi)
   replace o := (o.below r).below al.below
   replace o := o.grown a0 (o.apart a zk)
   replace n := (n.below r).below al.below
   replace n := n.grown a0 (n.apart a zk)
   replace c := (c.below r).below al.below
   replace c := c.grown a0 (c.apart a zk)
   replace d := (d.below r).below al.below
   replace d := d.grown a0 (d.apart a zk)
   replace a := du
   refine zQ ?_
   refine ⟨rfl, ip 10 rfl (pt z 0) (ip 11 rfl (pt z 2) (yC 12 zk (yO 12 rfl ?_ rfl)))⟩
   refine xC z 2 cu [(pt bb 0), (pt ba 0), aa, (pt be 0)] [(pt bb 0), (pt ba 0), cu, (pt be 0)] 66 zk zk a.one zk g zi rfl ?_
   intro fa ax
   replace h := zI h ax (zU h g zi)
   replace j := zI j ax (zU j g zi)
   replace l := zI l ax (zU l g zi)
   replace p := zI p ax (zU p g zi)
   replace o := o.wrote ax (o.ne g zi)
   replace n := n.wrote ax (n.ne g zi)
   replace c := c.wrote ax (c.ne g zi)
   replace d := d.wrote ax (d.ne g zi)
   replace a := a.wrote ax (a.ne g zi)
   replace g := ax.here
   refine zQ ?_
   refine ⟨rfl, yJ zk (zB (wR (zH (nQ (zR (zZ [(I6 0)] ?_))))))⟩
   show L _ _ _ _ _ _ (Fm.put _ _ (I6 0)) _
   refine zQ ?_
   refine ⟨rfl, ip 7 rfl (I6 0) (yJ zk (zB (wR (zD (zr (.bool false) (nQ (zF (zK (zJ (zB (zP (xN i 1 (zD (zQ ?_))))))))))))))⟩
   replace u := u.trans (ax.below cb)
   refine zB ⟨_, zo, (i + 1), am, lm, (mm ++ ([((toldC (LineV.fs b) 71).1, (toldC (LineV.fs b) 71).2.1, (toldC (LineV.fs b) 71).2.2.1)] : List (Int × Int × Int))), ah, ag, cu, rfl, bx, zk, o, n, c, d, a, h, j, l, g, p, u, zo, ?_, ?_, ?_, ?_, ?_⟩
   ·exact invC_on i3 za (st_miss za za)
   ·exact oa
   ·exact ol
   ·(simp only [List.length_append, List.length_cons, List.length_nil]; omega)
   first | exact om | exact uS om _ _ _
  intro fj
  exfalso; exact hbad (by rw [invC_end i3 za])
 skip
 refine zc (c_lines_Read_bad f s _ zo zo) ?_
 rintro _ el ⟨b1, rfl, c7, bs, dv⟩
 replace bs := Nat.le_trans u.size bs
 refine zD (zr (.slice none 0 0) (zr (.iface 73 (pt b1 0)) (zH (zH (nW (wR (zD (zr (.bool true) (nQ (zT (wR (zD (zH (zH (nQ (zR (zG (wN (ds := []) zk (vL [.tmp 4, .tmp 5] [(.pointer none), (.iface 73 (pt b1 0))] rfl ⟨zk, zk, trivial⟩ ?_)))))))))))))))))))
 have oE : el.heap[b1]? = some (.cells [(S f), (I6 ((clsF s).2.1)), (I6 ((clsF s).2.2))].toArray 75 (0, 0)) := by (rw [cls_bad za]; exact c7)
 replace u := u.tr dv
 exact ⟨b1, rfl, oE, bs, u⟩
end Go.Proofs.YtkclikfejmeblaaGreatDoor
end

/- === Wctb2 === -/
section
/- Walks, written by my program walk.py out of the specification ctb2.py: each theorem says what one function returns and that it leaves memory as it was. -/
namespace Go.Proofs.YtkclikfejmeblaaGreatDoor
open Go Go.RowKit Go.FK _root_.Go.Proofs.Tryz
set_option maxHeartbeats 4000000
set_option maxRecDepth 100000
theorem c_tnone (a : Nat) (e : Nat) (c : Nat) (b : Value) (d : Nat) (w : World) (f : w.heap[a]? = some (.cells [(pt e 0), (pt c 0), b, (pt d 0)].toArray 66 (0, 0))) :
  Calls Tryz.prog 38 #[(pt a 0)] w (Ret fun v w' => v = (.bool false) ∧ Below w.heap.size w w') := by
 refine wJ 12 func38 rfl ?_
 have g := Below.refl w.heap.size w
 exact wR (zH (nR (zD (zr (.bool false) (zD (zw (zD (zw (zr (pt a 0) (zw (zr (pt a 3) (zw (zO 3 f rfl (zw (zr (.bool false) (xF (zH (nQ (zR (zZ [(.bool false)] ⟨rfl, g⟩))))))))))))))))))))
theorem c_plain (r : Int) (w : World) :
  Calls Tryz.prog 40 #[(I3 r)] w (Ret fun v w' => v = (I3 (plainF r)) ∧ Below w.heap.size w w') := by
 refine wJ 10 func40 rfl ?_
 have a := Below.refl w.heap.size w
 refine wR (zH (nW (wR (zD (zLt .i32 r 0 ?_ ?_)))))
 ·intro e
  exact zD (zs (zs (xJ (nQ (zT (wR (zH (nQ (zR (zG (zZ [(I3 65533)] ⟨e3 (by exact plain_y zo), a⟩)))))))))))
 intro d
 refine zD (zw (zD (zw (zGt .i32 r 1114111 ?_ ?_))))
 ·intro c
  exact xF (nQ (zT (wR (zH (nQ (zR (zG (zZ [(I3 65533)] ⟨e3 (by exact plain_y zo), a⟩))))))))
 intro b
 exact xF (nQ (zF (zK (zB (wR (zD (zH (nQ (zR (zZ [(I3 r)] ⟨e3 (by exact plain_n zo zo), a⟩))))))))))
theorem c_tClass (b : Nat) (j : Nat) (i : Nat) (h : Value) (a : Nat) (r : Int) (e : Value) (wh : List (Int × Int × Int)) (w : World) (f : w.heap[b]? = some (.cells [(pt j 0), (pt i 0), h, (pt a 0)].toArray 66 (0, 0))) (d : w.heap[a]? = some (.cells [e, (.bool true)].toArray 115 (0, 0))) (c : Rd w encSpanC e wh) (hr : RiseG 0 wh) :
  Calls Tryz.prog 12 #[(pt b 0), (I3 r)] w (Ret fun v w' => v = (U8 ((atM 0 wh (plainF r)).1)) ∧ Below w.heap.size w w') := by
 refine wJ 20 func12 rfl ?_
 have k := Below.refl w.heap.size w
 refine wR (zH (nW (wR (zD (zc (c_tnone b j i h a _ f) ?_)))))
 rintro _ m ⟨rfl, g⟩
 have f := zC f g
 have d := zC d g
 have c := c.below g
 refine nQ (zF (zK (zB (yA (xX zk zk (zV (yB (pt b 0) zf (yB (pt b 3) zf (yD b 3 (pt a 0) zk zf (yI f rfl) (zV (uX 40 [(I3 r)] (I3 (plainF r)) zg (fun wq hbq => c_plain r wq ) (uX 39 [(pt a 0), (I3 (plainF r))] (.tuple #[(U8 ((atM 0 wh (plainF r)).1)), (.bool ((atM 0 wh (plainF r)).2))]) zg (fun wq hbq => c_at_C a e wh (plainF r) wq (zC d hbq) (c.below hbq) (by exact hr)) (zV (yB (U8 ((atM 0 wh (plainF r)).1)) zf (yB (.bool ((atM 0 wh (plainF r)).2)) zf (qZ (qZ (yQ ?_))))))))))))))))))
 intro n l
 have k := (k.tr g).tr l
 exact zB (wR (zD (zH (nQ (zR (zZ [(U8 ((atM 0 wh (plainF r)).1))] ⟨rfl, k⟩))))))
theorem c_tGiven (b : Nat) (a : Nat) (i : Nat) (h : Value) (j : Nat) (r : Int) (e : Value) (am : List (Int × Int × Int)) (w : World) (f : w.heap[b]? = some (.cells [(pt a 0), (pt i 0), h, (pt j 0)].toArray 66 (0, 0))) (d : w.heap[a]? = some (.cells [e, (.bool true)].toArray 115 (0, 0))) (c : Rd w encSpanC e am) (hr : RiseG 0 am) :
  Calls Tryz.prog 13 #[(pt b 0), (I3 r)] w (Ret fun v w' => v = (.tuple #[(U8 ((atM 0 am (plainF r)).1)), (.bool ((atM 0 am (plainF r)).2))]) ∧ Below w.heap.size w w') := by
 refine wJ 17 func13 rfl ?_
 have k := Below.refl w.heap.size w
 refine wR (zH (zH (nW (wR (zD (zc (c_tnone b a i h j _ f) ?_))))))
 rintro _ m ⟨rfl, g⟩
 have d := zC d g
 have f := zC f g
 have c := c.below g
 refine nQ (zF (zK (zB (yA (xX zk zk (zV (yB (pt b 0) zf (yB (pt b 0) zf (yD b 0 (pt a 0) zk zf (yI f rfl) (zV (uX 40 [(I3 r)] (I3 (plainF r)) zg (fun wq hbq => c_plain r wq ) (uX 39 [(pt a 0), (I3 (plainF r))] (.tuple #[(U8 ((atM 0 am (plainF r)).1)), (.bool ((atM 0 am (plainF r)).2))]) zg (fun wq hbq => c_at_C a e am (plainF r) wq (zC d hbq) (c.below hbq) (by exact hr)) (yB (U8 ((atM 0 am (plainF r)).1)) zf (yB (.bool ((atM 0 am (plainF r)).2)) zf (qZ (qZ (yQ ?_)))))))))))))))))
 intro n l
 have k := (k.tr g).tr l
 exact zB (zR (zZ [(U8 ((atM 0 am (plainF r)).1)), (.bool ((atM 0 am (plainF r)).2))] ⟨rfl, k⟩))
theorem c_tLine (b : Nat) (j : Nat) (a : Nat) (h : Value) (i : Nat) (r : Int) (d : Value) (lm : List (Int × Int × Int)) (w : World) (f : w.heap[b]? = some (.cells [(pt j 0), (pt a 0), h, (pt i 0)].toArray 66 (0, 0))) (e : w.heap[a]? = some (.cells [d, (.bool true)].toArray 118 (0, 0))) (c : Rd w encSpanI d lm) (hr : RiseG 0 lm) :
  Calls Tryz.prog 14 #[(pt b 0), (I3 r)] w (Ret fun v w' => v = (I6 ((atM 0 lm (plainF r)).1)) ∧ Below w.heap.size w w') := by
 refine wJ 20 func14 rfl ?_
 have k := Below.refl w.heap.size w
 refine wR (zH (nW (wR (zD (zc (c_tnone b j a h i _ f) ?_)))))
 rintro _ m ⟨rfl, g⟩
 have e := zC e g
 have f := zC f g
 have c := c.below g
 refine nQ (zF (zK (zB (yA (xX zk zk (zV (yB (pt b 0) zf (yB (pt b 1) zf (yD b 1 (pt a 0) zk zf (yI f rfl) (zV (uX 40 [(I3 r)] (I3 (plainF r)) zg (fun wq hbq => c_plain r wq ) (uX 41 [(pt a 0), (I3 (plainF r))] (.tuple #[(I6 ((atM 0 lm (plainF r)).1)), (.bool ((atM 0 lm (plainF r)).2))]) zg (fun wq hbq => c_at_I a d lm (plainF r) wq (zC e hbq) (c.below hbq) (by exact hr)) (zV (yB (I6 ((atM 0 lm (plainF r)).1)) zf (yB (.bool ((atM 0 lm (plainF r)).2)) zf (qZ (qZ (yQ ?_))))))))))))))))))
 intro n l
 have k := (k.tr g).tr l
 exact zB (wR (zD (zH (nQ (zR (zZ [(I6 ((atM 0 lm (plainF r)).1))] ⟨rfl, k⟩))))))
theorem c_clone_M (b : Value) (s : List (Int × Int × Int)) (w : World) (e : Rd w encSpanC b s) (hl : s.length ≤ 67108864) :
  Calls Tryz.prog 48 #[b] w (Ret fun v w' => ∃ (q0 : Value), v = q0 ∧ Row w' w.heap.size 45 3 encSpanC q0 s ∧ Below w.heap.size w w') := by
 refine wJ 8 func48 rfl ?_
 have d := Below.refl w.heap.size w
 refine wR (zH (nW (wR (zD (L_snil b s e zk zk (fun _ _ _ => zk) (fun _ _ _ _ => zk) ?_ ?_)))))
 ·intro n
  exact nQ (zT (wR (zH (nQ (zR (zG (zZ [(.slice none 0 0)] ⟨(.slice none 0 0), rfl, (Row.nil _ _ _ _ _).cast (by (subst s; rfl)), d⟩)))))))
 refine nQ (zF (zK (zB (wR (zM 0 [] 45 ?_)))))
 intro i l c
 have f := c.ge d.size
 have a : Row l w.heap.size 45 3 encSpanC (.slice (some ⟨i, 0, none⟩) 0 0) ([] : List (Int × Int × Int)) := Row.made ([] : List (Int × Int × Int)) c f rfl rfl (by first | decide | (simp; done))
 have d := d.tr c.below
 have e := e.below c.below
 refine zD (xM el42 w.heap.size (.slice (some ⟨i, 0, none⟩) 0 0) b ([] : List (Int × Int × Int)) s d.size a e (by (simp only [List.length_append, List.length_nil] <;> omega)) zj zj zk zk zk ?_)
 intro j m h g k 
 have d := d.tg d.size g a
 have a := h
 exact zH (nQ (zR (zZ [j] ⟨j, rfl, a.cast (by rfl), d⟩)))
theorem c_tMissing (d : Nat) (h : Nat) (f : Nat) (a : Value) (mm : List (Int × Int × Int)) (g : Nat) (w : World) (e : w.heap[d]? = some (.cells [(pt h 0), (pt f 0), a, (pt g 0)].toArray 66 (0, 0))) (c : Rd w encSpanC a mm) (hl : mm.length ≤ 67108864) :
  Calls Tryz.prog 16 #[(pt d 0)] w (Ret fun v w' => ∃ (q0 : Value), v = q0 ∧ Row w' w.heap.size 45 3 encSpanC q0 mm ∧ Below w.heap.size w w') := by
 refine wJ 10 func16 rfl ?_
 have j := Below.refl w.heap.size w
 refine wR (zH (nW (wR (zD (zc (c_tnone d h f a g _ e) ?_)))))
 rintro _ m ⟨rfl, i⟩
 have e := zC e i
 have c := c.below i
 refine nQ (zF (zK (zB (wR (zD (zr (pt d 0) (wB 2 e rfl (zc (c_clone_M a mm _ c zo) ?_))))))))
 rintro l n ⟨_, rfl, b, k⟩
 have j := j.tr i
 have b := b.base j.size
 have j := j.tr k
 exact zH (nQ (zR (zZ [l] ⟨l, rfl, b, j⟩)))
theorem it_Named (bx_t n : Nat) (e : Nat) (t : Nat) (r : Value) (p : Nat) (f : Value) (am : List (Int × Int × Int)) (hl : am.length ≤ 4194304) :
  Iter (α := SpI) Tryz.prog 70 [.pointer (some ⟨bx_t, 0, none⟩)] (fun x => [.agg #[.int .i32 x.1, .int .i32 x.2.1], .int .u8 x.2.2]) am (fun w => w.heap[bx_t]? = some (.cells [(pt n 0)].toArray 23 (0, 0)) ∧ w.heap[n]? = some (.cells [(pt e 0), (pt t 0), r, (pt p 0)].toArray 66 (0, 0)) ∧ w.heap[e]? = some (.cells [f, (.bool true)].toArray 115 (0, 0)) ∧ Rd w encSpanC f am) := by
 intro l J Jx w hN h0 z y hY
 refine wJ 13 func70 rfl ?_
 have u := Below.refl w.heap.size w
 obtain ⟨c, b, a, d⟩ := hN
 refine wR (zO 0 c rfl (zc (c_tnone n e t r p _ b) ?_))
 rintro _ w1 ⟨rfl, o⟩
 have a := zC a o
 have b := zC b o
 have c := zC c o
 have d := d.below o
 refine qO false (nQ (zT (zP (zO 0 c rfl (zr (pt n 0) (wB 0 b rfl (zc (c_all_C e f am _ a d) ?_)))))))
 rintro _ w4 ⟨ab, rfl, q, j, s⟩
 have u := u.tr o
 replace j := Nat.le_trans u.size j
 refine zD ?_
 have c := zC c s
 have m := yL c
 have b := zC b s
 have i := yL b
 have a := zC a s
 have g := yL a
 have u := u.tr s
 have d := d.below s
 refine zc (iter_tail (N := fun w => w.heap[bx_t]? = some (.cells [(pt n 0)].toArray 23 (0, 0)) ∧ w.heap[n]? = some (.cells [(pt e 0), (pt t 0), r, (pt p 0)].toArray 66 (0, 0)) ∧ w.heap[e]? = some (.cells [f, (.bool true)].toArray 115 (0, 0)) ∧ Rd w encSpanC f am) (it_all_C ab e f am zo) ⟨q, a, d⟩ u.size (fun A hA => h0 A (u.trans (hA.mono u.size))) z y (fun A hA => ⟨zC c hA, zC b hA, zC a hA, d.below hA⟩) (fun K A B h hc => ⟨yG h.1 hc (fun hi => Nat.not_lt.2 hi.1 m), yG h.2.1 hc (fun hi => Nat.not_lt.2 hi.1 i), yG h.2.2.1 hc (fun hi => Nat.not_lt.2 hi.1 g), Rd.ch d (Nat.le_refl _) h.2.2.2 hc (fun k h => h.1)⟩) (fun K A B hK h1 hn hk => ⟨(hk.same _ ⟨j, Nat.lt_of_lt_of_le (yL q) hK⟩).trans h1.1, hn.2.2.1, hn.2.2.2⟩) hY) ?_
 rintro v9 w8 ⟨aa, v⟩
 refine zQ (znrm [] ?_)
 exact ⟨Nat.le_trans u.size aa, v⟩
theorem c_tNamed (a : Nat) (g : Nat) (e : Nat) (c : Value) (f : Nat) (w : World) (k : w.heap[a]? = some (.cells [(pt g 0), (pt e 0), c, (pt f 0)].toArray 66 (0, 0))) :
  Calls Tryz.prog 36 #[(pt a 0)] w (Ret fun v w' => ∃ (cb0 : Nat), v = (.func (.func 70) #[] #[(pt cb0 0)]) ∧ w'.heap[cb0]? = some (.cells [(pt a 0)].toArray 23 (0, 0)) ∧ w.heap.size ≤ cb0 ∧ Below w.heap.size w w') := by
 refine wJ 4 func36 rfl ?_
 have i := Below.refl w.heap.size w
 refine wR (zN [(pt a 0)] 23 ?_)
 intro j l b
 have d := b.ge i.size
 have h := b.here
 have i := i.tr b.below
 exact zH (nR (zr (.func (.func 70) #[] #[(pt j 0)]) (zH (nQ (zR (zZ [(.func (.func 70) #[] #[(pt j 0)])] ⟨j, rfl, h, d, i⟩))))))
theorem it_Whole (bx_t n : Nat) (r : Nat) (t : Nat) (q : Value) (e : Nat) (f : Value) (wh : List (Int × Int × Int)) (hl : wh.length ≤ 4194304) :
  Iter (α := SpI) Tryz.prog 71 [.pointer (some ⟨bx_t, 0, none⟩)] (fun x => [.agg #[.int .i32 x.1, .int .i32 x.2.1], .int .u8 x.2.2]) wh (fun w => w.heap[bx_t]? = some (.cells [(pt n 0)].toArray 23 (0, 0)) ∧ w.heap[n]? = some (.cells [(pt r 0), (pt t 0), q, (pt e 0)].toArray 66 (0, 0)) ∧ w.heap[e]? = some (.cells [f, (.bool true)].toArray 115 (0, 0)) ∧ Rd w encSpanC f wh) := by
 intro l J Jx w hN h0 z y hY
 refine wJ 13 func71 rfl ?_
 have u := Below.refl w.heap.size w
 obtain ⟨c, b, a, d⟩ := hN
 refine wR (zO 0 c rfl (zc (c_tnone n r t q e _ b) ?_))
 rintro _ w1 ⟨rfl, o⟩
 have b := zC b o
 have a := zC a o
 have c := zC c o
 have d := d.below o
 refine qO false (nQ (zT (zP (zO 0 c rfl (zr (pt n 0) (wB 3 b rfl (zc (c_all_C e f wh _ a d) ?_)))))))
 rintro _ w4 ⟨ab, rfl, p, j, s⟩
 have u := u.tr o
 replace j := Nat.le_trans u.size j
 refine zD ?_
 have c := zC c s
 have m := yL c
 have b := zC b s
 have i := yL b
 have a := zC a s
 have g := yL a
 have u := u.tr s
 have d := d.below s
 refine zc (iter_tail (N := fun w => w.heap[bx_t]? = some (.cells [(pt n 0)].toArray 23 (0, 0)) ∧ w.heap[n]? = some (.cells [(pt r 0), (pt t 0), q, (pt e 0)].toArray 66 (0, 0)) ∧ w.heap[e]? = some (.cells [f, (.bool true)].toArray 115 (0, 0)) ∧ Rd w encSpanC f wh) (it_all_C ab e f wh zo) ⟨p, a, d⟩ u.size (fun A hA => h0 A (u.trans (hA.mono u.size))) z y (fun A hA => ⟨zC c hA, zC b hA, zC a hA, d.below hA⟩) (fun K A B h hc => ⟨yG h.1 hc (fun hi => Nat.not_lt.2 hi.1 m), yG h.2.1 hc (fun hi => Nat.not_lt.2 hi.1 i), yG h.2.2.1 hc (fun hi => Nat.not_lt.2 hi.1 g), Rd.ch d (Nat.le_refl _) h.2.2.2 hc (fun k h => h.1)⟩) (fun K A B hK h1 hn hk => ⟨(hk.same _ ⟨j, Nat.lt_of_lt_of_le (yL p) hK⟩).trans h1.1, hn.2.2.1, hn.2.2.2⟩) hY) ?_
 rintro v9 w8 ⟨aa, v⟩
 refine zQ (znrm [] ?_)
 exact ⟨Nat.le_trans u.size aa, v⟩
theorem c_tWhole (a : Nat) (g : Nat) (e : Nat) (c : Value) (f : Nat) (w : World) (k : w.heap[a]? = some (.cells [(pt g 0), (pt e 0), c, (pt f 0)].toArray 66 (0, 0))) :
  Calls Tryz.prog 37 #[(pt a 0)] w (Ret fun v w' => ∃ (cb0 : Nat), v = (.func (.func 71) #[] #[(pt cb0 0)]) ∧ w'.heap[cb0]? = some (.cells [(pt a 0)].toArray 23 (0, 0)) ∧ w.heap.size ≤ cb0 ∧ Below w.heap.size w w') := by
 refine wJ 4 func37 rfl ?_
 have i := Below.refl w.heap.size w
 refine wR (zN [(pt a 0)] 23 ?_)
 intro j l b
 have d := b.ge i.size
 have h := b.here
 have i := i.tr b.below
 exact zH (nR (zr (.func (.func 71) #[] #[(pt j 0)]) (zH (nQ (zR (zZ [(.func (.func 71) #[] #[(pt j 0)])] ⟨j, rfl, h, d, i⟩))))))
end Go.Proofs.YtkclikfejmeblaaGreatDoor
end

/- === Wmbl2 === -/
section
/- Walks, written by my program walk.py out of the specification mbl2.py: each theorem says what one function returns and that it leaves memory as it was. -/
namespace Go.Proofs.YtkclikfejmeblaaGreatDoor
open Go Go.RowKit Go.FK _root_.Go.Proofs.Tryz
set_option maxHeartbeats 4000000
set_option maxRecDepth 100000
theorem bl_copy0 (b : Nat) (v : Value) (w : World) (ho : w.heap[b]? = some (.cells [(.pointer none), v].toArray 86 (0, 0))) :
  Calls Tryz.prog 75 #[(pt b 0)] w (Ret fun v1 d => v1 = (.tuple #[]) ∧ Wrote w d b (.cells [(pt b 0), v].toArray 86 (0, 0))) := by
 refine wJ 20 func75 rfl ?_
 have e := Below.refl w.heap.size w
 have c : w.heap.size ≤ w.heap.size := Nat.le_refl _
 refine wR (zD (zr (pt b 0) (wB 0 ho rfl (zr (.bool true) (nQ (zT (zP (zD (zD (L_toUns (k := 2) b underlying83 underlying145 zk zk ho zk zk (zr (pt b 0) (L_fromUns (k := 2) b underlying145 underlying83 zk ho zk zk (zr (pt b 0) (zr (pt b 0) (z1 0 (pt b 0) [(pt b 0), v] ho ?_)))))))))))))))
 intro d a
 replace c := Nat.le_trans c (Nat.le_of_eq a.size.symm)
 replace ho := a.here
 refine zQ (znrm [] ?_)
 exact ⟨rfl, a⟩
theorem bl_copy1 (b : Nat) (v : Value) (w : World) (ho : w.heap[b]? = some (.cells [(pt b 0), v].toArray 86 (0, 0))) :
  Calls Tryz.prog 75 #[(pt b 0)] w (Ret fun v1 w1 => v1 = (.tuple #[]) ∧ w1 = w) := by
 refine wJ 20 func75 rfl ?_
 have a := Below.refl w.heap.size w
 refine wR (zD (zr (pt b 0) (wB 0 ho rfl (zr (.bool false) (nQ (zF (wR (zD (zr (pt b 0) (wB 0 ho rfl (zD (L_pneF (k := 2) b underlying83 zk zk zk zk (nQ (zF (zK (znrm [] ?_))))))))))))))))
 exact ⟨rfl, rfl⟩
theorem bl_copy (b : Nat) (p v : Value) (w : World) (hp : p = .pointer none ∨ p = (pt b 0)) (ho : w.heap[b]? = some (.cells [p, v].toArray 86 (0, 0))) :
  Calls Tryz.prog 75 #[(pt b 0)] w (Ret fun v1 a => v1 = (.tuple #[]) ∧ ((a = w ∧ p = (pt b 0)) ∨ Wrote w a b (.cells [(pt b 0), v].toArray 86 (0, 0)))) := by
 rcases hp with rfl | rfl
 ·refine (bl_copy0 b v w ho).mono ?_
  rintro e a ⟨u, rfl, rfl, h⟩
  exact ⟨_, rfl, rfl, .inr h⟩
 refine (bl_copy1 b v w ho).mono ?_
 rintro e a ⟨u, rfl, rfl, h⟩
 exact ⟨_, rfl, rfl, .inl ⟨h, rfl⟩⟩
theorem bd_WriteString (a : Nat) (p : Value) (f : Value) (l : List (UInt8)) (x : List UInt8) (B_ : Nat) (w : World) (hs0 : B_ ≤ w.heap.size) (c : w.heap[a]? = some (.cells [p, f].toArray 86 (0, 0))) (u : B_ ≤ a) (b : Row w B_ 5 1 encByt f l) (hp : p = .pointer none ∨ p = .pointer (some ⟨a, 0, none⟩)) (hl : l.length ≤ 1073741824) (hx : x.length ≤ 1073741824) :
  Calls Tryz.prog 44 #[(pt a 0), (S x)] w (Ret fun v w' => ∃ q0 : Value, v = (.tuple #[(N6 x.length), .nilIface]) ∧ w'.heap[a]? = some (.cells [(pt a 0), q0].toArray 86 (0, 0)) ∧ Row w' B_ 5 1 encByt q0 (l ++ x) ∧ (∀ g, Value.ownBlock q0 = some g → w.heap.size ≤ g ∨ (Dm a f) g) ∧ Ch (Dm a f) w w') := by
 refine wJ 19 func44 rfl ?_
 have t := Below.refl B_ w
 have j : B_ ≤ (World.heap w).size := hs0
 have o := Ch.refl (Dm a f) w
 have q : (World.heap w).size ≤ a ∨ (Dm a f) a := .inr (.inl rfl)
 have d : ∀ g, Value.ownBlock f = some g → (World.heap w).size ≤ g ∨ (Dm a f) g := fun g h => .inr (.inr h)
 refine wR (zH (zH (nR (zD (zc (bl_copy a p f _ hp c) ?_)))))
 rintro _ w1 ⟨rfl, z⟩
 have hz := copy2 z c; obtain ⟨y, n⟩ := hz
 have t := n.below t j (fun k e => e ▸ u)
 have b := b.ch n (fun g hg e => (b.ne c zi) (by rw [hg, e]))
 replace j := Nat.le_trans j n.size
 have c := y
 refine nR (zD (zD (zr (pt a 0) (wB 1 c rfl (zD (L_appStrR (l := l) x underlying84 underlying9 zk b zo zo j zk zk ?_))))))
 intro v2 w3 aa i r 
 replace o := o.trans2 n (fun k e => e ▸ q)
 have s := uZ (D := (Dm a f)) r (by have h0 := o.size; omega : (World.heap w).size ≤ (World.heap w1).size) d
 have t := t.tg j i b
 replace j := Nat.le_trans j (i.size)
 have c := zY c i (b.ne c zi)
 have b := aa
 replace o := o.trans2 (Ch.of_grown i) (fun k e => d k e)
 have d := s; clear s
 refine zr (pt a 0) (zr (pt a 1) (xC a 1 v2 [(pt a 0), f] [(pt a 0), v2] 86 zk zk b.one zk c zi rfl ?_))
 intro w7 m
 replace j := Nat.le_trans j (Nat.le_of_eq m.size.symm)
 have b := b.wrote m (b.ne c zi)
 have c := m.here
 refine nR (zD (zsl 9 x (zH (zH (nQ (zR (zZ [(N6 ((x).length)), .nilIface] ?_)))))))
 have hE : ((x).length = x.length) ∧ ((l ++ x) = (l ++ x)) := ⟨(by rfl), (by rfl)⟩
 replace o := o.trans2 (Ch.of_wrote m) (fun k e => e ▸ q)
 exact ⟨_, yV (congrArg (fun x : Nat => Value.int .i64 (x : Int)) hE.1) (rfl), c, b.cast hE.2, d, o⟩
end Go.Proofs.YtkclikfejmeblaaGreatDoor
end
