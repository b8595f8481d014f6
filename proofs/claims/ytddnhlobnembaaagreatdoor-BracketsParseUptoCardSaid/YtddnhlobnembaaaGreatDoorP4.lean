/- Joined by my program pack2.py out of my own texts: Wcsw Wcsx Wcsy Wcsz Wcspv FKbf Wcsbp Wcsq FKak Wmbl8 FKam Wcb3 An. -/
import Derived.Test.YtddnhlobnembaaaGreatDoorProg
import Derived.Tactics2
import Derived.Lib.BitFns
import Derived.Lib.AppendStr
import Derived.WalkKit
import Derived.LaidEql
import Derived.Stop.Asserts
import Derived.RowKitTokens
import Derived.Test.YtddnhlobnembaaaGreatDoorP1
import Derived.Test.YtddnhlobnembaaaGreatDoorP2
import Derived.Test.YtddnhlobnembaaaGreatDoorP3
set_option linter.unusedVariables false
set_option linter.unusedSimpArgs false
/- === Wcsw === -/
section
/- Walks, written by my program walk.py out of the specification csw.py: each theorem says what one function returns and that it leaves memory as it was. -/
namespace Go.Proofs.YtddnhlobnembaaaGreatDoor
open Go Go.RowKit Go.FK _root_.Go.Proofs.Tryz
set_option maxHeartbeats 4000000
set_option maxRecDepth 100000
theorem c_isnan (x : Int) (w : World) :
  Calls Tryz.prog 156 #[(I3 x)] w (Ret fun v w' => v = (.bool false) ∧ Below w.heap.size w w') := by
 refine wI 6 func156 rfl ?_
 have b := Below.refl w.heap.size w
 refine wR (zG (nR (zD (zD (zNe .i32 x x ?_ ?_)))))
 ·intro a
  exact (a rfl).elim
 intro c
 exact zG (nQ (zS (yC [(.bool false)] ⟨rfl, b⟩)))
theorem vH (x : Int) (y : Int) (w : World) :
  Calls Tryz.prog 134 #[(I3 x), (I3 y)] w (Ret fun v w' => v = (.bool (decide (x < y))) ∧ Below w.heap.size w w') := by
 refine wI 17 func134 rfl ?_
 have a := Below.refl w.heap.size w
 refine wR (zG (nR (zD (zc (c_isnan x _ ) ?_))))
 rintro _ d ⟨rfl, b⟩
 refine zD (zs (zs (zs (xF (zD (zw (zD (zw (zD (zw (zLt .i32 x y ?_ ?_)))))))))))
 ·intro e
  have a := a.tr b
  exact xF (zG (nQ (zS (yC [(.bool true)] ⟨eb (by exact (decide_eq_true za).symm), a⟩))))
 intro c
 have a := a.tr b
 exact xF (zG (nQ (zS (yC [(.bool false)] ⟨eb (by exact (decide_eq_false zo).symm), a⟩))))
theorem c_insort (B_ : Nat) (d : Value) (s : List (Int)) (a : Nat) (b : Nat) (w : World) (hs0 : B_ ≤ w.heap.size) (c : Row w B_ 21 1 encI32 d s) (h1 : a ≤ b) (h2 : b ≤ s.length) (h3 : s.length ≤ 4611686018427387904) :
  Calls Tryz.prog 128 #[d, (N6 a), (N6 b)] w (Ret fun v w' => ∃ (ys : List (Int)), v = (.tuple #[]) ∧ Row w' B_ 21 1 encI32 d ys ∧ (Sw a b s ys) ∧ (Srt ys a b) ∧ Ch (fun k => Value.ownBlock d = some k) w w') := by
 refine wI 49 func128 rfl ?_
 have q := Below.refl B_ w
 have o : B_ ≤ (World.heap w).size := hs0
 have hc := Ch.refl (fun k => Value.ownBlock d = some k) w
 have af : ∀ g, Value.ownBlock d = some g → (World.heap w).size ≤ g ∨ (fun k => Value.ownBlock d = some k) g := fun g h => .inr h
 refine wR (zD (xL a 1 (zG (nQ (zX (yZ (fun m s0 w0 => ∃ (i : Nat) (ys : List Int), (m = b - i) ∧ (s0.ds = []) ∧ ([0, 1, 2, 6].map s0.f = [d, (N6 a), (N6 b), (N6 i)]) ∧ (Row w0 B_ 21 1 encI32 d ys) ∧ (Below B_ w w0) ∧ (Ch (fun k => Value.ownBlock d = some k) w w0) ∧ (B_ ≤ w0.heap.size) ∧ (a + 1 ≤ i ∧ (i ≤ b ∨ b ≤ a)) ∧ (ys.length = s.length) ∧ (Sw a b s ys) ∧ (Srt ys a i)) _ ⟨(a + 1), s, rfl, zk, zk, c, q, hc, o, zo, rfl, .refl, (srt_nil zo)⟩ ?_))))))
 rintro m1 s2 w3 ⟨i, ys, hm, ah, ay, c, q, hc, o, i1, i3, i4, i5⟩
 refine yS ay (zY (wR (zD (zD (nLt i b ?_ ?_)))))
 ·intro h4
  refine nQ (zT (zK (zB (zY (zX (wR (zD (zG (nQ (zX (yZ (fun m s0 w0 => ∃ (j : Nat) (zs : List Int), (m = j) ∧ (s0.ds = []) ∧ ([0, 1, 2, 6, 7].map s0.f = [d, (N6 a), (N6 b), (N6 i), (N6 j)]) ∧ (Row w0 B_ 21 1 encI32 d zs) ∧ (Below B_ w w0) ∧ (Ch (fun k => Value.ownBlock d = some k) w w0) ∧ (B_ ≤ w0.heap.size) ∧ (a ≤ j ∧ j ≤ i) ∧ (zs.length = s.length) ∧ (Sw a b s zs) ∧ (Ins zs a i j)) _ ⟨i, ys, rfl, ah, zk, c, q, hc, o, zo, i3, i4, (Ins.start i5)⟩ ?_)))))))))))
  rintro m5 s6 w7 ⟨j, zs, hm, ah, ay, c, q, hc, o, j1, j3, j4, j5⟩
  refine yS ay (zY (zY (xA zk zk (yE (yE (xO .i64 ((j : Nat) : Int) ((a : Nat) : Int) (a < j) rfl (cmpN_gt j a) zk zk ?_ ?_))))))
  ·intro h8
   replace h8 : a < j := by omega
   refine yE (qw (yE (qw (yE (qw ?_)))))
   have r := zV zs j zo; obtain ⟨x9, l⟩ := r
   have r := (c.rd).at (k := 1) zj l
   obtain ⟨a3, an, a5, a0⟩ := r
   refine yM (k := .i64) d j _ a3 an yX a5 zo zk zk (qw (zZ a3 (an + j * 1) (I3 x9) zk zf (a0 0 _ rfl) (qw (yE (qw (yE (qw (Lq_subN j 1 zo zo zk zk (qw ?_)))))))))
   have r := zV zs (j - 1) zo; obtain ⟨n, p⟩ := r
   have r := (c.rd).at (k := 1) zj p
   obtain ⟨a2, al, az, a6⟩ := r
   refine yM (k := .i64) d (j - 1) _ a2 al yX az zo zk zk (qw (zZ a2 (al + (j - 1) * 1) (I3 n) zk zf (a6 0 _ rfl) (qw (xX 134 [(I3 x9), (I3 n)] (.bool (decide (x9 < n))) zg (fun wq hbq => vH x9 n wq ) (xI (decide (x9 < n)) ?_ ?_)))))
   ·intro ba
    have bb := el_lt l p ba
    refine qT (yN ?_)
    intro bp ac
    replace q := q.trans (ac.mono o)
    replace o := Nat.le_trans o (ac.size)
    refine zB (zT (zK (zB (zY (zX (xB 15 18 zk zk zk ?_))))))
    intro bt ab
    replace q := q.trans (ab.mono o)
    replace o := Nat.le_trans o (ab.size)
    refine ⟨fun w => (Rd w encI32 d zs), ?_⟩
    replace c := (c.below ac).below ab
    refine mp 0 rfl d (.inr c.rd) zg (mp 1 rfl (N6 j) (.inr c.rd) zg (mp 2 rfl d (.inr c.rd) zg (mp 3 rfl (N6 j) (.inr c.rd) zg (mp 4 rfl (N6 (j - 1)) (.inr c.rd) (fun w2 _ => RI_subN j 1 zo zo zk zk w2) (mp 5 rfl d (.inr c.rd) zg (mp 6 rfl (N6 j) (.inr c.rd) zg (mp 7 rfl (N6 (j - 1)) (.inr c.rd) (fun w2 _ => RI_subN j 1 zo zo zk zk w2) ?_)))))))
    have r := (c.rd).at (k := 1) zj p; obtain ⟨au, u, aq, bk⟩ := r
    refine mp 8 rfl (pt au (u + (j - 1) * 1)) (.inr c.rd) (yF (k := .i64) d (j - 1) _ au u yX aq zo zk zk) (mt 9 [9, 14, 15, 16, 17] rfl (I3 n) c.rd (yR au (u + (j - 1) * 1) (I3 n) zk zf (fun w2 h2 => Rd.later (k := 1) h2 zj aq p 0 _ rfl)) (mp 10 rfl d (.inr c.rd) zg (mp 11 rfl (N6 j) (.inr c.rd) zg ?_)))
    have r := (c.rd).at (k := 1) zj l; obtain ⟨av, z, ar, bi⟩ := r
    refine mp 12 rfl (pt av (z + j * 1)) (.inr c.rd) (yF (k := .i64) d j _ av z yX ar zo zk zk) (mt 13 [13, 14, 15, 16, 17] rfl (I3 x9) c.rd (yR av (z + j * 1) (I3 x9) zk zf (fun w2 h2 => Rd.later (k := 1) h2 zj ar l 0 _ rfl)) ?_)
    have r := (c.rd).at (k := 1) zj l; obtain ⟨aw, y, ap, bo⟩ := r
    refine mp 14 rfl (pt aw (y + j * 1)) (.inr c.rd) (yF (k := .i64) d j _ aw y yX ap zo zk zk) (yD 15 zk (yJ 15 rfl ?_ rfl))
    refine yL j 0 aw y x9 n (I3 n) c zj l ap zk zk rfl zk zk rfl ?_
    intro bx a4 ak
    replace q := q.tg o ak c
    replace o := Nat.le_trans o (ak.size)
    replace c := a4
    have bn : (List.set zs j n)[j]? = some n := yU l
    refine zR ?_
    refine ⟨rfl, .inl zk, ?_⟩
    have r := zV (List.set zs j n) (j - 1) (by (simp only [yT, List.length_set] at *; omega)); obtain ⟨a7, am⟩ := r
    have r := (c.rd).at (k := 1) zj am; obtain ⟨ax, t, ao, bm⟩ := r
    refine mp 16 rfl (pt ax (t + (j - 1) * 1)) (.inl zk) (yF (k := .i64) d (j - 1) _ ax t yX ao (by (simp only [yT, List.length_set] at *; omega)) zk zk) (yD 17 zk (yJ 17 rfl ?_ rfl))
    refine yL (j - 1) 0 ax t a7 x9 (I3 x9) c zj am ao zk zk rfl zk zk rfl ?_
    intro bs a1 aj
    replace q := q.tg o aj c
    replace o := Nat.le_trans o (aj.size)
    replace c := a1
    have bg : (List.set (List.set zs j n) (j - 1) x9)[(j - 1)]? = some x9 := yU am
    have eS := xZ l p
    replace c := c.cast eS; clear eS
    refine zR ?_
    refine ⟨rfl, .inl zk, yO zk (zI (zB (zQ (zD (zsb j 1 (zG (zR ?_)))))))⟩
    replace hc := (((hc.trans2 (Ch.of_below ac) (fun _ h => h.elim)).trans2 (Ch.of_below ab) (fun _ h => h.elim)).trans2 (Ch.of_grown ak) (fun k e => af k e)).trans2 (Ch.of_grown aj) (fun k e => af k e)
    refine zB ⟨_, zo, (j - 1), (swp zs j (j - 1)), rfl, ah, zk, c, q, hc, o, zo, ?_, ?_, ?_⟩
    ·rw [yT]; exact j3
    ·exact .swap j (j - 1) j4 zo zo zo
    exact j5.step zo zo zo (el_lt za za za)
   intro bc
   have a8 := el_le l p bc
   refine qT (yN ?_)
   intro bu ad
   replace q := q.trans (ad.mono o)
   replace o := Nat.le_trans o (ad.size)
   refine zB (zF (yH (zL (zL (yB (zI (zB (zQ (zD (xL i 1 (zG (zR ?_))))))))))))
   replace hc := hc.trans2 (Ch.of_below ad) (fun _ h => h.elim)
   replace c := c.below ad
   refine zB ⟨_, zo, (i + 1), zs, rfl, ah, zk, c, q, hc, o, zo, ?_, ?_, ?_⟩
   ·exact j3
   ·exact j4
   exact j5.done zo (.inr (el_le za za za))
  intro be
  replace be : j ≤ a := by omega
  refine yE (qs (qs (qs (qs (qs (qs (qs (qs (qs (qs (qF (yN ?_))))))))))))
  intro br ag
  replace q := q.trans (ag.mono o)
  replace o := Nat.le_trans o (ag.size)
  refine zB (zF (yH (zL (zL (yB (zI (zB (zQ (zD (xL i 1 (zG (zR ?_))))))))))))
  replace hc := hc.trans2 (Ch.of_below ag) (fun _ h => h.elim)
  replace c := c.below ag
  refine zB ⟨_, zo, (i + 1), zs, rfl, ah, zk, c, q, hc, o, zo, ?_, ?_, ?_⟩
  ·exact j3
  ·exact j4
  exact j5.done zo (.inl zo)
 intro bw
 refine nQ (zF (yH (zL (zL (yB (znrm [] (hd := ah) ?_))))))
 exact ⟨ys, rfl, c, (by exact i4), (by exact i5.le zo), hc⟩
theorem c_sift (B_ : Nat) (b : Value) (s : List (Int)) (lo : Nat) (hi : Nat) (ff : Nat) (w : World) (hs0 : B_ ≤ w.heap.size) (a : Row w B_ 21 1 encI32 b s) (h2 : ff + hi ≤ s.length) (h3 : s.length ≤ 2305843009213693952) (h4 : lo ≤ 2305843009213693952) (h5 : HP s ff (lo + 1) hi) :
  Calls Tryz.prog 151 #[b, (N6 lo), (N6 hi), (N6 ff)] w (Ret fun v w' => ∃ (ys : List (Int)), v = (.tuple #[]) ∧ Row w' B_ 21 1 encI32 b ys ∧ (Sw (ff + lo) (ff + hi) s ys) ∧ (HP ys ff lo hi) ∧ Ch (fun k => Value.ownBlock b = some k) w w') := by
 refine wI 76 func151 rfl ?_
 have i := Below.refl B_ w
 have d : B_ ≤ (World.heap w).size := hs0
 have hc := Ch.refl (fun k => Value.ownBlock b = some k) w
 have o : ∀ g, Value.ownBlock b = some g → (World.heap w).size ≤ g ∨ (fun k => Value.ownBlock b = some k) g := fun g h => .inr h
 refine wR (zD (zG (nQ (zX (yZ (fun m s0 w0 => ∃ (r : Nat) (ys : List Int), (m = hi - r) ∧ (s0.ds = []) ∧ ([0, 2, 3, 8].map s0.f = [b, (N6 hi), (N6 ff), (N6 r)]) ∧ (Row w0 B_ 21 1 encI32 b ys) ∧ (Below B_ w w0) ∧ (Ch (fun k => Value.ownBlock b = some k) w w0) ∧ (B_ ≤ w0.heap.size) ∧ (lo ≤ r ∧ (r = lo ∨ r < hi)) ∧ (ys.length = s.length) ∧ (Sw (ff + lo) (ff + hi) s ys) ∧ (HX ys ff lo hi r)) _ ⟨lo, s, rfl, zk, zk, a, i, hc, d, zo, rfl, .refl, (HX.start h5)⟩ ?_)))))
 rintro m1 s2 w3 ⟨r, ys, hm, a0, d5, a, i, hc, d, i1, i3, i4, i5⟩
 refine yS d5 (zX (wR (zD (L_mulN 2 r zo zk zk (xL (2 * r) 1 (zG (nW (wR (zD (zD (nGe ((2 * r) + 1) hi ?_ ?_)))))))))))
 ·intro h4
  refine nQ (zT (yH (zL (zxo (zL (yB (znrm [] (hd := a0) ?_)))))))
  exact ⟨ys, rfl, a, (by exact i4), (by exact i5.done (mx_none zo)), hc⟩
 intro h5
 refine nQ (zF (zK (zB (zY (zY (xA zk zk (yE (uM ((2 * r) + 1) 1 zo zk zk (yE (xO .i64 (((((2 * r) + 1) + 1) : Nat) : Int) ((hi : Nat) : Int) ((((2 * r) + 1) + 1) < hi) rfl (cmpN_lt (((2 * r) + 1) + 1) hi) zk zk ?_ ?_))))))))))
 ·intro h6
  replace h6 : (((2 * r) + 1) + 1) < hi := by omega
  refine yE (qw (yE (qw (yE (qw (yE (qw (uM ff ((2 * r) + 1) zo zk zk (qw ?_)))))))))
  have c := zV ys (ff + ((2 * r) + 1)) zo; obtain ⟨x7, an⟩ := c
  have c := (a.rd).at (k := 1) zj an
  obtain ⟨g9, bs, c0, dd⟩ := c
  refine yM (k := .i64) b (ff + ((2 * r) + 1)) _ g9 bs yX c0 zo zk zk (qw (zZ g9 (bs + (ff + ((2 * r) + 1)) * 1) (I3 x7) zk zf (dd 0 _ rfl) (qw (yE (qw (yE (qw (yE (qw (uM ff ((2 * r) + 1) zo zk zk (qw (uM (ff + ((2 * r) + 1)) 1 zo zk zk (qw ?_)))))))))))))
  have c := zV ys ((ff + ((2 * r) + 1)) + 1) zo; obtain ⟨b1, bd⟩ := c
  have c := (a.rd).at (k := 1) zj bd
  obtain ⟨c9, b2, c4, da⟩ := c
  refine yM (k := .i64) b ((ff + ((2 * r) + 1)) + 1) _ c9 b2 yX c4 zo zk zk (qw (zZ c9 (b2 + ((ff + ((2 * r) + 1)) + 1) * 1) (I3 b1) zk zf (da 0 _ rfl) (qw (xX 134 [(I3 x7), (I3 b1)] (.bool (decide (x7 < b1))) zg (fun wq hbq => vH x7 b1 wq ) (xI (decide (x7 < b1)) ?_ ?_)))))
  ·intro dj
   have du := el_lt an bd dj
   refine qT (yN ?_)
   intro eu au
   replace i := i.trans (au.mono d)
   replace d := Nat.le_trans d (au.size)
   refine zB (zT (zQ (zD (xL ((2 * r) + 1) 1 (zG (nW (zY (xA zk zk (yE (yE (yE (uM ff r zo zk zk ?_))))))))))))
   have c := zV ys (ff + r) zo; obtain ⟨y, p⟩ := c
   replace a := a.below au
   have c := (a.rd).at (k := 1) zj p
   obtain ⟨cy, b4, cs, c7⟩ := c
   refine yM (k := .i64) b (ff + r) _ cy b4 yX cs zo zk zk (zZ cy (b4 + (ff + r) * 1) (I3 y) zk zf (c7 0 _ rfl) (yE (yE (yE (uM ff (((2 * r) + 1) + 1) zo zk zk ?_)))))
   have c := zV ys (ff + (((2 * r) + 1) + 1)) zo; obtain ⟨t, ac⟩ := c
   have c := (a.rd).at (k := 1) zj ac
   obtain ⟨c2, bq, cq, cw⟩ := c
   refine yM (k := .i64) b (ff + (((2 * r) + 1) + 1)) _ c2 bq yX cq zo zk zk (zZ c2 (bq + (ff + (((2 * r) + 1) + 1)) * 1) (I3 t) zk zf (cw 0 _ rfl) (xX 134 [(I3 y), (I3 t)] (.bool (decide (y < t))) zg (fun wq hbq => vH y t wq ) (xI (decide (y < t)) ?_ ?_)))
   ·intro dl
    have d0 := el_lt p ac dl
    refine wZ true zk (yN ?_)
    intro er a7
    replace i := i.trans (a7.mono d)
    replace d := Nat.le_trans d (a7.size)
    refine zB (zF (zK (zB (zY (xB 21 24 zk zk zk ?_)))))
    intro es bc
    replace i := i.trans (bc.mono d)
    replace d := Nat.le_trans d (bc.size)
    refine ⟨fun w => (Rd w encI32 b ys), ?_⟩
    replace a := (a.below a7).below bc
    refine mp 0 rfl b (.inr a.rd) zg (mp 1 rfl (N6 ff) (.inr a.rd) zg (mp 2 rfl (N6 r) (.inr a.rd) zg (mp 3 rfl (N6 (ff + r)) (.inr a.rd) (fun w2 _ => wO ff r zo zk zk w2) (mp 4 rfl b (.inr a.rd) zg (mp 5 rfl (N6 ff) (.inr a.rd) zg (mp 6 rfl (N6 (((2 * r) + 1) + 1)) (.inr a.rd) zg (mp 7 rfl (N6 (ff + (((2 * r) + 1) + 1))) (.inr a.rd) (fun w2 _ => wO ff (((2 * r) + 1) + 1) zo zk zk w2) (mp 8 rfl b (.inr a.rd) zg (mp 9 rfl (N6 ff) (.inr a.rd) zg (mp 10 rfl (N6 (((2 * r) + 1) + 1)) (.inr a.rd) zg (mp 11 rfl (N6 (ff + (((2 * r) + 1) + 1))) (.inr a.rd) (fun w2 _ => wO ff (((2 * r) + 1) + 1) zo zk zk w2) ?_)))))))))))
    have c := (a.rd).at (k := 1) zj ac; obtain ⟨cc, ay, b5, ed⟩ := c
    refine mp 12 rfl (pt cc (ay + (ff + (((2 * r) + 1) + 1)) * 1)) (.inr a.rd) (yF (k := .i64) b (ff + (((2 * r) + 1) + 1)) _ cc ay yX b5 zo zk zk) (mt 13 [13, 20, 21, 22, 23] rfl (I3 t) a.rd (yR cc (ay + (ff + (((2 * r) + 1) + 1)) * 1) (I3 t) zk zf (fun w2 h2 => Rd.later (k := 1) h2 zj b5 ac 0 _ rfl)) (mp 14 rfl b (.inr a.rd) zg (mp 15 rfl (N6 ff) (.inr a.rd) zg (mp 16 rfl (N6 r) (.inr a.rd) zg (mp 17 rfl (N6 (ff + r)) (.inr a.rd) (fun w2 _ => wO ff r zo zk zk w2) ?_)))))
    have c := (a.rd).at (k := 1) zj p; obtain ⟨cl, az, cb, eo⟩ := c
    refine mp 18 rfl (pt cl (az + (ff + r) * 1)) (.inr a.rd) (yF (k := .i64) b (ff + r) _ cl az yX cb zo zk zk) (mt 19 [19, 20, 21, 22, 23] rfl (I3 y) a.rd (yR cl (az + (ff + r) * 1) (I3 y) zk zf (fun w2 h2 => Rd.later (k := 1) h2 zj cb p 0 _ rfl)) ?_)
    have c := (a.rd).at (k := 1) zj p; obtain ⟨cj, a4, b7, ec⟩ := c
    refine mp 20 rfl (pt cj (a4 + (ff + r) * 1)) (.inr a.rd) (yF (k := .i64) b (ff + r) _ cj a4 yX b7 zo zk zk) (yD 21 zk (yJ 21 rfl ?_ rfl))
    refine yL (ff + r) 0 cj a4 y t (I3 t) a zj p b7 zk zk rfl zk zk rfl ?_
    intro ev c3 bj
    replace i := i.tg d bj a
    replace d := Nat.le_trans d (bj.size)
    replace a := c3
    have eb : (List.set ys (ff + r) t)[(ff + r)]? = some t := yU p
    refine zR ?_
    refine ⟨rfl, .inl zk, ?_⟩
    have c := zV (List.set ys (ff + r) t) (ff + (((2 * r) + 1) + 1)) (by (simp only [yT, List.length_set] at *; omega)); obtain ⟨dt, bf⟩ := c
    have c := (a.rd).at (k := 1) zj bf; obtain ⟨cf, av, b8, ee⟩ := c
    refine mp 22 rfl (pt cf (av + (ff + (((2 * r) + 1) + 1)) * 1)) (.inl zk) (yF (k := .i64) b (ff + (((2 * r) + 1) + 1)) _ cf av yX b8 (by (simp only [yT, List.length_set] at *; omega)) zk zk) (yD 23 zk (yJ 23 rfl ?_ rfl))
    refine yL (ff + (((2 * r) + 1) + 1)) 0 cf av dt y (I3 y) a zj bf b8 zk zk rfl zk zk rfl ?_
    intro ew cv bv
    replace i := i.tg d bv a
    replace d := Nat.le_trans d (bv.size)
    replace a := cv
    have eh : (List.set (List.set ys (ff + r) t) (ff + (((2 * r) + 1) + 1)) y)[(ff + (((2 * r) + 1) + 1))]? = some y := yU bf
    have eS := xZ p ac
    replace a := a.cast eS; clear eS
    refine zR ?_
    refine ⟨rfl, .inl zk, yO zk (zB (zQ (zD (zG (zR (zI ?_))))))⟩
    replace hc := ((((hc.trans2 (Ch.of_below au) (fun _ h => h.elim)).trans2 (Ch.of_below a7) (fun _ h => h.elim)).trans2 (Ch.of_below bc) (fun _ h => h.elim)).trans2 (Ch.of_grown bj) (fun k e => o k e)).trans2 (Ch.of_grown bv) (fun k e => o k e)
    refine zB ⟨_, zo, (((2 * r) + 1) + 1), (swp ys (ff + r) (ff + (((2 * r) + 1) + 1))), rfl, a0, zk, a, i, hc, d, zo, ?_, ?_, ?_⟩
    ·rw [yT]; exact i3
    ·exact .swap _ _ i4 zo zo zo
    exact i5.step (m := 2 * r + 1 + 1) zo zo zo zo (mx_m2 zo) zo
   intro dx
   have dk := el_le p ac dx
   refine wZ false zk (yN ?_)
   intro ep bb
   replace i := i.trans (bb.mono d)
   replace d := Nat.le_trans d (bb.size)
   refine zB (zT (zS (zH (zP (zH (zP (yC [] (hd := a0) ?_)))))))
   replace hc := (hc.trans2 (Ch.of_below au) (fun _ h => h.elim)).trans2 (Ch.of_below bb) (fun _ h => h.elim)
   replace a := a.below bb
   exact ⟨ys, rfl, a, (by exact i4), (by exact i5.done (mx_2 zo zo)), hc⟩
  intro dr
  have dv := el_le an bd dr
  refine qT (yN ?_)
  intro ex ar
  replace i := i.trans (ar.mono d)
  replace d := Nat.le_trans d (ar.size)
  refine zB (zF (zK (zB (zY (zY (xA zk zk (yE (yE (yE (uM ff r zo zk zk ?_))))))))))
  have c := zV ys (ff + r) zo; obtain ⟨z, q⟩ := c
  replace a := a.below ar
  have c := (a.rd).at (k := 1) zj q
  obtain ⟨cx, b3, dc, de⟩ := c
  refine yM (k := .i64) b (ff + r) _ cx b3 yX dc zo zk zk (zZ cx (b3 + (ff + r) * 1) (I3 z) zk zf (de 0 _ rfl) (yE (yE (yE (uM ff ((2 * r) + 1) zo zk zk ?_)))))
  have c := (a.rd).at (k := 1) zj an
  obtain ⟨c1, bn, c8, cz⟩ := c
  refine yM (k := .i64) b (ff + ((2 * r) + 1)) _ c1 bn yX c8 zo zk zk (zZ c1 (bn + (ff + ((2 * r) + 1)) * 1) (I3 x7) zk zf (cz 0 _ rfl) (xX 134 [(I3 z), (I3 x7)] (.bool (decide (z < x7))) zg (fun wq hbq => vH z x7 wq ) (xI (decide (z < x7)) ?_ ?_)))
  ·intro d4
   have dq := el_lt q an d4
   refine wZ true zk (yN ?_)
   intro ez ba
   replace i := i.trans (ba.mono d)
   replace d := Nat.le_trans d (ba.size)
   refine zB (zF (zK (zB (zY (xB 21 24 zk zk zk ?_)))))
   intro et a9
   replace i := i.trans (a9.mono d)
   replace d := Nat.le_trans d (a9.size)
   refine ⟨fun w => (Rd w encI32 b ys), ?_⟩
   replace a := (a.below ba).below a9
   refine mp 0 rfl b (.inr a.rd) zg (mp 1 rfl (N6 ff) (.inr a.rd) zg (mp 2 rfl (N6 r) (.inr a.rd) zg (mp 3 rfl (N6 (ff + r)) (.inr a.rd) (fun w2 _ => wO ff r zo zk zk w2) (mp 4 rfl b (.inr a.rd) zg (mp 5 rfl (N6 ff) (.inr a.rd) zg (mp 6 rfl (N6 ((2 * r) + 1)) (.inr a.rd) zg (mp 7 rfl (N6 (ff + ((2 * r) + 1))) (.inr a.rd) (fun w2 _ => wO ff ((2 * r) + 1) zo zk zk w2) (mp 8 rfl b (.inr a.rd) zg (mp 9 rfl (N6 ff) (.inr a.rd) zg (mp 10 rfl (N6 ((2 * r) + 1)) (.inr a.rd) zg (mp 11 rfl (N6 (ff + ((2 * r) + 1))) (.inr a.rd) (fun w2 _ => wO ff ((2 * r) + 1) zo zk zk w2) ?_)))))))))))
   have c := (a.rd).at (k := 1) zj an; obtain ⟨bz, ai, br, dy⟩ := c
   refine mp 12 rfl (pt bz (ai + (ff + ((2 * r) + 1)) * 1)) (.inr a.rd) (yF (k := .i64) b (ff + ((2 * r) + 1)) _ bz ai yX br zo zk zk) (mt 13 [13, 20, 21, 22, 23] rfl (I3 x7) a.rd (yR bz (ai + (ff + ((2 * r) + 1)) * 1) (I3 x7) zk zf (fun w2 h2 => Rd.later (k := 1) h2 zj br an 0 _ rfl)) (mp 14 rfl b (.inr a.rd) zg (mp 15 rfl (N6 ff) (.inr a.rd) zg (mp 16 rfl (N6 r) (.inr a.rd) zg (mp 17 rfl (N6 (ff + r)) (.inr a.rd) (fun w2 _ => wO ff r zo zk zk w2) ?_)))))
   have c := (a.rd).at (k := 1) zj q; obtain ⟨bp, ad, bt, d8⟩ := c
   refine mp 18 rfl (pt bp (ad + (ff + r) * 1)) (.inr a.rd) (yF (k := .i64) b (ff + r) _ bp ad yX bt zo zk zk) (mt 19 [19, 20, 21, 22, 23] rfl (I3 z) a.rd (yR bp (ad + (ff + r) * 1) (I3 z) zk zf (fun w2 h2 => Rd.later (k := 1) h2 zj bt q 0 _ rfl)) ?_)
   have c := (a.rd).at (k := 1) zj q; obtain ⟨bu, aj, bi, dm⟩ := c
   refine mp 20 rfl (pt bu (aj + (ff + r) * 1)) (.inr a.rd) (yF (k := .i64) b (ff + r) _ bu aj yX bi zo zk zk) (yD 21 zk (yJ 21 rfl ?_ rfl))
   refine yL (ff + r) 0 bu aj z x7 (I3 x7) a zj q bi zk zk rfl zk zk rfl ?_
   intro eg cd aw
   replace i := i.tg d aw a
   replace d := Nat.le_trans d (aw.size)
   replace a := cd
   have dw : (List.set ys (ff + r) x7)[(ff + r)]? = some x7 := yU q
   refine zR ?_
   refine ⟨rfl, .inl zk, ?_⟩
   have c := zV (List.set ys (ff + r) x7) (ff + ((2 * r) + 1)) (by (simp only [yT, List.length_set] at *; omega)); obtain ⟨db, a3⟩ := c
   have c := (a.rd).at (k := 1) zj a3; obtain ⟨b0, ao, bh, di⟩ := c
   refine mp 22 rfl (pt b0 (ao + (ff + ((2 * r) + 1)) * 1)) (.inl zk) (yF (k := .i64) b (ff + ((2 * r) + 1)) _ b0 ao yX bh (by (simp only [yT, List.length_set] at *; omega)) zk zk) (yD 23 zk (yJ 23 rfl ?_ rfl))
   refine yL (ff + ((2 * r) + 1)) 0 b0 ao db z (I3 z) a zj a3 bh zk zk rfl zk zk rfl ?_
   intro em cn ax
   replace i := i.tg d ax a
   replace d := Nat.le_trans d (ax.size)
   replace a := cn
   have d1 : (List.set (List.set ys (ff + r) x7) (ff + ((2 * r) + 1)) z)[(ff + ((2 * r) + 1))]? = some z := yU a3
   have eS := xZ q an
   replace a := a.cast eS; clear eS
   refine zR ?_
   refine ⟨rfl, .inl zk, yO zk (zB (zQ (zD (zG (zR (zI ?_))))))⟩
   replace hc := ((((hc.trans2 (Ch.of_below ar) (fun _ h => h.elim)).trans2 (Ch.of_below ba) (fun _ h => h.elim)).trans2 (Ch.of_below a9) (fun _ h => h.elim)).trans2 (Ch.of_grown aw) (fun k e => o k e)).trans2 (Ch.of_grown ax) (fun k e => o k e)
   refine zB ⟨_, zo, ((2 * r) + 1), (swp ys (ff + r) (ff + ((2 * r) + 1))), rfl, a0, zk, a, i, hc, d, zo, ?_, ?_, ?_⟩
   ·rw [yT]; exact i3
   ·exact .swap _ _ i4 zo zo zo
   exact i5.step (m := 2 * r + 1) zo zo zo zo (mx_m1b zo) zo
  intro ct
  have dh := el_le q an ct
  refine wZ false zk (yN ?_)
  intro ea am
  replace i := i.trans (am.mono d)
  replace d := Nat.le_trans d (am.size)
  refine zB (zT (zS (zH (zP (zH (zP (yC [] (hd := a0) ?_)))))))
  replace hc := (hc.trans2 (Ch.of_below ar) (fun _ h => h.elim)).trans2 (Ch.of_below am) (fun _ h => h.elim)
  replace a := a.below am
  exact ⟨ys, rfl, a, (by exact i4), (by exact i5.done (mx_3 zo zo)), hc⟩
 intro cr
 replace cr : hi ≤ (((2 * r) + 1) + 1) := by omega
 refine yE (qs (qs (qs (qs (qs (qs (qs (qs (qs (qs (qs (qs (qs (qs (qF (yN ?_))))))))))))))))
 intro ej aa
 replace i := i.trans (aa.mono d)
 replace d := Nat.le_trans d (aa.size)
 refine zB (zF (zK (zB (zY (zY (xA zk zk (yE (yE (yE (uM ff r zo zk zk ?_))))))))))
 have c := zV ys (ff + r) zo; obtain ⟨n, l⟩ := c
 replace a := a.below aa
 have c := (a.rd).at (k := 1) zj l
 obtain ⟨b9, a8, co, ci⟩ := c
 refine yM (k := .i64) b (ff + r) _ b9 a8 yX co zo zk zk (zZ b9 (a8 + (ff + r) * 1) (I3 n) zk zf (ci 0 _ rfl) (yE (yE (yE (uM ff ((2 * r) + 1) zo zk zk ?_)))))
 have c := zV ys (ff + ((2 * r) + 1)) zo; obtain ⟨j, u⟩ := c
 have c := (a.rd).at (k := 1) zj u
 obtain ⟨ca, a6, ce, cp⟩ := c
 refine yM (k := .i64) b (ff + ((2 * r) + 1)) _ ca a6 yX ce zo zk zk (zZ ca (a6 + (ff + ((2 * r) + 1)) * 1) (I3 j) zk zf (cp 0 _ rfl) (xX 134 [(I3 n), (I3 j)] (.bool (decide (n < j))) zg (fun wq hbq => vH n j wq ) (xI (decide (n < j)) ?_ ?_)))
 ·intro cu
  have dg := el_lt l u cu
  refine wZ true zk (yN ?_)
  intro ef ah
  replace i := i.trans (ah.mono d)
  replace d := Nat.le_trans d (ah.size)
  refine zB (zF (zK (zB (zY (xB 21 24 zk zk zk ?_)))))
  intro en af
  replace i := i.trans (af.mono d)
  replace d := Nat.le_trans d (af.size)
  refine ⟨fun w => (Rd w encI32 b ys), ?_⟩
  replace a := (a.below ah).below af
  refine mp 0 rfl b (.inr a.rd) zg (mp 1 rfl (N6 ff) (.inr a.rd) zg (mp 2 rfl (N6 r) (.inr a.rd) zg (mp 3 rfl (N6 (ff + r)) (.inr a.rd) (fun w2 _ => wO ff r zo zk zk w2) (mp 4 rfl b (.inr a.rd) zg (mp 5 rfl (N6 ff) (.inr a.rd) zg (mp 6 rfl (N6 ((2 * r) + 1)) (.inr a.rd) zg (mp 7 rfl (N6 (ff + ((2 * r) + 1))) (.inr a.rd) (fun w2 _ => wO ff ((2 * r) + 1) zo zk zk w2) (mp 8 rfl b (.inr a.rd) zg (mp 9 rfl (N6 ff) (.inr a.rd) zg (mp 10 rfl (N6 ((2 * r) + 1)) (.inr a.rd) zg (mp 11 rfl (N6 (ff + ((2 * r) + 1))) (.inr a.rd) (fun w2 _ => wO ff ((2 * r) + 1) zo zk zk w2) ?_)))))))))))
  have c := (a.rd).at (k := 1) zj u; obtain ⟨bk, ae, bw, dp⟩ := c
  refine mp 12 rfl (pt bk (ae + (ff + ((2 * r) + 1)) * 1)) (.inr a.rd) (yF (k := .i64) b (ff + ((2 * r) + 1)) _ bk ae yX bw zo zk zk) (mt 13 [13, 20, 21, 22, 23] rfl (I3 j) a.rd (yR bk (ae + (ff + ((2 * r) + 1)) * 1) (I3 j) zk zf (fun w2 h2 => Rd.later (k := 1) h2 zj bw u 0 _ rfl)) (mp 14 rfl b (.inr a.rd) zg (mp 15 rfl (N6 ff) (.inr a.rd) zg (mp 16 rfl (N6 r) (.inr a.rd) zg (mp 17 rfl (N6 (ff + r)) (.inr a.rd) (fun w2 _ => wO ff r zo zk zk w2) ?_)))))
  have c := (a.rd).at (k := 1) zj l; obtain ⟨bg, ap, bx, dz⟩ := c
  refine mp 18 rfl (pt bg (ap + (ff + r) * 1)) (.inr a.rd) (yF (k := .i64) b (ff + r) _ bg ap yX bx zo zk zk) (mt 19 [19, 20, 21, 22, 23] rfl (I3 n) a.rd (yR bg (ap + (ff + r) * 1) (I3 n) zk zf (fun w2 h2 => Rd.later (k := 1) h2 zj bx l 0 _ rfl)) ?_)
  have c := (a.rd).at (k := 1) zj l; obtain ⟨be, ak, bl, d7⟩ := c
  refine mp 20 rfl (pt be (ak + (ff + r) * 1)) (.inr a.rd) (yF (k := .i64) b (ff + r) _ be ak yX bl zo zk zk) (yD 21 zk (yJ 21 rfl ?_ rfl))
  refine yL (ff + r) 0 be ak n j (I3 j) a zj l bl zk zk rfl zk zk rfl ?_
  intro el cm a1
  replace i := i.tg d a1 a
  replace d := Nat.le_trans d (a1.size)
  replace a := cm
  have dn : (List.set ys (ff + r) j)[(ff + r)]? = some j := yU l
  refine zR ?_
  refine ⟨rfl, .inl zk, ?_⟩
  have c := zV (List.set ys (ff + r) j) (ff + ((2 * r) + 1)) (by (simp only [yT, List.length_set] at *; omega)); obtain ⟨c5, a2⟩ := c
  have c := (a.rd).at (k := 1) zj a2; obtain ⟨bm, al, bo, d3⟩ := c
  refine mp 22 rfl (pt bm (al + (ff + ((2 * r) + 1)) * 1)) (.inl zk) (yF (k := .i64) b (ff + ((2 * r) + 1)) _ bm al yX bo (by (simp only [yT, List.length_set] at *; omega)) zk zk) (yD 23 zk (yJ 23 rfl ?_ rfl))
  refine yL (ff + ((2 * r) + 1)) 0 bm al c5 n (I3 n) a zj a2 bo zk zk rfl zk zk rfl ?_
  intro d9 cg a5
  replace i := i.tg d a5 a
  replace d := Nat.le_trans d (a5.size)
  replace a := cg
  have d6 : (List.set (List.set ys (ff + r) j) (ff + ((2 * r) + 1)) n)[(ff + ((2 * r) + 1))]? = some n := yU a2
  have eS := xZ l u
  replace a := a.cast eS; clear eS
  refine zR ?_
  refine ⟨rfl, .inl zk, yO zk (zB (zQ (zD (zG (zR (zI ?_))))))⟩
  replace hc := ((((hc.trans2 (Ch.of_below aa) (fun _ h => h.elim)).trans2 (Ch.of_below ah) (fun _ h => h.elim)).trans2 (Ch.of_below af) (fun _ h => h.elim)).trans2 (Ch.of_grown a1) (fun k e => o k e)).trans2 (Ch.of_grown a5) (fun k e => o k e)
  refine zB ⟨_, zo, ((2 * r) + 1), (swp ys (ff + r) (ff + ((2 * r) + 1))), rfl, a0, zk, a, i, hc, d, zo, ?_, ?_, ?_⟩
  ·rw [yT]; exact i3
  ·exact .swap _ _ i4 zo zo zo
  exact i5.step (m := 2 * r + 1) zo zo zo zo (mx_m1 zo) zo
 intro c6
 have df := el_le l u c6
 refine wZ false zk (yN ?_)
 intro ei ag
 replace i := i.trans (ag.mono d)
 replace d := Nat.le_trans d (ag.size)
 refine zB (zT (zS (zH (zP (zH (zP (yC [] (hd := a0) ?_)))))))
 replace hc := (hc.trans2 (Ch.of_below aa) (fun _ h => h.elim)).trans2 (Ch.of_below ag) (fun _ h => h.elim)
 replace a := a.below ag
 exact ⟨ys, rfl, a, (by exact i4), (by exact i5.done (mx_1 zo zo)), hc⟩
theorem c_heap (B_ : Nat) (d : Value) (s : List (Int)) (a : Nat) (b : Nat) (w : World) (hs0 : B_ ≤ w.heap.size) (c : Row w B_ 21 1 encI32 d s) (h1 : a < b) (h2 : b ≤ s.length) (h3 : s.length ≤ 2305843009213693951) :
  Calls Tryz.prog 129 #[d, (N6 a), (N6 b)] w (Ret fun v w' => ∃ (ys : List (Int)), v = (.tuple #[]) ∧ Row w' B_ 21 1 encI32 d ys ∧ (Sw a b s ys) ∧ (Srt ys a b) ∧ Ch (fun k => Value.ownBlock d = some k) w w') := by
 refine wI 56 func129 rfl ?_
 have p := Below.refl B_ w
 have l : B_ ≤ (World.heap w).size := hs0
 have hc := Ch.refl (fun k => Value.ownBlock d = some k) w
 have j : ∀ g, Value.ownBlock d = some g → (World.heap w).size ≤ g ∨ (fun k => Value.ownBlock d = some k) g := fun g h => .inr h
 refine wR (zD (zG (nR (zG (nR (zD (zD (zsb b a (zG (nW (wR (zD (zsb (b - a) 1 (L_quoN ((b - a) - 1) 2 zo zo zk zk (zG (nQ (zX (yZ (fun m s0 w0 => ∃ (z : Int) (ys : List Int), (m = (z + 1).toNat) ∧ (s0.ds = []) ∧ ([0, 6, 7, 8, 9].map s0.f = [d, (N6 a), (I6 0), (N6 (b - a)), (I6 z)]) ∧ (Row w0 B_ 21 1 encI32 d ys) ∧ (Below B_ w w0) ∧ (Ch (fun k => Value.ownBlock d = some k) w w0) ∧ (B_ ≤ w0.heap.size) ∧ (-1 ≤ z ∧ z ≤ (b : Int) - a) ∧ (ys.length = s.length) ∧ (Sw a b s ys) ∧ (HP ys a (z + 1).toNat (b - a))) _ ⟨(((((b - a) - 1) / 2) : Nat) : Int), s, rfl, zk, zk, c, p, hc, l, zo, rfl, .refl, (HP.none zo)⟩ ?_))))))))))))))))))
 rintro m1 s2 w3 ⟨z, ys, hm, af, av, c, p, hc, l, i1, i3, i4, i5⟩
 refine yS av (zY (wR (zD (zGe .i64 z 0 ?_ ?_))))
 ·intro h4
  obtain ⟨n5, rfl⟩ := Int.eq_ofNat_of_zero_le h4
  refine nQ (zT (zK (zB (zY (zX (zQ (zD (zD (zD (zD (zc (c_sift B_ d ys n5 (b - a) a _ l c zo zo zo (by exact HP.at i5 zo)) ?_)))))))))))
  rintro _ w7 ⟨a6, rfl, a5, bh, bf, ap⟩
  replace p := ap.below p l (fun k e => (World.ownsRow.lt c k e).1)
  replace l := Nat.le_trans l ap.size
  replace c := a5
  refine zR (zI (zB (zQ (zD (xQ ((n5 : Nat) : Int) 1 (((n5 : Nat) : Int) - 1) rfl zk zk (yW _ zh zh) (zG (zR ?_)))))))
  replace hc := hc.trans2 ap (fun k e => j k e)
  refine zB ⟨_, zo, (((n5 : Nat) : Int) - 1), a6, rfl, af, zk, c, p, hc, l, zo, ?_, ?_, ?_⟩
  ·exact (hf_sw1 za).trans i3
  ·exact i4.trans (Sw.mono za zo zo zo)
  exact HP.at za zo
 intro bv
 refine nQ (zF (yH (zL (zL (yB (zB (wR (zD (zsb (b - a) 1 (zG (nQ (zX (yZ (fun m s0 w0 => ∃ (z2 : Int) (zs : List Int), (m = (z2 + 1).toNat) ∧ (s0.ds = []) ∧ ([0, 6, 7, 10].map s0.f = [d, (N6 a), (I6 0), (I6 z2)]) ∧ (Row w0 B_ 21 1 encI32 d zs) ∧ (Below B_ w w0) ∧ (Ch (fun k => Value.ownBlock d = some k) w w0) ∧ (B_ ≤ w0.heap.size) ∧ (-1 ≤ z2 ∧ z2 < (b : Int) - a) ∧ (zs.length = s.length) ∧ (Sw a b s zs) ∧ (HS zs a (b - a) (z2 + 1).toNat ∧ HP zs a 0 (z2 + 1).toNat)) _ ⟨((((b - a) - 1) : Nat) : Int), ys, rfl, af, zk, c, p, hc, l, zo, i3, i4, (heap_start i5 zo zo)⟩ ?_)))))))))))))
 rintro bw bm bo ⟨z2, zs, hm, af, av, c, p, hc, l, k1, k3, k4, k5⟩
 refine yS av (zY (wR (zD (zGe .i64 z2 0 ?_ ?_))))
 ·intro a2
  obtain ⟨i, rfl⟩ := Int.eq_ofNat_of_zero_le a2
  refine nQ (zT (zK (zB (zY (zX (zY (xB 17 20 zk zk zk ?_)))))))
  intro br aa
  replace p := p.trans (aa.mono l)
  replace l := Nat.le_trans l (aa.size)
  refine ⟨fun w => (Rd w encI32 d zs), ?_⟩
  replace c := c.below aa
  refine mp 0 rfl d (.inr c.rd) zg (mp 1 rfl (N6 a) (.inr c.rd) zg (mp 2 rfl d (.inr c.rd) zg (mp 3 rfl (N6 a) (.inr c.rd) zg (mp 4 rfl (N6 i) (.inr c.rd) zg (mp 5 rfl (N6 (a + i)) (.inr c.rd) (fun w2 _ => wO a i zo zk zk w2) (mp 6 rfl d (.inr c.rd) zg (mp 7 rfl (N6 a) (.inr c.rd) zg (mp 8 rfl (N6 i) (.inr c.rd) zg (mp 9 rfl (N6 (a + i)) (.inr c.rd) (fun w2 _ => wO a i zo zk zk w2) ?_)))))))))
  have hz := zV zs (a + i) zo; obtain ⟨o, ae⟩ := hz
  have hz := (c.rd).at (k := 1) zj ae; obtain ⟨aw, q, an, a9⟩ := hz
  refine mp 10 rfl (pt aw (q + (a + i) * 1)) (.inr c.rd) (yF (k := .i64) d (a + i) _ aw q yX an zo zk zk) (mt 11 [11, 16, 17, 18, 19] rfl (I3 o) c.rd (yR aw (q + (a + i) * 1) (I3 o) zk zf (fun w2 h2 => Rd.later (k := 1) h2 zj an ae 0 _ rfl)) (mp 12 rfl d (.inr c.rd) zg (mp 13 rfl (N6 a) (.inr c.rd) zg ?_)))
  have hz := zV zs a zo; obtain ⟨t, n⟩ := hz
  have hz := (c.rd).at (k := 1) zj n; obtain ⟨ar, u, ak, bl⟩ := hz
  refine mp 14 rfl (pt ar (u + a * 1)) (.inr c.rd) (yF (k := .i64) d a _ ar u yX ak zo zk zk) (mt 15 [15, 16, 17, 18, 19] rfl (I3 t) c.rd (yR ar (u + a * 1) (I3 t) zk zf (fun w2 h2 => Rd.later (k := 1) h2 zj ak n 0 _ rfl)) ?_)
  have hz := (c.rd).at (k := 1) zj n; obtain ⟨aq, r, am, a7⟩ := hz
  refine mp 16 rfl (pt aq (r + a * 1)) (.inr c.rd) (yF (k := .i64) d a _ aq r yX am zo zk zk) (yD 17 zk (yJ 17 rfl ?_ rfl))
  refine yL a 0 aq r t o (I3 o) c zj n am zk zk rfl zk zk rfl ?_
  intro bp a0 aj
  replace p := p.tg l aj c
  replace l := Nat.le_trans l (aj.size)
  replace c := a0
  have bg : (List.set zs a o)[a]? = some o := yU n
  refine zR ?_
  refine ⟨rfl, .inl zk, ?_⟩
  have hz := zV (List.set zs a o) (a + i) (by (simp only [yT, List.length_set] at *; omega)); obtain ⟨a3, ai⟩ := hz
  have hz := (c.rd).at (k := 1) zj ai; obtain ⟨au, y, al, a8⟩ := hz
  refine mp 18 rfl (pt au (y + (a + i) * 1)) (.inl zk) (yF (k := .i64) d (a + i) _ au y yX al (by (simp only [yT, List.length_set] at *; omega)) zk zk) (yD 19 zk (yJ 19 rfl ?_ rfl))
  refine yL (a + i) 0 au y a3 t (I3 t) c zj ai al zk zk rfl zk zk rfl ?_
  intro bs ax ag
  replace p := p.tg l ag c
  replace l := Nat.le_trans l (ag.size)
  replace c := ax
  have ba : (List.set (List.set zs a o) (a + i) t)[(a + i)]? = some t := yU ai
  have eS := xZ n ae
  replace c := c.cast eS; clear eS
  refine zR ?_
  refine ⟨rfl, .inl zk, yO zk (zB (zQ (zD (zD (zD (zD (zc (c_sift B_ d (swp zs a (a + i)) 0 i a _ l c (by (simp only [yT, List.length_set] at *; omega)) (by (simp only [yT, List.length_set] at *; omega)) zo (by exact heap_pop k5 zo zo zo)) ?_)))))))⟩
  replace hc := ((hc.trans2 (Ch.of_below aa) (fun _ h => h.elim)).trans2 (Ch.of_grown aj) (fun k e => j k e)).trans2 (Ch.of_grown ag) (fun k e => j k e)
  rintro _ bn ⟨az, rfl, ay, bk, bb, ah⟩
  replace p := ah.below p l (fun k e => (World.ownsRow.lt c k e).1)
  replace l := Nat.le_trans l ah.size
  replace c := ay
  refine zR (zI (zB (zQ (zD (xQ ((i : Nat) : Int) 1 (((i : Nat) : Int) - 1) rfl zk zk (yW _ zh zh) (zG (zR ?_)))))))
  replace hc := hc.trans2 ah (fun k e => j k e)
  refine zB ⟨_, zo, (((i : Nat) : Int) - 1), az, rfl, af, zk, c, p, hc, l, zo, ?_, ?_, ?_⟩
  ·exact (hf_sw1 za).trans ((yT _ _ _).trans k3)
  ·exact heap_sw k4 za zo
  exact heap_keep k5 za za zo zo zo
 intro bt
 refine nQ (zF (yH (zL (zL (yB (znrm [] (hd := af) ?_))))))
 exact ⟨zs, rfl, c, (by exact k4), (by exact (heap_done zo k5 zo)), hc⟩
end Go.Proofs.YtddnhlobnembaaaGreatDoor
end

/- === Wcsx === -/
section
/- Walks, written by my program walk.py out of the specification csx.py: each theorem says what one function returns and that it leaves memory as it was. -/
namespace Go.Proofs.YtddnhlobnembaaaGreatDoor
open Go Go.RowKit Go.FK _root_.Go.Proofs.Tryz
set_option maxHeartbeats 4000000
set_option maxRecDepth 100000
theorem c_rev (B_ : Nat) (d : Value) (s : List (Int)) (a : Nat) (b : Nat) (w : World) (hs0 : B_ ≤ w.heap.size) (c : Row w B_ 21 1 encI32 d s) (h1 : a < b) (h2 : b ≤ s.length) (h3 : s.length ≤ 2305843009213693951) :
  Calls Tryz.prog 132 #[d, (N6 a), (N6 b)] w (Ret fun v w' => ∃ (ys : List (Int)), v = (.tuple #[]) ∧ Row w' B_ 21 1 encI32 d ys ∧ (Sw a b s ys) ∧ Ch (fun k => Value.ownBlock d = some k) w w') := by
 refine wI 32 func132 rfl ?_
 have hb := Below.refl B_ w
 have y : B_ ≤ (World.heap w).size := hs0
 have hc := Ch.refl (fun k => Value.ownBlock d = some k) w
 have t : ∀ g, Value.ownBlock d = some g → (World.heap w).size ≤ g ∨ (fun k => Value.ownBlock d = some k) g := fun g h => .inr h
 refine wR (zD (zG (nR (zD (zsb b 1 (zG (nQ (zX (yZ (fun m s0 w0 => ∃ (i : Nat) (j : Nat) (ys : List Int), (m = j - i) ∧ (s0.ds = []) ∧ ([0, 6, 7].map s0.f = [d, (N6 i), (N6 j)]) ∧ (Row w0 B_ 21 1 encI32 d ys) ∧ (Below B_ w w0) ∧ (Ch (fun k => Value.ownBlock d = some k) w w0) ∧ (B_ ≤ w0.heap.size) ∧ (a ≤ i ∧ i ≤ j + 1 ∧ j < b) ∧ (ys.length = s.length) ∧ (Sw a b s ys)) _ ⟨a, (b - 1), s, rfl, zk, zk, c, hb, hc, y, zo, rfl, .refl⟩ ?_)))))))))
 rintro m1 s2 w3 ⟨i, j, ys, hm, aq, ar, c, hb, hc, y, i1, i3, i4⟩
 refine yS ar (zY (wR (zD (zD (nLt i j ?_ ?_)))))
 ·intro h4
  refine nQ (zT (zK (zB (zX (zY (xB 13 16 zk zk zk ?_))))))
  intro w5 ad
  replace hb := hb.trans (ad.mono y)
  replace y := Nat.le_trans y (ad.size)
  refine ⟨fun w => (Rd w encI32 d ys), ?_⟩
  replace c := c.below ad
  refine mp 0 rfl d (.inr c.rd) zg (mp 1 rfl (N6 i) (.inr c.rd) zg (mp 2 rfl d (.inr c.rd) zg (mp 3 rfl (N6 j) (.inr c.rd) zg (mp 4 rfl d (.inr c.rd) zg (mp 5 rfl (N6 j) (.inr c.rd) zg ?_)))))
  have u := zV ys j zo; obtain ⟨x7, al⟩ := u
  have u := (c.rd).at (k := 1) zj al; obtain ⟨g9, o, ah, aw⟩ := u
  refine mp 6 rfl (pt g9 (o + j * 1)) (.inr c.rd) (yF (k := .i64) d j _ g9 o yX ah zo zk zk) (mt 7 [7, 12, 13, 14, 15] rfl (I3 x7) c.rd (yR g9 (o + j * 1) (I3 x7) zk zf (fun w2 h2 => Rd.later (k := 1) h2 zj ah al 0 _ rfl)) (mp 8 rfl d (.inr c.rd) zg (mp 9 rfl (N6 i) (.inr c.rd) zg ?_)))
  have u := zV ys i zo; obtain ⟨p, l⟩ := u
  have u := (c.rd).at (k := 1) zj l; obtain ⟨aj, r, ai, a0⟩ := u
  refine mp 10 rfl (pt aj (r + i * 1)) (.inr c.rd) (yF (k := .i64) d i _ aj r yX ai zo zk zk) (mt 11 [11, 12, 13, 14, 15] rfl (I3 p) c.rd (yR aj (r + i * 1) (I3 p) zk zf (fun w2 h2 => Rd.later (k := 1) h2 zj ai l 0 _ rfl)) ?_)
  have u := (c.rd).at (k := 1) zj l; obtain ⟨ak, q, ag, a1⟩ := u
  refine mp 12 rfl (pt ak (q + i * 1)) (.inr c.rd) (yF (k := .i64) d i _ ak q yX ag zo zk zk) (yD 13 zk (yJ 13 rfl ?_ rfl))
  refine yL i 0 ak q p x7 (I3 x7) c zj l ag zk zk rfl zk zk rfl ?_
  intro a5 ap z
  replace hb := hb.tg y z c
  replace y := Nat.le_trans y (z.size)
  replace c := ap
  have ay : (List.set ys i x7)[i]? = some x7 := yU l
  refine zR ?_
  refine ⟨rfl, .inl zk, ?_⟩
  have u := zV (List.set ys i x7) j (by (simp only [yT, List.length_set] at *; omega)); obtain ⟨au, aa⟩ := u
  have u := (c.rd).at (k := 1) zj aa; obtain ⟨am, n, af, a3⟩ := u
  refine mp 14 rfl (pt am (n + j * 1)) (.inl zk) (yF (k := .i64) d j _ am n yX af (by (simp only [yT, List.length_set] at *; omega)) zk zk) (yD 15 zk (yJ 15 rfl ?_ rfl))
  refine yL j 0 am n au p (I3 p) c zj aa af zk zk rfl zk zk rfl ?_
  intro a7 ao ab
  replace hb := hb.tg y ab c
  replace y := Nat.le_trans y (ab.size)
  replace c := ao
  have az : (List.set (List.set ys i x7) j p)[j]? = some p := yU aa
  have eS := xZ l al
  replace c := c.cast eS; clear eS
  refine zR ?_
  refine ⟨rfl, .inl zk, yO zk (zB (wR (zD (xL i 1 (zG (nQ (zQ (zD (zsb j 1 (zG (zR (zI ?_))))))))))))⟩
  replace hc := ((hc.trans2 (Ch.of_below ad) (fun _ h => h.elim)).trans2 (Ch.of_grown z) (fun k e => t k e)).trans2 (Ch.of_grown ab) (fun k e => t k e)
  refine zB ⟨_, zo, (i + 1), (j - 1), (swp ys i j), rfl, aq, zk, c, hb, hc, y, zo, ?_, ?_⟩
  ·rw [yT]; exact i3
  exact .swap _ _ i4 zo zo zo
 intro a6
 refine nQ (zF (yH (zL (zL (yB (znrm [] (hd := aq) ?_))))))
 exact ⟨ys, rfl, c, (by exact i4), hc⟩
theorem c_parteq (B_ : Nat) (d : Value) (s : List (Int)) (a : Nat) (b : Nat) (pv : Nat) (w : World) (hs0 : B_ ≤ w.heap.size) (c : Row w B_ 21 1 encI32 d s) (h1 : a < b) (h2 : b ≤ s.length) (h3 : s.length ≤ 2305843009213693951) (h4 : a ≤ pv ∧ pv < b) :
  Calls Tryz.prog 135 #[d, (N6 a), (N6 b), (N6 pv)] w (Ret fun v w' => ∃ (ys : List (Int)) (m : Nat), v = (N6 m) ∧ Row w' B_ 21 1 encI32 d ys ∧ (Sw a b s ys) ∧ (a < m ∧ m ≤ b) ∧ (Eqp ys a b m (m - 1)) ∧ (el ys a = el s pv) ∧ Ch (fun k => Value.ownBlock d = some k) w w') := by
 refine wI 84 func135 rfl ?_
 have r := Below.refl B_ w
 have q : B_ ≤ (World.heap w).size := hs0
 have u := Ch.refl (fun k => Value.ownBlock d = some k) w
 have t : ∀ g, Value.ownBlock d = some g → (World.heap w).size ≤ g ∨ (fun k => Value.ownBlock d = some k) g := fun g h => .inr h
 refine wR (zG (nW (xB 13 16 zk zk zk ?_)))
 intro w1 de
 replace r := r.trans (de.mono q)
 replace q := Nat.le_trans q (de.size)
 refine ⟨fun w => (Rd w encI32 d s), ?_⟩
 replace c := c.below de
 refine mp 0 rfl d (.inr c.rd) zg (mp 1 rfl (N6 a) (.inr c.rd) zg (mp 2 rfl d (.inr c.rd) zg (mp 3 rfl (N6 pv) (.inr c.rd) zg (mp 4 rfl d (.inr c.rd) zg (mp 5 rfl (N6 pv) (.inr c.rd) zg ?_)))))
 have p := zV s pv zo; obtain ⟨x3, dq⟩ := p
 have p := (c.rd).at (k := 1) zj dq; obtain ⟨g5, cw, es, he⟩ := p
 refine mp 6 rfl (pt g5 (cw + pv * 1)) (.inr c.rd) (yF (k := .i64) d pv _ g5 cw yX es zo zk zk) (mt 7 [7, 12, 13, 14, 15] rfl (I3 x3) c.rd (yR g5 (cw + pv * 1) (I3 x3) zk zf (fun w2 h2 => Rd.later (k := 1) h2 zj es dq 0 _ rfl)) (mp 8 rfl d (.inr c.rd) zg (mp 9 rfl (N6 a) (.inr c.rd) zg ?_)))
 have p := zV s a zo; obtain ⟨x9, ao⟩ := p
 have p := (c.rd).at (k := 1) zj ao; obtain ⟨d8, b0, dp, gj⟩ := p
 refine mp 10 rfl (pt d8 (b0 + a * 1)) (.inr c.rd) (yF (k := .i64) d a _ d8 b0 yX dp zo zk zk) (mt 11 [11, 12, 13, 14, 15] rfl (I3 x9) c.rd (yR d8 (b0 + a * 1) (I3 x9) zk zf (fun w2 h2 => Rd.later (k := 1) h2 zj dp ao 0 _ rfl)) ?_)
 have p := (c.rd).at (k := 1) zj ao; obtain ⟨d4, bj, dh, g1⟩ := p
 refine mp 12 rfl (pt d4 (bj + a * 1)) (.inr c.rd) (yF (k := .i64) d a _ d4 bj yX dh zo zk zk) (yD 13 zk (yJ 13 rfl ?_ rfl))
 refine yL a 0 d4 bj x9 x3 (I3 x3) c zj ao dh zk zk rfl zk zk rfl ?_
 intro hh eu cx
 replace r := r.tg q cx c
 replace q := Nat.le_trans q (cx.size)
 replace c := eu
 have gk : (List.set s a x3)[a]? = some x3 := yU ao
 refine zR ?_
 refine ⟨rfl, .inl zk, ?_⟩
 have p := zV (List.set s a x3) pv (by (simp only [yT, List.length_set] at *; omega)); obtain ⟨fa, cf⟩ := p
 have p := (c.rd).at (k := 1) zj cf; obtain ⟨d6, bo, dj, f8⟩ := p
 refine mp 14 rfl (pt d6 (bo + pv * 1)) (.inl zk) (yF (k := .i64) d pv _ d6 bo yX dj (by (simp only [yT, List.length_set] at *; omega)) zk zk) (yD 15 zk (yJ 15 rfl ?_ rfl))
 refine yL pv 0 d6 bo fa x9 (I3 x9) c zj cf dj zk zk rfl zk zk rfl ?_
 intro hr e0 cz
 replace r := r.tg q cz c
 replace q := Nat.le_trans q (cz.size)
 replace c := e0
 have gp : (List.set (List.set s a x3) pv x9)[pv]? = some x9 := yU cf
 have eS := xZ ao dq
 replace c := c.cast eS; clear eS
 refine zR ?_
 refine ⟨rfl, .inl zk, yO zk (zB (wR (zD (xL a 1 (zD (zsb b 1 (zG (zG (nW (zX ?_))))))))))⟩
 replace u := ((u.trans2 (Ch.of_below de) (fun _ h => h.elim)).trans2 (Ch.of_grown cx) (fun k e => t k e)).trans2 (Ch.of_grown cz) (fun k e => t k e)
 refine yZ (fun m s0 w0 => ∃ (i : Nat) (j : Nat) (ys : List Int), (m = j + 1 - i) ∧ (s0.ds = []) ∧ ([0, 1, 8, 9, 10].map s0.f = [d, (N6 a), (I6 0), (N6 i), (N6 j)]) ∧ (Row w0 B_ 21 1 encI32 d ys) ∧ (Below B_ w w0) ∧ (Ch (fun k => Value.ownBlock d = some k) w w0) ∧ (B_ ≤ w0.heap.size) ∧ (a < i ∧ i ≤ j + 1 ∧ j < b) ∧ (ys.length = s.length) ∧ (Sw a b s ys) ∧ (Eqp ys a b i j) ∧ (el ys a = el s pv)) _ ⟨(a + 1), (b - 1), (swp s a pv), rfl, zk, zk, c, r, u, q, zo, (yT _ _ _), (.swap _ _ .refl zo zo zo), Eqp.start, (piv_start zo zo)⟩ ?_
 rintro hl hf ha ⟨i, j, ys, hm, z, bw, c, r, u, q, i1, i3, i4, i5, i6⟩
 refine yS bw (zX (zY (zX (yZ (fun m s0 w0 => ∃ (n : Nat), (m = j + 1 - n) ∧ (s0.ds = []) ∧ ([0, 1, 8, 10, 9].map s0.f = [d, (N6 a), (I6 0), (N6 j), (N6 n)]) ∧ (Row w0 B_ 21 1 encI32 d ys) ∧ (Below B_ w w0) ∧ (Ch (fun k => Value.ownBlock d = some k) w w0) ∧ (B_ ≤ w0.heap.size) ∧ (a < n ∧ n ≤ j + 1 ∧ i ≤ n) ∧ (Eqp ys a b n j)) _ ⟨i, rfl, z, zk, c, r, u, q, zo, i5⟩ ?_))))
 rintro hg g9 g6 ⟨n, hm, z, bw, c, r, u, q, q1, q5⟩
 refine yS bw (zY (zY (xA zk zk (yE (yE (xO .i64 ((n : Nat) : Int) ((j : Nat) : Int) (n ≤ j) rfl (wN n j) zk zk ?_ ?_))))))
 ·intro fx
  replace fx : n ≤ j := by omega
  refine yE (qw (yE (qw (yE (qw ?_)))))
  have p := zV ys a zo; obtain ⟨cl, c9⟩ := p
  have p := (c.rd).at (k := 1) zj c9
  obtain ⟨ex, c8, ef, ed⟩ := p
  refine yM (k := .i64) d a _ ex c8 yX ef zo zk zk (qw (zZ ex (c8 + a * 1) (I3 cl) zk zf (ed 0 _ rfl) (qw (yE (qw (yE (qw ?_)))))))
  have p := zV ys n zo; obtain ⟨cn, ce⟩ := p
  have p := (c.rd).at (k := 1) zj ce
  obtain ⟨eh, db, et, ek⟩ := p
  refine yM (k := .i64) d n _ eh db yX et zo zk zk (qw (zZ eh (db + n * 1) (I3 cn) zk zf (ek 0 _ rfl) (qw (xX 134 [(I3 cl), (I3 cn)] (.bool (decide (cl < cn))) zg (fun wq hbq => vH cl cn wq ) (xI (decide (cl < cn)) ?_ ?_)))))
  ·intro ft
   have fb := el_lt c9 ce ft
   refine qw (wZ true zk (qT (yN ?_)))
   intro hk b5
   replace r := r.trans (b5.mono q)
   replace q := Nat.le_trans q (b5.size)
   refine zB (zF (yH (zL (zL (yB (zB (zY (zX ?_))))))))
   replace u := u.trans2 (Ch.of_below b5) (fun _ h => h.elim)
   replace c := c.below b5
   refine yZ (fun m s0 w0 => ∃ (o : Nat), (m = o + 1 - n) ∧ (s0.ds = []) ∧ ([0, 1, 8, 9, 10].map s0.f = [d, (N6 a), (I6 0), (N6 n), (N6 o)]) ∧ (Row w0 B_ 21 1 encI32 d ys) ∧ (Below B_ w w0) ∧ (Ch (fun k => Value.ownBlock d = some k) w w0) ∧ (B_ ≤ w0.heap.size) ∧ (n ≤ o + 1 ∧ o < b ∧ o ≤ j) ∧ (Eqp ys a b n o)) _ ⟨j, rfl, z, zk, c, r, u, q, zo, q5⟩ ?_
   rintro hu hn hj ⟨o, hm, z, bw, c, r, u, q, r1, r5⟩
   refine yS bw (zY (zY (xA zk zk (yE (yE (xO .i64 ((n : Nat) : Int) ((o : Nat) : Int) (n ≤ o) rfl (wN n o) zk zk ?_ ?_))))))
   ·intro fg
    replace fg : n ≤ o := by omega
    refine yE (qw (yE (qw (yE (qw ?_)))))
    have p := zV ys a zo; obtain ⟨cm, c4⟩ := p
    have p := (c.rd).at (k := 1) zj c4
    obtain ⟨ep, cc, en, ew⟩ := p
    refine yM (k := .i64) d a _ ep cc yX en zo zk zk (qw (zZ ep (cc + a * 1) (I3 cm) zk zf (ew 0 _ rfl) (qw (yE (qw (yE (qw ?_)))))))
    have p := zV ys o zo; obtain ⟨af, aq⟩ := p
    have p := (c.rd).at (k := 1) zj aq
    obtain ⟨ez, c1, eb, ec⟩ := p
    refine yM (k := .i64) d o _ ez c1 yX eb zo zk zk (qw (zZ ez (c1 + o * 1) (I3 af) zk zf (ec 0 _ rfl) (qw (xX 134 [(I3 cm), (I3 af)] (.bool (decide (cm < af))) zg (fun wq hbq => vH cm af wq ) (xI (decide (cm < af)) ?_ ?_)))))
    ·intro fo
     have e9 := el_lt c4 aq fo
     refine qT (yN ?_)
     intro ho b6
     replace r := r.trans (b6.mono q)
     replace q := Nat.le_trans q (b6.size)
     refine zB (zT (zK (zB (zX (zQ (zD (zsb o 1 (zG (zR (zI ?_))))))))))
     replace u := u.trans2 (Ch.of_below b6) (fun _ h => h.elim)
     replace c := c.below b6
     exact zB ⟨_, zo, (o - 1), rfl, z, zk, c, r, u, q, zo, r5.down zo zo⟩
    intro fu
    have f3 := el_le c4 aq fu
    refine qT (yN ?_)
    intro hp ap
    replace r := r.trans (ap.mono q)
    replace q := Nat.le_trans q (ap.size)
    refine zB (zF (yH (zL (zL (yB (zB (zY (wR (zD (zD (nGt n o ?_ ?_)))))))))))
    ·intro ht
     refine nQ (zT (yH (zL (zxo (zL (yB (zB (wR (zD (zG (nQ (zS (yC [(N6 n)] (hd := z) ?_)))))))))))))
     replace u := u.trans2 (Ch.of_below ap) (fun _ h => h.elim)
     replace c := c.below ap
     exact ⟨ys, n, rfl, c, (by exact i4), zo, (by exact r5.at zo), (by exact i6), u⟩
    intro g8
    refine nQ (zF (zK (zB (zY (xB 13 16 zk zk zk ?_)))))
    intro g7 b1
    replace r := r.trans (b1.mono q)
    replace q := Nat.le_trans q (b1.size)
    refine ⟨fun w => (Rd w encI32 d ys), ?_⟩
    replace c := (c.below ap).below b1
    refine mp 0 rfl d (.inr c.rd) zg (mp 1 rfl (N6 n) (.inr c.rd) zg (mp 2 rfl d (.inr c.rd) zg (mp 3 rfl (N6 o) (.inr c.rd) zg (mp 4 rfl d (.inr c.rd) zg (mp 5 rfl (N6 o) (.inr c.rd) zg ?_)))))
    have p := (c.rd).at (k := 1) zj aq; obtain ⟨dt, bs, dk, gh⟩ := p
    refine mp 6 rfl (pt dt (bs + o * 1)) (.inr c.rd) (yF (k := .i64) d o _ dt bs yX dk zo zk zk) (mt 7 [7, 12, 13, 14, 15] rfl (I3 af) c.rd (yR dt (bs + o * 1) (I3 af) zk zf (fun w2 h2 => Rd.later (k := 1) h2 zj dk aq 0 _ rfl)) (mp 8 rfl d (.inr c.rd) zg (mp 9 rfl (N6 n) (.inr c.rd) zg ?_)))
    have p := zV ys n zo; obtain ⟨be, an⟩ := p
    have p := (c.rd).at (k := 1) zj an; obtain ⟨du, bv, di, gs⟩ := p
    refine mp 10 rfl (pt du (bv + n * 1)) (.inr c.rd) (yF (k := .i64) d n _ du bv yX di zo zk zk) (mt 11 [11, 12, 13, 14, 15] rfl (I3 be) c.rd (yR du (bv + n * 1) (I3 be) zk zf (fun w2 h2 => Rd.later (k := 1) h2 zj di an 0 _ rfl)) ?_)
    have p := (c.rd).at (k := 1) zj an; obtain ⟨cp, a8, cd, fs⟩ := p
    refine mp 12 rfl (pt cp (a8 + n * 1)) (.inr c.rd) (yF (k := .i64) d n _ cp a8 yX cd zo zk zk) (yD 13 zk (yJ 13 rfl ?_ rfl))
    refine yL n 0 cp a8 be af (I3 af) c zj an cd zk zk rfl zk zk rfl ?_
    intro gy dy bl
    replace r := r.tg q bl c
    replace q := Nat.le_trans q (bl.size)
    replace c := dy
    have fm : (List.set ys n af)[n]? = some af := yU an
    refine zR ?_
    refine ⟨rfl, .inl zk, ?_⟩
    have p := zV (List.set ys n af) o (by (simp only [yT, List.length_set] at *; omega)); obtain ⟨em, bg⟩ := p
    have p := (c.rd).at (k := 1) zj bg; obtain ⟨cy, bb, c6, f0⟩ := p
    refine mp 14 rfl (pt cy (bb + o * 1)) (.inl zk) (yF (k := .i64) d o _ cy bb yX c6 (by (simp only [yT, List.length_set] at *; omega)) zk zk) (yD 15 zk (yJ 15 rfl ?_ rfl))
    refine yL o 0 cy bb em be (I3 be) c zj bg c6 zk zk rfl zk zk rfl ?_
    intro gv d0 br
    replace r := r.tg q br c
    replace q := Nat.le_trans q (br.size)
    replace c := d0
    have fq : (List.set (List.set ys n af) o be)[o]? = some be := yU bg
    have eS := xZ an aq
    replace c := c.cast eS; clear eS
    refine zR ?_
    refine ⟨rfl, .inl zk, yO zk (zB (wR (zD (xL n 1 (zG (nQ (zQ (zD (zsb o 1 (zG (zR (zI ?_))))))))))))⟩
    have dw : n < o := by exact lt_of_el (l := ys) (a := a) zo zo zo
    replace u := (((u.trans2 (Ch.of_below ap) (fun _ h => h.elim)).trans2 (Ch.of_below b1) (fun _ h => h.elim)).trans2 (Ch.of_grown bl) (fun k e => t k e)).trans2 (Ch.of_grown br) (fun k e => t k e)
    refine zB ⟨_, zo, (n + 1), (o - 1), (swp ys n o), rfl, z, zk, c, r, u, q, zo, ?_, ?_, ?_, ?_⟩
    ·rw [yT]; exact i3
    ·exact .swap _ _ i4 zo zo zo
    ·exact r5.swap zo (lt_of_el (l := ys) (a := a) zo zo zo) zo zo zo zo
    exact piv_keep i6 zo zo
   intro e1
   replace e1 : o < n := by omega
   refine yE (qs (qs (qs (qs (qs (qs (qs (qs (qs (qF (yN ?_)))))))))))
   intro f9 ad
   replace r := r.trans (ad.mono q)
   replace q := Nat.le_trans q (ad.size)
   refine zB (zF (yH (zL (zL (yB (zB (zY (wR (zD (zD (nGt n o ?_ ?_)))))))))))
   ·intro f5
    refine nQ (zT (yH (zL (zxo (zL (yB (zB (wR (zD (zG (nQ (zS (yC [(N6 n)] (hd := z) ?_)))))))))))))
    replace u := u.trans2 (Ch.of_below ad) (fun _ h => h.elim)
    replace c := c.below ad
    exact ⟨ys, n, rfl, c, (by exact i4), zo, (by exact r5.at zo), (by exact i6), u⟩
   intro gf
   refine nQ (zF (zK (zB (zY (xB 13 16 zk zk zk ?_)))))
   intro gn a5
   replace r := r.trans (a5.mono q)
   replace q := Nat.le_trans q (a5.size)
   refine ⟨fun w => (Rd w encI32 d ys), ?_⟩
   replace c := (c.below ad).below a5
   refine mp 0 rfl d (.inr c.rd) zg (mp 1 rfl (N6 n) (.inr c.rd) zg (mp 2 rfl d (.inr c.rd) zg (mp 3 rfl (N6 o) (.inr c.rd) zg (mp 4 rfl d (.inr c.rd) zg (mp 5 rfl (N6 o) (.inr c.rd) zg ?_)))))
   have p := zV ys o zo; obtain ⟨ai, bt⟩ := p
   have p := (c.rd).at (k := 1) zj bt; obtain ⟨b7, a4, cg, fd⟩ := p
   refine mp 6 rfl (pt b7 (a4 + o * 1)) (.inr c.rd) (yF (k := .i64) d o _ b7 a4 yX cg zo zk zk) (mt 7 [7, 12, 13, 14, 15] rfl (I3 ai) c.rd (yR b7 (a4 + o * 1) (I3 ai) zk zf (fun w2 h2 => Rd.later (k := 1) h2 zj cg bt 0 _ rfl)) (mp 8 rfl d (.inr c.rd) zg (mp 9 rfl (N6 n) (.inr c.rd) zg ?_)))
   have p := zV ys n zo; obtain ⟨al, ag⟩ := p
   have p := (c.rd).at (k := 1) zj ag; obtain ⟨cu, a3, co, fv⟩ := p
   refine mp 10 rfl (pt cu (a3 + n * 1)) (.inr c.rd) (yF (k := .i64) d n _ cu a3 yX co zo zk zk) (mt 11 [11, 12, 13, 14, 15] rfl (I3 al) c.rd (yR cu (a3 + n * 1) (I3 al) zk zf (fun w2 h2 => Rd.later (k := 1) h2 zj co ag 0 _ rfl)) ?_)
   have p := (c.rd).at (k := 1) zj ag; obtain ⟨ck, a6, cv, fr⟩ := p
   refine mp 12 rfl (pt ck (a6 + n * 1)) (.inr c.rd) (yF (k := .i64) d n _ ck a6 yX cv zo zk zk) (yD 13 zk (yJ 13 rfl ?_ rfl))
   refine yL n 0 ck a6 al ai (I3 ai) c zj ag cv zk zk rfl zk zk rfl ?_
   intro gg d3 bx
   replace r := r.tg q bx c
   replace q := Nat.le_trans q (bx.size)
   replace c := d3
   have e8 : (List.set ys n ai)[n]? = some ai := yU ag
   refine zR ?_
   refine ⟨rfl, .inl zk, ?_⟩
   have p := zV (List.set ys n ai) o zo; obtain ⟨eg, bm⟩ := p
   have p := (c.rd).at (k := 1) zj bm; obtain ⟨ct, a7, c0, fp⟩ := p
   refine mp 14 rfl (pt ct (a7 + o * 1)) (.inl zk) (yF (k := .i64) d o _ ct a7 yX c0 zo zk zk) (yD 15 zk (yJ 15 rfl ?_ rfl))
   refine yL o 0 ct a7 eg al (I3 al) c zj bm c0 zk zk rfl zk zk rfl ?_
   intro ga d7 bf
   replace r := r.tg q bf c
   replace q := Nat.le_trans q (bf.size)
   replace c := d7
   have e7 : (List.set (List.set ys n ai) o al)[o]? = some al := yU bm
   have eS := xZ ag bt
   replace c := c.cast eS; clear eS
   refine zR ?_
   refine ⟨rfl, .inl zk, yO zk (zB (wR (zD (xL n 1 (zG (nQ (zQ (zD (zsb o 1 (zG (zR (zI ?_))))))))))))⟩
   have dw : n < o := by exact lt_of_el (l := ys) (a := a) zo zo zo
   replace u := (((u.trans2 (Ch.of_below ad) (fun _ h => h.elim)).trans2 (Ch.of_below a5) (fun _ h => h.elim)).trans2 (Ch.of_grown bx) (fun k e => t k e)).trans2 (Ch.of_grown bf) (fun k e => t k e)
   refine zB ⟨_, zo, (n + 1), (o - 1), (swp ys n o), rfl, z, zk, c, r, u, q, zo, ?_, ?_, ?_, ?_⟩
   ·rw [yT]; exact i3
   ·exact .swap _ _ i4 zo zo zo
   ·exact r5.swap zo (lt_of_el (l := ys) (a := a) zo zo zo) zo zo zo zo
   exact piv_keep i6 zo zo
  intro e2
  have e5 := el_le c9 ce e2
  refine qw (wZ false zk (qT (yN ?_)))
  intro gz az
  replace r := r.trans (az.mono q)
  replace q := Nat.le_trans q (az.size)
  refine zB (zT (zK (zB (zX (zQ (zD (xL n 1 (zG (zR (zI ?_))))))))))
  replace u := u.trans2 (Ch.of_below az) (fun _ h => h.elim)
  replace c := c.below az
  exact zB ⟨_, zo, (n + 1), rfl, z, zk, c, r, u, q, zo, q5.up zo⟩
 intro eo
 replace eo : j < n := by omega
 refine yE (qs (qs (qs (qs (qs (qs (qs (qs (qs (qs (qF (yN ?_))))))))))))
 intro gq aw
 replace r := r.trans (aw.mono q)
 replace q := Nat.le_trans q (aw.size)
 refine zB (zF (yH (zL (zL (yB (zB (zY (zX ?_))))))))
 replace u := u.trans2 (Ch.of_below aw) (fun _ h => h.elim)
 replace c := c.below aw
 refine yZ (fun m s0 w0 => ∃ (o : Nat), (m = o + 1 - n) ∧ (s0.ds = []) ∧ ([0, 1, 8, 9, 10].map s0.f = [d, (N6 a), (I6 0), (N6 n), (N6 o)]) ∧ (Row w0 B_ 21 1 encI32 d ys) ∧ (Below B_ w w0) ∧ (Ch (fun k => Value.ownBlock d = some k) w w0) ∧ (B_ ≤ w0.heap.size) ∧ (n ≤ o + 1 ∧ o < b ∧ o ≤ j) ∧ (Eqp ys a b n o)) _ ⟨j, rfl, z, zk, c, r, u, q, zo, q5⟩ ?_
 rintro gc gm gx ⟨o, hm, z, bw, c, r, u, q, r1, r5⟩
 refine yS bw (zY (zY (xA zk zk (yE (yE (xO .i64 ((n : Nat) : Int) ((o : Nat) : Int) (n ≤ o) rfl (wN n o) zk zk ?_ ?_))))))
 ·intro er
  replace er : n ≤ o := by omega
  refine yE (qw (yE (qw (yE (qw ?_)))))
  have p := zV ys a zo; obtain ⟨bd, bq⟩ := p
  have p := (c.rd).at (k := 1) zj bq
  obtain ⟨df, b4, d1, ea⟩ := p
  refine yM (k := .i64) d a _ df b4 yX d1 zo zk zk (qw (zZ df (b4 + a * 1) (I3 bd) zk zf (ea 0 _ rfl) (qw (yE (qw (yE (qw ?_)))))))
  have p := zV ys o zo; obtain ⟨y, ab⟩ := p
  have p := (c.rd).at (k := 1) zj ab
  obtain ⟨dl, b3, dx, dz⟩ := p
  refine yM (k := .i64) d o _ dl b3 yX dx zo zk zk (qw (zZ dl (b3 + o * 1) (I3 y) zk zf (dz 0 _ rfl) (qw (xX 134 [(I3 bd), (I3 y)] (.bool (decide (bd < y))) zg (fun wq hbq => vH bd y wq ) (xI (decide (bd < y)) ?_ ?_)))))
  ·intro ej
   have e3 := el_lt bq ab ej
   refine qT (yN ?_)
   intro g3 a0
   replace r := r.trans (a0.mono q)
   replace q := Nat.le_trans q (a0.size)
   refine zB (zT (zK (zB (zX (zQ (zD (zsb o 1 (zG (zR (zI ?_))))))))))
   replace u := u.trans2 (Ch.of_below a0) (fun _ h => h.elim)
   replace c := c.below a0
   exact zB ⟨_, zo, (o - 1), rfl, z, zk, c, r, u, q, zo, r5.down zo zo⟩
  intro ey
  have e4 := el_le bq ab ey
  refine qT (yN ?_)
  intro f6 ae
  replace r := r.trans (ae.mono q)
  replace q := Nat.le_trans q (ae.size)
  refine zB (zF (yH (zL (zL (yB (zB (zY (wR (zD (zD (nGt n o ?_ ?_)))))))))))
  ·intro go
   refine nQ (zT (yH (zL (zxo (zL (yB (zB (wR (zD (zG (nQ (zS (yC [(N6 n)] (hd := z) ?_)))))))))))))
   replace u := u.trans2 (Ch.of_below ae) (fun _ h => h.elim)
   replace c := c.below ae
   exact ⟨ys, n, rfl, c, (by exact i4), zo, (by exact r5.at zo), (by exact i6), u⟩
  intro f7
  refine nQ (zF (zK (zB (zY (xB 13 16 zk zk zk ?_)))))
  intro gr ay
  replace r := r.trans (ay.mono q)
  replace q := Nat.le_trans q (ay.size)
  refine ⟨fun w => (Rd w encI32 d ys), ?_⟩
  replace c := (c.below ae).below ay
  refine mp 0 rfl d (.inr c.rd) zg (mp 1 rfl (N6 n) (.inr c.rd) zg (mp 2 rfl d (.inr c.rd) zg (mp 3 rfl (N6 o) (.inr c.rd) zg (mp 4 rfl d (.inr c.rd) zg (mp 5 rfl (N6 o) (.inr c.rd) zg ?_)))))
  have p := (c.rd).at (k := 1) zj ab; obtain ⟨c7, ar, b8, fl⟩ := p
  refine mp 6 rfl (pt c7 (ar + o * 1)) (.inr c.rd) (yF (k := .i64) d o _ c7 ar yX b8 zo zk zk) (mt 7 [7, 12, 13, 14, 15] rfl (I3 y) c.rd (yR c7 (ar + o * 1) (I3 y) zk zf (fun w2 h2 => Rd.later (k := 1) h2 zj b8 ab 0 _ rfl)) (mp 8 rfl d (.inr c.rd) zg (mp 9 rfl (N6 n) (.inr c.rd) zg ?_)))
  have p := zV ys n zo; obtain ⟨ak, ac⟩ := p
  have p := (c.rd).at (k := 1) zj ac; obtain ⟨ch, ax, da, fe⟩ := p
  refine mp 10 rfl (pt ch (ax + n * 1)) (.inr c.rd) (yF (k := .i64) d n _ ch ax yX da zo zk zk) (mt 11 [11, 12, 13, 14, 15] rfl (I3 ak) c.rd (yR ch (ax + n * 1) (I3 ak) zk zf (fun w2 h2 => Rd.later (k := 1) h2 zj da ac 0 _ rfl)) ?_)
  have p := (c.rd).at (k := 1) zj ac; obtain ⟨dd, a1, c3, f4⟩ := p
  refine mp 12 rfl (pt dd (a1 + n * 1)) (.inr c.rd) (yF (k := .i64) d n _ dd a1 yX c3 zo zk zk) (yD 13 zk (yJ 13 rfl ?_ rfl))
  refine yL n 0 dd a1 ak y (I3 y) c zj ac c3 zk zk rfl zk zk rfl ?_
  intro g0 d5 bn
  replace r := r.tg q bn c
  replace q := Nat.le_trans q (bn.size)
  replace c := d5
  have fn : (List.set ys n y)[n]? = some y := yU ac
  refine zR ?_
  refine ⟨rfl, .inl zk, ?_⟩
  have p := zV (List.set ys n y) o zo; obtain ⟨ee, bp⟩ := p
  have p := (c.rd).at (k := 1) zj bp; obtain ⟨cb, av, cs, fh⟩ := p
  refine mp 14 rfl (pt cb (av + o * 1)) (.inl zk) (yF (k := .i64) d o _ cb av yX cs zo zk zk) (yD 15 zk (yJ 15 rfl ?_ rfl))
  refine yL o 0 cb av ee ak (I3 ak) c zj bp cs zk zk rfl zk zk rfl ?_
  intro gi d9 bh
  replace r := r.tg q bh c
  replace q := Nat.le_trans q (bh.size)
  replace c := d9
  have ff : (List.set (List.set ys n y) o ak)[o]? = some ak := yU bp
  have eS := xZ ac ab
  replace c := c.cast eS; clear eS
  refine zR ?_
  refine ⟨rfl, .inl zk, yO zk (zB (wR (zD (xL n 1 (zG (nQ (zQ (zD (zsb o 1 (zG (zR (zI ?_))))))))))))⟩
  have dw : n < o := by exact lt_of_el (l := ys) (a := a) zo zo zo
  replace u := (((u.trans2 (Ch.of_below ae) (fun _ h => h.elim)).trans2 (Ch.of_below ay) (fun _ h => h.elim)).trans2 (Ch.of_grown bn) (fun k e => t k e)).trans2 (Ch.of_grown bh) (fun k e => t k e)
  refine zB ⟨_, zo, (n + 1), (o - 1), (swp ys n o), rfl, z, zk, c, r, u, q, zo, ?_, ?_, ?_, ?_⟩
  ·rw [yT]; exact i3
  ·exact .swap _ _ i4 zo zo zo
  ·exact r5.swap zo (lt_of_el (l := ys) (a := a) zo zo zo) zo zo zo zo
  exact piv_keep i6 zo zo
 intro ev
 replace ev : o < n := by omega
 refine yE (qs (qs (qs (qs (qs (qs (qs (qs (qs (qF (yN ?_)))))))))))
 intro gb ah
 replace r := r.trans (ah.mono q)
 replace q := Nat.le_trans q (ah.size)
 refine zB (zF (yH (zL (zL (yB (zB (zY (wR (zD (zD (nGt n o ?_ ?_)))))))))))
 ·intro gl
  refine nQ (zT (yH (zL (zxo (zL (yB (zB (wR (zD (zG (nQ (zS (yC [(N6 n)] (hd := z) ?_)))))))))))))
  replace u := u.trans2 (Ch.of_below ah) (fun _ h => h.elim)
  replace c := c.below ah
  exact ⟨ys, n, rfl, c, (by exact i4), zo, (by exact r5.at zo), (by exact i6), u⟩
 intro gd
 refine nQ (zF (zK (zB (zY (xB 13 16 zk zk zk ?_)))))
 intro g2 a9
 replace r := r.trans (a9.mono q)
 replace q := Nat.le_trans q (a9.size)
 refine ⟨fun w => (Rd w encI32 d ys), ?_⟩
 replace c := (c.below ah).below a9
 refine mp 0 rfl d (.inr c.rd) zg (mp 1 rfl (N6 n) (.inr c.rd) zg (mp 2 rfl d (.inr c.rd) zg (mp 3 rfl (N6 o) (.inr c.rd) zg (mp 4 rfl d (.inr c.rd) zg (mp 5 rfl (N6 o) (.inr c.rd) zg ?_)))))
 have p := zV ys o zo; obtain ⟨aj, bi⟩ := p
 have p := (c.rd).at (k := 1) zj bi; obtain ⟨b9, a2, c5, fi⟩ := p
 refine mp 6 rfl (pt b9 (a2 + o * 1)) (.inr c.rd) (yF (k := .i64) d o _ b9 a2 yX c5 zo zk zk) (mt 7 [7, 12, 13, 14, 15] rfl (I3 aj) c.rd (yR b9 (a2 + o * 1) (I3 aj) zk zf (fun w2 h2 => Rd.later (k := 1) h2 zj c5 bi 0 _ rfl)) (mp 8 rfl d (.inr c.rd) zg (mp 9 rfl (N6 n) (.inr c.rd) zg ?_)))
 have p := zV ys n zo; obtain ⟨am, aa⟩ := p
 have p := (c.rd).at (k := 1) zj aa; obtain ⟨cj, bc, cq, fj⟩ := p
 refine mp 10 rfl (pt cj (bc + n * 1)) (.inr c.rd) (yF (k := .i64) d n _ cj bc yX cq zo zk zk) (mt 11 [11, 12, 13, 14, 15] rfl (I3 am) c.rd (yR cj (bc + n * 1) (I3 am) zk zf (fun w2 h2 => Rd.later (k := 1) h2 zj cq aa 0 _ rfl)) ?_)
 have p := (c.rd).at (k := 1) zj aa; obtain ⟨ca, au, ci, fk⟩ := p
 refine mp 12 rfl (pt ca (au + n * 1)) (.inr c.rd) (yF (k := .i64) d n _ ca au yX ci zo zk zk) (yD 13 zk (yJ 13 rfl ?_ rfl))
 refine yL n 0 ca au am aj (I3 aj) c zj aa ci zk zk rfl zk zk rfl ?_
 intro gw d2 bz
 replace r := r.tg q bz c
 replace q := Nat.le_trans q (bz.size)
 replace c := d2
 have fc : (List.set ys n aj)[n]? = some aj := yU aa
 refine zR ?_
 refine ⟨rfl, .inl zk, ?_⟩
 have p := zV (List.set ys n aj) o zo; obtain ⟨ei, bk⟩ := p
 have p := (c.rd).at (k := 1) zj bk; obtain ⟨cr, ba, c2, f2⟩ := p
 refine mp 14 rfl (pt cr (ba + o * 1)) (.inl zk) (yF (k := .i64) d o _ cr ba yX c2 zo zk zk) (yD 15 zk (yJ 15 rfl ?_ rfl))
 refine yL o 0 cr ba ei am (I3 am) c zj bk c2 zk zk rfl zk zk rfl ?_
 intro gu dr bu
 replace r := r.tg q bu c
 replace q := Nat.le_trans q (bu.size)
 replace c := dr
 have f1 : (List.set (List.set ys n aj) o am)[o]? = some am := yU bk
 have eS := xZ aa bi
 replace c := c.cast eS; clear eS
 refine zR ?_
 refine ⟨rfl, .inl zk, yO zk (zB (wR (zD (xL n 1 (zG (nQ (zQ (zD (zsb o 1 (zG (zR (zI ?_))))))))))))⟩
 have dw : n < o := by exact lt_of_el (l := ys) (a := a) zo zo zo
 replace u := (((u.trans2 (Ch.of_below ah) (fun _ h => h.elim)).trans2 (Ch.of_below a9) (fun _ h => h.elim)).trans2 (Ch.of_grown bz) (fun k e => t k e)).trans2 (Ch.of_grown bu) (fun k e => t k e)
 refine zB ⟨_, zo, (n + 1), (o - 1), (swp ys n o), rfl, z, zk, c, r, u, q, zo, ?_, ?_, ?_, ?_⟩
 ·rw [yT]; exact i3
 ·exact .swap _ _ i4 zo zo zo
 ·exact r5.swap zo (lt_of_el (l := ys) (a := a) zo zo zo) zo zo zo zo
 exact piv_keep i6 zo zo
end Go.Proofs.YtddnhlobnembaaaGreatDoor
end

/- === Wcsy === -/
section
/- Walks, written by my program walk.py out of the specification csy.py: each theorem says what one function returns and that it leaves memory as it was. -/
namespace Go.Proofs.YtddnhlobnembaaaGreatDoor
open Go Go.RowKit Go.FK _root_.Go.Proofs.Tryz
set_option maxHeartbeats 4000000
set_option maxRecDepth 100000
theorem c_part (B_ : Nat) (d : Value) (s : List (Int)) (a : Nat) (b : Nat) (pv : Nat) (w : World) (hs0 : B_ ≤ w.heap.size) (c : Row w B_ 21 1 encI32 d s) (h1 : a < b) (h2 : b ≤ s.length) (h3 : s.length ≤ 2305843009213693951) (h4 : a ≤ pv ∧ pv < b) :
  Calls Tryz.prog 136 #[d, (N6 a), (N6 b), (N6 pv)] w (Ret fun v w' => ∃ (ys : List (Int)) (m : Nat) (q : Bool), v = (.tuple #[(N6 m), (.bool q)]) ∧ Row w' B_ 21 1 encI32 d ys ∧ (Sw a b s ys) ∧ (a ≤ m ∧ m < b) ∧ (Mid ys a b m) ∧ Ch (fun k => Value.ownBlock d = some k) w w') := by
 refine wI 168 func136 rfl ?_
 have p := Below.refl B_ w
 have n : B_ ≤ (World.heap w).size := hs0
 have r := Ch.refl (fun k => Value.ownBlock d = some k) w
 have u : ∀ g, Value.ownBlock d = some g → (World.heap w).size ≤ g ∨ (fun k => Value.ownBlock d = some k) g := fun g h => .inr h
 have gg := yT s a pv
 refine wR (zG (zG (nW (xB 13 16 zk zk zk ?_))))
 intro w1 d2
 replace p := p.trans (d2.mono n)
 replace n := Nat.le_trans n (d2.size)
 refine ⟨fun w => (Rd w encI32 d s), ?_⟩
 replace c := c.below d2
 refine mp 0 rfl d (.inr c.rd) zg (mp 1 rfl (N6 a) (.inr c.rd) zg (mp 2 rfl d (.inr c.rd) zg (mp 3 rfl (N6 pv) (.inr c.rd) zg (mp 4 rfl d (.inr c.rd) zg (mp 5 rfl (N6 pv) (.inr c.rd) zg ?_)))))
 have o := zV s pv zo; obtain ⟨x3, ef⟩ := o
 have o := (c.rd).at (k := 1) zj ef; obtain ⟨g5, cu, fc, i7⟩ := o
 refine mp 6 rfl (pt g5 (cu + pv * 1)) (.inr c.rd) (yF (k := .i64) d pv _ g5 cu yX fc zo zk zk) (mt 7 [7, 12, 13, 14, 15] rfl (I3 x3) c.rd (yR g5 (cu + pv * 1) (I3 x3) zk zf (fun w2 h2 => Rd.later (k := 1) h2 zj fc ef 0 _ rfl)) (mp 8 rfl d (.inr c.rd) zg (mp 9 rfl (N6 a) (.inr c.rd) zg ?_)))
 have o := zV s a zo; obtain ⟨x9, ao⟩ := o
 have o := (c.rd).at (k := 1) zj ao; obtain ⟨ed, cb, d7, g8⟩ := o
 refine mp 10 rfl (pt ed (cb + a * 1)) (.inr c.rd) (yF (k := .i64) d a _ ed cb yX d7 zo zk zk) (mt 11 [11, 12, 13, 14, 15] rfl (I3 x9) c.rd (yR ed (cb + a * 1) (I3 x9) zk zf (fun w2 h2 => Rd.later (k := 1) h2 zj d7 ao 0 _ rfl)) ?_)
 have o := (c.rd).at (k := 1) zj ao; obtain ⟨ej, bt, d4, iq⟩ := o
 refine mp 12 rfl (pt ej (bt + a * 1)) (.inr c.rd) (yF (k := .i64) d a _ ej bt yX d4 zo zk zk) (yD 13 zk (yJ 13 rfl ?_ rfl))
 refine yL a 0 ej bt x9 x3 (I3 x3) c zj ao d4 zk zk rfl zk zk rfl ?_
 intro jp e5 dh
 replace p := p.tg n dh c
 replace n := Nat.le_trans n (dh.size)
 replace c := e5
 have hk : (List.set s a x3)[a]? = some x3 := yU ao
 refine zR ?_
 refine ⟨rfl, .inl zk, ?_⟩
 have o := zV (List.set s a x3) pv (by (simp only [yT, List.length_set] at *; omega)); obtain ⟨gq, df⟩ := o
 have o := (c.rd).at (k := 1) zj df; obtain ⟨et, b0, d3, hi⟩ := o
 refine mp 14 rfl (pt et (b0 + pv * 1)) (.inl zk) (yF (k := .i64) d pv _ et b0 yX d3 (by (simp only [yT, List.length_set] at *; omega)) zk zk) (yD 15 zk (yJ 15 rfl ?_ rfl))
 refine yL pv 0 et b0 gq x9 (I3 x9) c zj df d3 zk zk rfl zk zk rfl ?_
 intro js fj dy
 replace p := p.tg n dy c
 replace n := Nat.le_trans n (dy.size)
 replace c := fj
 have he : (List.set (List.set s a x3) pv x9)[pv]? = some x9 := yU df
 have eS := xZ ao ef
 replace c := c.cast eS; clear eS
 refine zR ?_
 refine ⟨rfl, .inl zk, yO zk (zB (wR (zD (xL a 1 (zD (zsb b 1 (zG (zG (nQ (W_cut (fun s0 w0 => ∃ (ia : Nat), (s0.ds = []) ∧ ([0, 1, 8, 9, 11, 10].map s0.f = [d, (N6 a), (I6 0), (.bool false), (N6 (b - 1)), (N6 ia)]) ∧ (Row w0 B_ 21 1 encI32 d (swp s a pv)) ∧ (Below B_ w w0) ∧ (Ch (fun k => Value.ownBlock d = some k) w w0) ∧ (B_ ≤ w0.heap.size) ∧ (a < ia ∧ ia ≤ b) ∧ (Prt (swp s a pv) a b ia (b - 1)) ∧ (b - 1 < ia ∨ el (swp s a pv) a ≤ el (swp s a pv) ia)) ?_ ?_))))))))))⟩
 ·refine zX ?_
  replace r := ((r.trans2 (Ch.of_below d2) (fun _ h => h.elim)).trans2 (Ch.of_grown dh) (fun k e => u k e)).trans2 (Ch.of_grown dy) (fun k e => u k e)
  refine yZ (fun m s0 w0 => ∃ (i1 : Nat), (m = b - i1) ∧ (s0.ds = []) ∧ ([0, 1, 8, 9, 11, 10].map s0.f = [d, (N6 a), (I6 0), (.bool false), (N6 (b - 1)), (N6 i1)]) ∧ (Row w0 B_ 21 1 encI32 d (swp s a pv)) ∧ (Below B_ w w0) ∧ (Ch (fun k => Value.ownBlock d = some k) w w0) ∧ (B_ ≤ w0.heap.size) ∧ (a < i1 ∧ i1 ≤ b) ∧ (Prt (swp s a pv) a b i1 (b - 1))) _ ⟨(a + 1), rfl, zk, zk, c, p, r, n, zo, Prt.start⟩ ?_
  rintro jg i9 ix ⟨i1, hm, t, ac, c, p, r, n, u1, u5⟩
  refine yS ac (zY (zY (xA zk zk (yE (yE (xO .i64 ((i1 : Nat) : Int) (((b - 1) : Nat) : Int) (i1 ≤ (b - 1)) rfl (wN i1 (b - 1)) zk zk ?_ ?_))))))
  ·intro gp
   replace gp : i1 ≤ (b - 1) := by omega
   refine yE (qw (yE (qw (yE (qw ?_)))))
   have o := zV (swp s a pv) i1 zo; obtain ⟨c1, cx⟩ := o
   have o := (c.rd).at (k := 1) zj cx
   obtain ⟨fq, dv, fn, e6⟩ := o
   refine yM (k := .i64) d i1 _ fq dv yX fn zo zk zk (qw (zZ fq (dv + i1 * 1) (I3 c1) zk zf (e6 0 _ rfl) (qw (yE (qw (yE (qw ?_)))))))
   have o := zV (swp s a pv) a zo; obtain ⟨dm, c9⟩ := o
   have o := (c.rd).at (k := 1) zj c9
   obtain ⟨fd, dc, e8, e3⟩ := o
   refine yM (k := .i64) d a _ fd dc yX e8 zo zk zk (qw (zZ fd (dc + a * 1) (I3 dm) zk zf (e3 0 _ rfl) (qw (xX 134 [(I3 c1), (I3 dm)] (.bool (decide (c1 < dm))) zg (fun wq hbq => vH c1 dm wq ) (xI (decide (c1 < dm)) ?_ ?_)))))
   ·intro g1
    have g0 := el_lt cx c9 g1
    refine qT (yN ?_)
    intro jc ce
    replace p := p.trans (ce.mono n)
    replace n := Nat.le_trans n (ce.size)
    refine zB (zT (zK (zB (zX (zQ (zD (xL i1 1 (zG (zR (zI ?_))))))))))
    replace r := r.trans2 (Ch.of_below ce) (fun _ h => h.elim)
    replace c := c.below ce
    exact zB ⟨_, zo, (i1 + 1), rfl, t, zk, c, p, r, n, zo, u5.up za⟩
   intro f6
   have gi := el_le cx c9 f6
   refine qT (yN ?_)
   intro jn cf
   replace p := p.trans (cf.mono n)
   replace n := Nat.le_trans n (cf.size)
   refine zB (zF (yH (zL (zL (yB ?_)))))
   replace r := r.trans2 (Ch.of_below cf) (fun _ h => h.elim)
   replace c := c.below cf
   refine zB ⟨i1, t, zk, c, p, r, n, zo, ?_, ?_⟩
   ·exact u5
   exact .inr za
  intro f2
  replace f2 : (b - 1) < i1 := by omega
  refine yE (qs (qs (qs (qs (qs (qs (qs (qs (qs (qF (yN ?_)))))))))))
  intro iy cc
  replace p := p.trans (cc.mono n)
  replace n := Nat.le_trans n (cc.size)
  refine zB (zF (yH (zL (zL (yB ?_)))))
  replace r := r.trans2 (Ch.of_below cc) (fun _ h => h.elim)
  replace c := c.below cc
  refine zB ⟨i1, t, zk, c, p, r, n, zo, ?_, ?_⟩
  ·exact u5
  exact .inl zo
 rintro je iv ⟨ia, t, ac, c, p, r, n, u1, u5, u6⟩
 refine yS ac (W_cut (fun s0 w0 => ∃ (z : Nat), (s0.ds = []) ∧ ([0, 1, 8, 9, 10, 11].map s0.f = [d, (N6 a), (I6 0), (.bool false), (N6 ia), (N6 z)]) ∧ (Row w0 B_ 21 1 encI32 d (swp s a pv)) ∧ (Below B_ w w0) ∧ (Ch (fun k => Value.ownBlock d = some k) w w0) ∧ (B_ ≤ w0.heap.size) ∧ (ia ≤ z + 1 ∧ z < b) ∧ (Prt (swp s a pv) a b ia z) ∧ (z < ia ∨ el (swp s a pv) z < el (swp s a pv) a)) ?_ ?_)
 ·refine zX (yZ (fun m s0 w0 => ∃ (j1 : Nat), (m = j1 + 1 - ia) ∧ (s0.ds = []) ∧ ([0, 1, 8, 9, 10, 11].map s0.f = [d, (N6 a), (I6 0), (.bool false), (N6 ia), (N6 j1)]) ∧ (Row w0 B_ 21 1 encI32 d (swp s a pv)) ∧ (Below B_ w w0) ∧ (Ch (fun k => Value.ownBlock d = some k) w w0) ∧ (B_ ≤ w0.heap.size) ∧ (ia ≤ j1 + 1 ∧ j1 < b) ∧ (Prt (swp s a pv) a b ia j1)) _ ⟨(b - 1), rfl, t, zk, c, p, r, n, zo, u5⟩ ?_)
  rintro i8 iw jj ⟨j1, hm, t, ac, c, p, r, n, v1, v5⟩
  refine yS ac (zY (zY (xA zk zk (yE (yE (xO .i64 ((ia : Nat) : Int) ((j1 : Nat) : Int) (ia ≤ j1) rfl (wN ia j1) zk zk ?_ ?_))))))
  ·intro gc
   replace gc : ia ≤ j1 := by omega
   refine yE (qw (yE (qw (yE (qw ?_)))))
   have o := zV (swp s a pv) j1 zo; obtain ⟨dl, da⟩ := o
   have o := (c.rd).at (k := 1) zj da
   obtain ⟨fi, dj, e1, fl⟩ := o
   refine yM (k := .i64) d j1 _ fi dj yX e1 zo zk zk (qw (zZ fi (dj + j1 * 1) (I3 dl) zk zf (fl 0 _ rfl) (qw (yE (qw (yE (qw ?_)))))))
   have o := zV (swp s a pv) a zo; obtain ⟨du, c6⟩ := o
   have o := (c.rd).at (k := 1) zj c6
   obtain ⟨fs, cs, e4, e9⟩ := o
   refine yM (k := .i64) d a _ fs cs yX e4 zo zk zk (qw (zZ fs (cs + a * 1) (I3 du) zk zf (e9 0 _ rfl) (qw (xX 134 [(I3 dl), (I3 du)] (.bool (decide (dl < du))) zg (fun wq hbq => vH dl du wq ) (xI (decide (dl < du)) ?_ ?_)))))
   ·intro gv
    have go := el_lt da c6 gv
    refine qw (wZ true zk (qT (yN ?_)))
    intro jm cd
    replace p := p.trans (cd.mono n)
    replace n := Nat.le_trans n (cd.size)
    refine zB (zF (yH (zL (zL (yB ?_)))))
    replace r := r.trans2 (Ch.of_below cd) (fun _ h => h.elim)
    replace c := c.below cd
    refine zB ⟨j1, t, zk, c, p, r, n, zo, ?_, ?_⟩
    ·exact v5
    exact .inr za
   intro g2
   have gl := el_le da c6 g2
   refine qw (wZ false zk (qT (yN ?_)))
   intro jo ci
   replace p := p.trans (ci.mono n)
   replace n := Nat.le_trans n (ci.size)
   refine zB (zT (zK (zB (zX (zQ (zD (zsb j1 1 (zG (zR (zI ?_))))))))))
   replace r := r.trans2 (Ch.of_below ci) (fun _ h => h.elim)
   replace c := c.below ci
   exact zB ⟨_, zo, (j1 - 1), rfl, t, zk, c, p, r, n, zo, v5.down za zo⟩
  intro f3
  replace f3 : j1 < ia := by omega
  refine yE (qs (qs (qs (qs (qs (qs (qs (qs (qs (qs (qF (yN ?_))))))))))))
  intro jf cg
  replace p := p.trans (cg.mono n)
  replace n := Nat.le_trans n (cg.size)
  refine zB (zF (yH (zL (zL (yB ?_)))))
  replace r := r.trans2 (Ch.of_below cg) (fun _ h => h.elim)
  replace c := c.below cg
  refine zB ⟨j1, t, zk, c, p, r, n, zo, ?_, ?_⟩
  ·exact v5
  exact .inl zo
 rintro jh iz ⟨z, t, ac, c, p, r, n, v1, v5, v6⟩
 refine yS ac (zY (wR (zD (zD (nGt ia z ?_ ?_)))))
 ·intro jl
  refine nQ (zT (zY (xB 13 16 zk zk zk ?_)))
  intro i6 cn
  replace p := p.trans (cn.mono n)
  replace n := Nat.le_trans n (cn.size)
  refine ⟨fun w => (Rd w encI32 d (swp s a pv)), ?_⟩
  replace c := c.below cn
  refine mp 0 rfl d (.inr c.rd) zg (mp 1 rfl (N6 z) (.inr c.rd) zg (mp 2 rfl d (.inr c.rd) zg (mp 3 rfl (N6 a) (.inr c.rd) zg (mp 4 rfl d (.inr c.rd) zg (mp 5 rfl (N6 a) (.inr c.rd) zg ?_)))))
  have o := zV (swp s a pv) a zo; obtain ⟨bj, c8⟩ := o
  have o := (c.rd).at (k := 1) zj c8; obtain ⟨ek, bv, dq, gu⟩ := o
  refine mp 6 rfl (pt ek (bv + a * 1)) (.inr c.rd) (yF (k := .i64) d a _ ek bv yX dq zo zk zk) (mt 7 [7, 12, 13, 14, 15] rfl (I3 bj) c.rd (yR ek (bv + a * 1) (I3 bj) zk zf (fun w2 h2 => Rd.later (k := 1) h2 zj dq c8 0 _ rfl)) (mp 8 rfl d (.inr c.rd) zg (mp 9 rfl (N6 z) (.inr c.rd) zg ?_)))
  have o := zV (swp s a pv) z zo; obtain ⟨an, ae⟩ := o
  have o := (c.rd).at (k := 1) zj ae; obtain ⟨db, aw, dd, gf⟩ := o
  refine mp 10 rfl (pt db (aw + z * 1)) (.inr c.rd) (yF (k := .i64) d z _ db aw yX dd zo zk zk) (mt 11 [11, 12, 13, 14, 15] rfl (I3 an) c.rd (yR db (aw + z * 1) (I3 an) zk zf (fun w2 h2 => Rd.later (k := 1) h2 zj dd ae 0 _ rfl)) ?_)
  have o := (c.rd).at (k := 1) zj ae; obtain ⟨dw, a3, dz, gz⟩ := o
  refine mp 12 rfl (pt dw (a3 + z * 1)) (.inr c.rd) (yF (k := .i64) d z _ dw a3 yX dz zo zk zk) (yD 13 zk (yJ 13 rfl ?_ rfl))
  refine yL z 0 dw a3 an bj (I3 bj) c zj ae dz zk zk rfl zk zk rfl ?_
  intro im er bo
  replace p := p.tg n bo c
  replace n := Nat.le_trans n (bo.size)
  replace c := er
  have f9 : (List.set (swp s a pv) z bj)[z]? = some bj := yU ae
  refine zR ?_
  refine ⟨rfl, .inl zk, ?_⟩
  have o := zV (List.set (swp s a pv) z bj) a (by (simp only [yT, List.length_set] at *; omega)); obtain ⟨fe, b6⟩ := o
  have o := (c.rd).at (k := 1) zj b6; obtain ⟨dn, bg, cz, f0⟩ := o
  refine mp 14 rfl (pt dn (bg + a * 1)) (.inl zk) (yF (k := .i64) d a _ dn bg yX cz (by (simp only [yT, List.length_set] at *; omega)) zk zk) (yD 15 zk (yJ 15 rfl ?_ rfl))
  refine yL a 0 dn bg fe an (I3 an) c zj b6 cz zk zk rfl zk zk rfl ?_
  intro h5 eb bz
  replace p := p.tg n bz c
  replace n := Nat.le_trans n (bz.size)
  replace c := eb
  have gn : (List.set (List.set (swp s a pv) z bj) a an)[a]? = some an := yU b6
  have eS := xZ ae c8
  replace c := c.cast eS; clear eS
  refine zR ?_
  refine ⟨rfl, .inl zk, yO zk (zB (wR (zD (zG (zG (nQ (zS (zH (yC [(N6 z), (.bool true)] (hd := t) ?_)))))))))⟩
  replace r := ((r.trans2 (Ch.of_below cn) (fun _ h => h.elim)).trans2 (Ch.of_grown bo) (fun k e => u k e)).trans2 (Ch.of_grown bz) (fun k e => u k e)
  exact ⟨(swp (swp s a pv) z a), z, true, rfl, c, (by exact .swap _ _ (.swap _ _ .refl zo zo zo) zo zo (by rw [yT]; omega)), zo, (by exact v5.mid zo zo zo (by rw [yT]; omega)), r⟩
 intro hx
 refine nQ (zF (zK (zB (zY (xB 13 16 zk zk zk ?_)))))
 intro g9 ay
 replace p := p.trans (ay.mono n)
 replace n := Nat.le_trans n (ay.size)
 refine ⟨fun w => (Rd w encI32 d (swp s a pv)), ?_⟩
 replace c := c.below ay
 refine mp 0 rfl d (.inr c.rd) zg (mp 1 rfl (N6 ia) (.inr c.rd) zg (mp 2 rfl d (.inr c.rd) zg (mp 3 rfl (N6 z) (.inr c.rd) zg (mp 4 rfl d (.inr c.rd) zg (mp 5 rfl (N6 z) (.inr c.rd) zg ?_)))))
 have o := zV (swp s a pv) z zo; obtain ⟨ah, bs⟩ := o
 have o := (c.rd).at (k := 1) zj bs; obtain ⟨dt, a7, cp, gb⟩ := o
 refine mp 6 rfl (pt dt (a7 + z * 1)) (.inr c.rd) (yF (k := .i64) d z _ dt a7 yX cp zo zk zk) (mt 7 [7, 12, 13, 14, 15] rfl (I3 ah) c.rd (yR dt (a7 + z * 1) (I3 ah) zk zf (fun w2 h2 => Rd.later (k := 1) h2 zj cp bs 0 _ rfl)) (mp 8 rfl d (.inr c.rd) zg (mp 9 rfl (N6 ia) (.inr c.rd) zg ?_)))
 have o := zV (swp s a pv) ia zo; obtain ⟨al, ad⟩ := o
 have o := (c.rd).at (k := 1) zj ad; obtain ⟨dp, be, ct, f1⟩ := o
 refine mp 10 rfl (pt dp (be + ia * 1)) (.inr c.rd) (yF (k := .i64) d ia _ dp be yX ct zo zk zk) (mt 11 [11, 12, 13, 14, 15] rfl (I3 al) c.rd (yR dp (be + ia * 1) (I3 al) zk zf (fun w2 h2 => Rd.later (k := 1) h2 zj ct ad 0 _ rfl)) ?_)
 have o := (c.rd).at (k := 1) zj ad; obtain ⟨c7, bd, c0, gx⟩ := o
 refine mp 12 rfl (pt c7 (bd + ia * 1)) (.inr c.rd) (yF (k := .i64) d ia _ c7 bd yX c0 zo zk zk) (yD 13 zk (yJ 13 rfl ?_ rfl))
 refine yL ia 0 c7 bd al ah (I3 ah) c zj ad c0 zk zk rfl zk zk rfl ?_
 intro ho em bu
 replace p := p.tg n bu c
 replace n := Nat.le_trans n (bu.size)
 replace c := em
 have f7 : (List.set (swp s a pv) ia ah)[ia]? = some ah := yU ad
 refine zR ?_
 refine ⟨rfl, .inl zk, ?_⟩
 have o := zV (List.set (swp s a pv) ia ah) z (by (simp only [yT, List.length_set] at *; omega)); obtain ⟨fg, b3⟩ := o
 have o := (c.rd).at (k := 1) zj b3; obtain ⟨dg, ba, di, f4⟩ := o
 refine mp 14 rfl (pt dg (ba + z * 1)) (.inl zk) (yF (k := .i64) d z _ dg ba yX di (by (simp only [yT, List.length_set] at *; omega)) zk zk) (yD 15 zk (yJ 15 rfl ?_ rfl))
 refine yL z 0 dg ba fg al (I3 al) c zj b3 di zk zk rfl zk zk rfl ?_
 intro ip ex bp
 replace p := p.tg n bp c
 replace n := Nat.le_trans n (bp.size)
 replace c := ex
 have gk : (List.set (List.set (swp s a pv) ia ah) z al)[z]? = some al := yU b3
 have eS := xZ ad bs
 replace c := c.cast eS; clear eS
 refine zR ?_
 refine ⟨rfl, .inl zk, yO zk (zB (wR (zD (xL ia 1 (zG (nR (zD (zsb z 1 (zG (nW (zX ?_)))))))))))⟩
 have ec : ia < z := lt_of_el2 (l := (swp s a pv)) (a := a) zo (u6.resolve_left zo) (v6.resolve_left zo)
 replace r := ((r.trans2 (Ch.of_below ay) (fun _ h => h.elim)).trans2 (Ch.of_grown bu) (fun k e => u k e)).trans2 (Ch.of_grown bp) (fun k e => u k e)
 refine yZ (fun m s0 w0 => ∃ (i : Nat) (j : Nat) (ys : List Int), (m = j + 1 - i) ∧ (s0.ds = []) ∧ ([0, 1, 8, 9, 10, 11].map s0.f = [d, (N6 a), (I6 0), (.bool false), (N6 i), (N6 j)]) ∧ (Row w0 B_ 21 1 encI32 d ys) ∧ (Below B_ w w0) ∧ (Ch (fun k => Value.ownBlock d = some k) w w0) ∧ (B_ ≤ w0.heap.size) ∧ (a < i ∧ i ≤ j + 1 ∧ j < b) ∧ (ys.length = s.length) ∧ (Sw a b s ys) ∧ (Prt ys a b i j)) _ ⟨(ia + 1), (z - 1), (swp (swp s a pv) ia z), rfl, t, zk, c, p, r, n, zo, ((yT _ _ _).trans gg), (.swap _ _ (.swap _ _ .refl zo zo zo) zo zo (by rw [yT]; omega)), (v5.swap zo ec zo zo (u6.resolve_left zo) (v6.resolve_left zo))⟩ ?_
 rintro h9 hn hy ⟨i, j, ys, hm, t, ac, c, p, r, n, w1, i3, i4, i5⟩
 refine yS ac (zX (W_cut (fun s0 w0 => ∃ (ib : Nat), (s0.ds = []) ∧ ([0, 1, 8, 9, 11, 10].map s0.f = [d, (N6 a), (I6 0), (.bool false), (N6 j), (N6 ib)]) ∧ (Row w0 B_ 21 1 encI32 d ys) ∧ (Below B_ w w0) ∧ (Ch (fun k => Value.ownBlock d = some k) w w0) ∧ (B_ ≤ w0.heap.size) ∧ (a < ib ∧ ib ≤ j + 1 ∧ i ≤ ib) ∧ (Prt ys a b ib j) ∧ (j < ib ∨ el ys a ≤ el ys ib)) ?_ ?_))
 ·refine zX (yZ (fun m s0 w0 => ∃ (i2 : Nat), (m = j + 1 - i2) ∧ (s0.ds = []) ∧ ([0, 1, 8, 9, 11, 10].map s0.f = [d, (N6 a), (I6 0), (.bool false), (N6 j), (N6 i2)]) ∧ (Row w0 B_ 21 1 encI32 d ys) ∧ (Below B_ w w0) ∧ (Ch (fun k => Value.ownBlock d = some k) w w0) ∧ (B_ ≤ w0.heap.size) ∧ (a < i2 ∧ i2 ≤ j + 1 ∧ i ≤ i2) ∧ (Prt ys a b i2 j)) _ ⟨i, rfl, t, zk, c, p, r, n, zo, i5⟩ ?_)
  rintro h0 hh ij ⟨i2, hm, t, ac, c, p, r, n, q1, q5⟩
  refine yS ac (zY (zY (xA zk zk (yE (yE (xO .i64 ((i2 : Nat) : Int) ((j : Nat) : Int) (i2 ≤ j) rfl (wN i2 j) zk zk ?_ ?_))))))
  ·intro fb
   replace fb : i2 ≤ j := by omega
   refine yE (qw (yE (qw (yE (qw ?_)))))
   have o := zV ys i2 zo; obtain ⟨bk, b9⟩ := o
   have o := (c.rd).at (k := 1) zj b9
   obtain ⟨d6, ck, es, eg⟩ := o
   refine yM (k := .i64) d i2 _ d6 ck yX es zo zk zk (qw (zZ d6 (ck + i2 * 1) (I3 bk) zk zf (eg 0 _ rfl) (qw (yE (qw (yE (qw ?_)))))))
   have o := zV ys a zo; obtain ⟨bm, b7⟩ := o
   have o := (c.rd).at (k := 1) zj b7
   obtain ⟨d5, ch, eu, ez⟩ := o
   refine yM (k := .i64) d a _ d5 ch yX eu zo zk zk (qw (zZ d5 (ch + a * 1) (I3 bm) zk zf (ez 0 _ rfl) (qw (xX 134 [(I3 bk), (I3 bm)] (.bool (decide (bk < bm))) zg (fun wq hbq => vH bk bm wq ) (xI (decide (bk < bm)) ?_ ?_)))))
   ·intro fk
    have ft := el_lt b9 b7 fk
    refine qT (yN ?_)
    intro iu a5
    replace p := p.trans (a5.mono n)
    replace n := Nat.le_trans n (a5.size)
    refine zB (zT (zK (zB (zX (zQ (zD (xL i2 1 (zG (zR (zI ?_))))))))))
    replace r := r.trans2 (Ch.of_below a5) (fun _ h => h.elim)
    replace c := c.below a5
    exact zB ⟨_, zo, (i2 + 1), rfl, t, zk, c, p, r, n, zo, q5.up za⟩
   intro fh
   have fw := el_le b9 b7 fh
   refine qT (yN ?_)
   intro ik au
   replace p := p.trans (au.mono n)
   replace n := Nat.le_trans n (au.size)
   refine zB (zF (yH (zL (zL (yB ?_)))))
   replace r := r.trans2 (Ch.of_below au) (fun _ h => h.elim)
   replace c := c.below au
   refine zB ⟨i2, t, zk, c, p, r, n, zo, ?_, ?_⟩
   ·exact q5
   exact .inr za
  intro ff
  replace ff : j < i2 := by omega
  refine yE (qs (qs (qs (qs (qs (qs (qs (qs (qs (qF (yN ?_)))))))))))
  intro ir a6
  replace p := p.trans (a6.mono n)
  replace n := Nat.le_trans n (a6.size)
  refine zB (zF (yH (zL (zL (yB ?_)))))
  replace r := r.trans2 (Ch.of_below a6) (fun _ h => h.elim)
  replace c := c.below a6
  refine zB ⟨i2, t, zk, c, p, r, n, zo, ?_, ?_⟩
  ·exact q5
  exact .inl zo
 rintro il hp ⟨ib, t, ac, c, p, r, n, x1, x5, x6⟩
 refine yS ac (W_cut (fun s0 w0 => ∃ (y : Nat), (s0.ds = []) ∧ ([0, 1, 8, 9, 10, 11].map s0.f = [d, (N6 a), (I6 0), (.bool false), (N6 ib), (N6 y)]) ∧ (Row w0 B_ 21 1 encI32 d ys) ∧ (Below B_ w w0) ∧ (Ch (fun k => Value.ownBlock d = some k) w w0) ∧ (B_ ≤ w0.heap.size) ∧ (ib ≤ y + 1 ∧ y < b ∧ y ≤ j) ∧ (Prt ys a b ib y) ∧ (y < ib ∨ el ys y < el ys a)) ?_ ?_)
 ·refine zX (yZ (fun m s0 w0 => ∃ (j2 : Nat), (m = j2 + 1 - ib) ∧ (s0.ds = []) ∧ ([0, 1, 8, 9, 10, 11].map s0.f = [d, (N6 a), (I6 0), (.bool false), (N6 ib), (N6 j2)]) ∧ (Row w0 B_ 21 1 encI32 d ys) ∧ (Below B_ w w0) ∧ (Ch (fun k => Value.ownBlock d = some k) w w0) ∧ (B_ ≤ w0.heap.size) ∧ (ib ≤ j2 + 1 ∧ j2 < b ∧ j2 ≤ j) ∧ (Prt ys a b ib j2)) _ ⟨j, rfl, t, zk, c, p, r, n, zo, x5⟩ ?_)
  rintro ii ic h7 ⟨j2, hm, t, ac, c, p, r, n, r1, r5⟩
  refine yS ac (zY (zY (xA zk zk (yE (yE (xO .i64 ((ib : Nat) : Int) ((j2 : Nat) : Int) (ib ≤ j2) rfl (wN ib j2) zk zk ?_ ?_))))))
  ·intro e7
   replace e7 : ib ≤ j2 := by omega
   refine yE (qw (yE (qw (yE (qw ?_)))))
   have o := zV ys j2 zo; obtain ⟨bl, b8⟩ := o
   have o := (c.rd).at (k := 1) zj b8
   obtain ⟨d9, cl, ep, ew⟩ := o
   refine yM (k := .i64) d j2 _ d9 cl yX ep zo zk zk (qw (zZ d9 (cl + j2 * 1) (I3 bl) zk zf (ew 0 _ rfl) (qw (yE (qw (yE (qw ?_)))))))
   have o := zV ys a zo; obtain ⟨bn, bx⟩ := o
   have o := (c.rd).at (k := 1) zj bx
   obtain ⟨d8, cj, eo, ei⟩ := o
   refine yM (k := .i64) d a _ d8 cj yX eo zo zk zk (qw (zZ d8 (cj + a * 1) (I3 bn) zk zf (ei 0 _ rfl) (qw (xX 134 [(I3 bl), (I3 bn)] (.bool (decide (bl < bn))) zg (fun wq hbq => vH bl bn wq ) (xI (decide (bl < bn)) ?_ ?_)))))
   ·intro fm
    have fv := el_lt b8 bx fm
    refine qw (wZ true zk (qT (yN ?_)))
    intro hw a0
    replace p := p.trans (a0.mono n)
    replace n := Nat.le_trans n (a0.size)
    refine zB (zF (yH (zL (zL (yB ?_)))))
    replace r := r.trans2 (Ch.of_below a0) (fun _ h => h.elim)
    replace c := c.below a0
    refine zB ⟨j2, t, zk, c, p, r, n, zo, ?_, ?_⟩
    ·exact r5
    exact .inr za
   intro fr
   have fu := el_le b8 bx fr
   refine qw (wZ false zk (qT (yN ?_)))
   intro io a8
   replace p := p.trans (a8.mono n)
   replace n := Nat.le_trans n (a8.size)
   refine zB (zT (zK (zB (zX (zQ (zD (zsb j2 1 (zG (zR (zI ?_))))))))))
   replace r := r.trans2 (Ch.of_below a8) (fun _ h => h.elim)
   replace c := c.below a8
   exact zB ⟨_, zo, (j2 - 1), rfl, t, zk, c, p, r, n, zo, r5.down za zo⟩
  intro fp
  replace fp : j2 < ib := by omega
  refine yE (qs (qs (qs (qs (qs (qs (qs (qs (qs (qs (qF (yN ?_))))))))))))
  intro g7 aq
  replace p := p.trans (aq.mono n)
  replace n := Nat.le_trans n (aq.size)
  refine zB (zF (yH (zL (zL (yB ?_)))))
  replace r := r.trans2 (Ch.of_below aq) (fun _ h => h.elim)
  replace c := c.below aq
  refine zB ⟨j2, t, zk, c, p, r, n, zo, ?_, ?_⟩
  ·exact r5
  exact .inl zo
 rintro hj g6 ⟨y, t, ac, c, p, r, n, y1, y5, y6⟩
 refine yS ac (zY (wR (zD (zD (nGt ib y ?_ ?_)))))
 ·intro hf
  refine nQ (zT (yH (zL (zxo (zL (yB (zB (zY (xB 13 16 zk zk zk ?_)))))))))
  intro ie a4
  replace p := p.trans (a4.mono n)
  replace n := Nat.le_trans n (a4.size)
  refine ⟨fun w => (Rd w encI32 d ys), ?_⟩
  replace c := c.below a4
  refine mp 0 rfl d (.inr c.rd) zg (mp 1 rfl (N6 y) (.inr c.rd) zg (mp 2 rfl d (.inr c.rd) zg (mp 3 rfl (N6 a) (.inr c.rd) zg (mp 4 rfl d (.inr c.rd) zg (mp 5 rfl (N6 a) (.inr c.rd) zg ?_)))))
  have o := zV ys a zo; obtain ⟨ai, b2⟩ := o
  have o := (c.rd).at (k := 1) zj b2; obtain ⟨cy, a2, co, ga⟩ := o
  refine mp 6 rfl (pt cy (a2 + a * 1)) (.inr c.rd) (yF (k := .i64) d a _ cy a2 yX co zo zk zk) (mt 7 [7, 12, 13, 14, 15] rfl (I3 ai) c.rd (yR cy (a2 + a * 1) (I3 ai) zk zf (fun w2 h2 => Rd.later (k := 1) h2 zj co b2 0 _ rfl)) (mp 8 rfl d (.inr c.rd) zg (mp 9 rfl (N6 y) (.inr c.rd) zg ?_)))
  have o := zV ys y zo; obtain ⟨ak, ag⟩ := o
  have o := (c.rd).at (k := 1) zj ag; obtain ⟨dr, bb, dk, gs⟩ := o
  refine mp 10 rfl (pt dr (bb + y * 1)) (.inr c.rd) (yF (k := .i64) d y _ dr bb yX dk zo zk zk) (mt 11 [11, 12, 13, 14, 15] rfl (I3 ak) c.rd (yR dr (bb + y * 1) (I3 ak) zk zf (fun w2 h2 => Rd.later (k := 1) h2 zj dk ag 0 _ rfl)) ?_)
  have o := (c.rd).at (k := 1) zj ag; obtain ⟨cw, a9, c3, fz⟩ := o
  refine mp 12 rfl (pt cw (a9 + y * 1)) (.inr c.rd) (yF (k := .i64) d y _ cw a9 yX c3 zo zk zk) (yD 13 zk (yJ 13 rfl ?_ rfl))
  refine yL y 0 cw a9 ak ai (I3 ai) c zj ag c3 zk zk rfl zk zk rfl ?_
  intro ig ev br
  replace p := p.tg n br c
  replace n := Nat.le_trans n (br.size)
  replace c := ev
  have g3 : (List.set ys y ai)[y]? = some ai := yU ag
  refine zR ?_
  refine ⟨rfl, .inl zk, ?_⟩
  have o := zV (List.set ys y ai) a (by (simp only [yT, List.length_set] at *; omega)); obtain ⟨fo, b1⟩ := o
  have o := (c.rd).at (k := 1) zj b1; obtain ⟨cv, ap, c4, gm⟩ := o
  refine mp 14 rfl (pt cv (ap + a * 1)) (.inl zk) (yF (k := .i64) d a _ cv ap yX c4 (by (simp only [yT, List.length_set] at *; omega)) zk zk) (yD 15 zk (yJ 15 rfl ?_ rfl))
  refine yL a 0 cv ap fo ak (I3 ak) c zj b1 c4 zk zk rfl zk zk rfl ?_
  intro ih en b5
  replace p := p.tg n b5 c
  replace n := Nat.le_trans n (b5.size)
  replace c := en
  have f8 : (List.set (List.set ys y ai) a ak)[a]? = some ak := yU b1
  have eS := xZ ag b2
  replace c := c.cast eS; clear eS
  refine zR ?_
  refine ⟨rfl, .inl zk, yO zk (zB (wR (zD (zG (zG (nQ (zS (yC [(N6 y), (.bool false)] (hd := t) ?_))))))))⟩
  replace r := ((r.trans2 (Ch.of_below a4) (fun _ h => h.elim)).trans2 (Ch.of_grown br) (fun k e => u k e)).trans2 (Ch.of_grown b5) (fun k e => u k e)
  exact ⟨(swp ys y a), y, false, rfl, c, (by exact .swap _ _ i4 zo zo zo), zo, (by exact y5.mid zo zo zo zo), r⟩
 intro hu
 refine nQ (zF (zK (zB (zY (xB 13 16 zk zk zk ?_)))))
 intro hv ax
 replace p := p.trans (ax.mono n)
 replace n := Nat.le_trans n (ax.size)
 refine ⟨fun w => (Rd w encI32 d ys), ?_⟩
 replace c := c.below ax
 refine mp 0 rfl d (.inr c.rd) zg (mp 1 rfl (N6 ib) (.inr c.rd) zg (mp 2 rfl d (.inr c.rd) zg (mp 3 rfl (N6 y) (.inr c.rd) zg (mp 4 rfl d (.inr c.rd) zg (mp 5 rfl (N6 y) (.inr c.rd) zg ?_)))))
 have o := zV ys y zo; obtain ⟨aj, ca⟩ := o
 have o := (c.rd).at (k := 1) zj ca; obtain ⟨d1, a1, de, gh⟩ := o
 refine mp 6 rfl (pt d1 (a1 + y * 1)) (.inr c.rd) (yF (k := .i64) d y _ d1 a1 yX de zo zk zk) (mt 7 [7, 12, 13, 14, 15] rfl (I3 aj) c.rd (yR d1 (a1 + y * 1) (I3 aj) zk zf (fun w2 h2 => Rd.later (k := 1) h2 zj de ca 0 _ rfl)) (mp 8 rfl d (.inr c.rd) zg (mp 9 rfl (N6 ib) (.inr c.rd) zg ?_)))
 have o := zV ys ib zo; obtain ⟨am, af⟩ := o
 have o := (c.rd).at (k := 1) zj af; obtain ⟨c5, ar, cr, fy⟩ := o
 refine mp 10 rfl (pt c5 (ar + ib * 1)) (.inr c.rd) (yF (k := .i64) d ib _ c5 ar yX cr zo zk zk) (mt 11 [11, 12, 13, 14, 15] rfl (I3 am) c.rd (yR c5 (ar + ib * 1) (I3 am) zk zf (fun w2 h2 => Rd.later (k := 1) h2 zj cr af 0 _ rfl)) ?_)
 have o := (c.rd).at (k := 1) zj af; obtain ⟨d0, bc, c2, gw⟩ := o
 refine mp 12 rfl (pt d0 (bc + ib * 1)) (.inr c.rd) (yF (k := .i64) d ib _ d0 bc yX c2 zo zk zk) (yD 13 zk (yJ 13 rfl ?_ rfl))
 refine yL ib 0 d0 bc am aj (I3 aj) c zj af c2 zk zk rfl zk zk rfl ?_
 intro hg ey bw
 replace p := p.tg n bw c
 replace n := Nat.le_trans n (bw.size)
 replace c := ey
 have g4 : (List.set ys ib aj)[ib]? = some aj := yU af
 refine zR ?_
 refine ⟨rfl, .inl zk, ?_⟩
 have o := zV (List.set ys ib aj) y (by (simp only [yT, List.length_set] at *; omega)); obtain ⟨fa, b4⟩ := o
 have o := (c.rd).at (k := 1) zj b4; obtain ⟨dx, av, cq, f5⟩ := o
 refine mp 14 rfl (pt dx (av + y * 1)) (.inl zk) (yF (k := .i64) d y _ dx av yX cq (by (simp only [yT, List.length_set] at *; omega)) zk zk) (yD 15 zk (yJ 15 rfl ?_ rfl))
 refine yL y 0 dx av fa am (I3 am) c zj b4 cq zk zk rfl zk zk rfl ?_
 intro hr ee bq
 replace p := p.tg n bq c
 replace n := Nat.le_trans n (bq.size)
 replace c := ee
 have gr : (List.set (List.set ys ib aj) y am)[y]? = some am := yU b4
 have eS := xZ af ca
 replace c := c.cast eS; clear eS
 refine zR ?_
 refine ⟨rfl, .inl zk, yO zk (zB (wR (zD (xL ib 1 (zG (nQ (zQ (zD (zsb y 1 (zG (zR (zI ?_))))))))))))⟩
 have ec : ib < y := lt_of_el2 (l := ys) (a := a) zo (x6.resolve_left zo) (y6.resolve_left zo)
 replace r := ((r.trans2 (Ch.of_below ax) (fun _ h => h.elim)).trans2 (Ch.of_grown bw) (fun k e => u k e)).trans2 (Ch.of_grown bq) (fun k e => u k e)
 refine zB ⟨_, zo, (ib + 1), (y - 1), (swp ys ib y), rfl, t, zk, c, p, r, n, zo, ?_, ?_, ?_⟩
 ·rw [yT]; exact i3
 ·exact .swap _ _ i4 zo zo zo
 exact y5.swap zo ec zo zo (x6.resolve_left zo) (y6.resolve_left zo)
end Go.Proofs.YtddnhlobnembaaaGreatDoor
end

/- === Wcsz === -/
section
/- Walks, written by my program walk.py out of the specification csz.py: each theorem says what one function returns and that it leaves memory as it was. -/
namespace Go.Proofs.YtddnhlobnembaaaGreatDoor
open Go Go.RowKit Go.FK _root_.Go.Proofs.Tryz
set_option maxHeartbeats 4000000
set_option maxRecDepth 100000
theorem c_partins (B_ : Nat) (d : Value) (s : List (Int)) (a : Nat) (b : Nat) (w : World) (hs0 : B_ ≤ w.heap.size) (c : Row w B_ 21 1 encI32 d s) (h1 : a < b) (h2 : b ≤ s.length) (h3 : s.length ≤ 2305843009213693951) (hlow : Low s a b) :
  Calls Tryz.prog 133 #[d, (N6 a), (N6 b)] w (Ret fun v w' => ∃ (ys : List (Int)) (q : Bool), v = (.bool q) ∧ Row w' B_ 21 1 encI32 d ys ∧ (Sw a b s ys) ∧ (q = true → Srt ys a b) ∧ Ch (fun k => Value.ownBlock d = some k) w w') := by
 refine wI 133 func133 rfl ?_
 have p := Below.refl B_ w
 have l : B_ ≤ (World.heap w).size := hs0
 have y := Ch.refl (fun k => Value.ownBlock d = some k) w
 have u : ∀ g, Value.ownBlock d = some g → (World.heap w).size ≤ g ∨ (fun k => Value.ownBlock d = some k) g := fun g h => .inr h
 refine wR (zG (nR (zD (xL a 1 (zG (nW (wR (zG (nQ (zX (yZ (fun m s0 w0 => ∃ (i : Nat) (k : Nat) (ys : List Int), (m = 5 - k) ∧ (s0.ds = []) ∧ ([0, 1, 2, 7, 8].map s0.f = [d, (N6 a), (N6 b), (N6 i), (N6 k)]) ∧ (Row w0 B_ 21 1 encI32 d ys) ∧ (Below B_ w w0) ∧ (Ch (fun k => Value.ownBlock d = some k) w w0) ∧ (B_ ≤ w0.heap.size) ∧ (a < i ∧ i ≤ b ∧ k ≤ 5) ∧ (ys.length = s.length) ∧ (Sw a b s ys) ∧ (Srt ys a i)) _ ⟨(a + 1), 0, s, rfl, zk, zk, c, p, y, l, zo, rfl, .refl, (srt_nil zo)⟩ ?_)))))))))))
 rintro m1 s2 w3 ⟨i, k, ys, hm, r, ah, c, p, y, l, i1, i3, i4, i5⟩
 refine yS ah (zY (wR (zD (nLt k 5 ?_ ?_))))
 ·intro h4
  refine nQ (zT (zK (zB (zY (zX (W_cut (fun s0 w0 => ∃ (n : Nat), (s0.ds = []) ∧ ([0, 1, 2, 8, 7].map s0.f = [d, (N6 a), (N6 b), (N6 k), (N6 n)]) ∧ (Row w0 B_ 21 1 encI32 d ys) ∧ (Below B_ w w0) ∧ (Ch (fun k => Value.ownBlock d = some k) w w0) ∧ (B_ ≤ w0.heap.size) ∧ (a < n ∧ n ≤ b ∧ i ≤ n) ∧ (Srt ys a n) ∧ (n < b → el ys n < el ys (n - 1)) ∧ (Sw a b s ys)) ?_ ?_))))))
  ·refine zX (yZ (fun m s0 w0 => ∃ (i2 : Nat), (m = b - i2) ∧ (s0.ds = []) ∧ ([0, 1, 2, 8, 7].map s0.f = [d, (N6 a), (N6 b), (N6 k), (N6 i2)]) ∧ (Row w0 B_ 21 1 encI32 d ys) ∧ (Below B_ w w0) ∧ (Ch (fun k => Value.ownBlock d = some k) w w0) ∧ (B_ ≤ w0.heap.size) ∧ (a < i2 ∧ i2 ≤ b ∧ i ≤ i2) ∧ (Srt ys a i2)) _ ⟨i, rfl, r, zk, c, p, y, l, zo, i5⟩ ?_)
   rintro m5 s6 w7 ⟨i2, hm, r, ah, c, p, y, l, m1, m5⟩
   refine yS ah (zY (zY (xA zk zk (yE (yE (xO .i64 ((i2 : Nat) : Int) ((b : Nat) : Int) (i2 < b) rfl (cmpN_lt i2 b) zk zk ?_ ?_))))))
   ·intro h8
    replace h8 : i2 < b := by omega
    refine yE (qw (yE (qw (yE (qw ?_)))))
    have o := zV ys i2 zo; obtain ⟨x9, bp⟩ := o
    have o := (c.rd).at (k := 1) zj bp
    obtain ⟨dd, b9, df, c4⟩ := o
    refine yM (k := .i64) d i2 _ dd b9 yX df zo zk zk (qw (zZ dd (b9 + i2 * 1) (I3 x9) zk zf (c4 0 _ rfl) (qw (yE (qw (yE (qw (Lq_subN i2 1 zo zo zk zk (qw ?_)))))))))
    have o := zV ys (i2 - 1) zo; obtain ⟨b0, b2⟩ := o
    have o := (c.rd).at (k := 1) zj b2
    obtain ⟨dc, bo, c0, dh⟩ := o
    refine yM (k := .i64) d (i2 - 1) _ dc bo yX c0 zo zk zk (qw (zZ dc (bo + (i2 - 1) * 1) (I3 b0) zk zf (dh 0 _ rfl) (qw (xX 134 [(I3 x9), (I3 b0)] (.bool (decide (x9 < b0))) zg (fun wq hbq => vH x9 b0 wq ) (xI (decide (x9 < b0)) ?_ ?_)))))
    ·intro d8
     have d9 := el_lt bp b2 d8
     refine qw (wZ true zk (qT (yN ?_)))
     intro fe bd
     replace p := p.trans (bd.mono l)
     replace l := Nat.le_trans l (bd.size)
     refine zB (zF (yH (zL (zL (yB ?_)))))
     replace y := y.trans2 (Ch.of_below bd) (fun _ h => h.elim)
     replace c := c.below bd
     refine zB ⟨i2, r, zk, c, p, y, l, zo, ?_, ?_, ?_⟩
     ·exact m5
     ·(intro; omega)
     exact i4
    intro dz
    have eb := el_le bp b2 dz
    refine qw (wZ false zk (qT (yN ?_)))
    intro fq be
    replace p := p.trans (be.mono l)
    replace l := Nat.le_trans l (be.size)
    refine zB (zT (zK (zB (zX (zQ (zD (xL i2 1 (zG (zR (zI ?_))))))))))
    replace y := y.trans2 (Ch.of_below be) (fun _ h => h.elim)
    replace c := c.below be
    exact zB ⟨_, zo, (i2 + 1), rfl, r, zk, c, p, y, l, zo, m5.snoc zo za⟩
   intro eh
   replace eh : b ≤ i2 := by omega
   refine yE (qs (qs (qs (qs (qs (qs (qs (qs (qs (qs (qs (qF (yN ?_)))))))))))))
   intro fy bg
   replace p := p.trans (bg.mono l)
   replace l := Nat.le_trans l (bg.size)
   refine zB (zF (yH (zL (zL (yB ?_)))))
   replace y := y.trans2 (Ch.of_below bg) (fun _ h => h.elim)
   replace c := c.below bg
   refine zB ⟨i2, r, zk, c, p, y, l, zo, ?_, ?_, ?_⟩
   ·exact m5
   ·(intro; omega)
   exact i4
  rintro fu fi ⟨n, r, ah, c, p, y, l, n1, n5, n6, n4⟩
  refine yS ah (zY (wR (zD (zD (nEq n b ?_ ?_)))))
  ·intro fm
   refine nQ (zT (wR (zG (nQ (zS (zH (zP (zH (zH (zP (zH (yC [(.bool true)] (hd := r) ?_))))))))))))
   exact ⟨ys, true, rfl, c, (by first | exact i4 | exact n4), (by exact (fun _ => n5.at zo)), y⟩
  intro fk
  refine nQ (zF (zK (zB (zY (wR (zD (zD (zsb b a (nLt (b - a) 50 ?_ ?_)))))))))
  ·intro fs
   refine nQ (zT (wR (zG (nQ (zS (zH (zP (zH (zH (zP (zH (yC [(.bool false)] (hd := r) ?_))))))))))))
   exact ⟨ys, false, rfl, c, (by first | exact i4 | exact n4), (by exact (fun h => by cases h)), y⟩
  intro fv
  refine nQ (zF (zK (zB (zY (xB 15 18 zk zk zk ?_)))))
  intro fp ax
  replace p := p.trans (ax.mono l)
  replace l := Nat.le_trans l (ax.size)
  refine ⟨fun w => (Rd w encI32 d ys), ?_⟩
  replace c := c.below ax
  refine mp 0 rfl d (.inr c.rd) zg (mp 1 rfl (N6 n) (.inr c.rd) zg (mp 2 rfl d (.inr c.rd) zg (mp 3 rfl (N6 n) (.inr c.rd) zg (mp 4 rfl (N6 (n - 1)) (.inr c.rd) (fun w2 _ => RI_subN n 1 zo zo zk zk w2) (mp 5 rfl d (.inr c.rd) zg (mp 6 rfl (N6 n) (.inr c.rd) zg (mp 7 rfl (N6 (n - 1)) (.inr c.rd) (fun w2 _ => RI_subN n 1 zo zo zk zk w2) ?_)))))))
  have o := zV ys (n - 1) zo; obtain ⟨ay, bu⟩ := o
  have o := (c.rd).at (k := 1) zj bu; obtain ⟨cu, a7, cf, e1⟩ := o
  refine mp 8 rfl (pt cu (a7 + (n - 1) * 1)) (.inr c.rd) (yF (k := .i64) d (n - 1) _ cu a7 yX cf zo zk zk) (mt 9 [9, 14, 15, 16, 17] rfl (I3 ay) c.rd (yR cu (a7 + (n - 1) * 1) (I3 ay) zk zf (fun w2 h2 => Rd.later (k := 1) h2 zj cf bu 0 _ rfl)) (mp 10 rfl d (.inr c.rd) zg (mp 11 rfl (N6 n) (.inr c.rd) zg ?_)))
  have o := zV ys n zo; obtain ⟨a4, aj⟩ := o
  have o := (c.rd).at (k := 1) zj aj; obtain ⟨cl, az, cc, eu⟩ := o
  refine mp 12 rfl (pt cl (az + n * 1)) (.inr c.rd) (yF (k := .i64) d n _ cl az yX cc zo zk zk) (mt 13 [13, 14, 15, 16, 17] rfl (I3 a4) c.rd (yR cl (az + n * 1) (I3 a4) zk zf (fun w2 h2 => Rd.later (k := 1) h2 zj cc aj 0 _ rfl)) ?_)
  have o := (c.rd).at (k := 1) zj aj; obtain ⟨cj, a3, cd, er⟩ := o
  refine mp 14 rfl (pt cj (a3 + n * 1)) (.inr c.rd) (yF (k := .i64) d n _ cj a3 yX cd zo zk zk) (yD 15 zk (yJ 15 rfl ?_ rfl))
  refine yL n 0 cj a3 a4 ay (I3 ay) c zj aj cd zk zk rfl zk zk rfl ?_
  intro fc cy bh
  replace p := p.tg l bh c
  replace l := Nat.le_trans l (bh.size)
  replace c := cy
  have ep : (List.set ys n ay)[n]? = some ay := yU aj
  refine zR ?_
  refine ⟨rfl, .inl zk, ?_⟩
  have o := zV (List.set ys n ay) (n - 1) (by (simp only [yT, List.length_set] at *; omega)); obtain ⟨d5, bx⟩ := o
  have o := (c.rd).at (k := 1) zj bx; obtain ⟨cq, a0, ce, e5⟩ := o
  refine mp 16 rfl (pt cq (a0 + (n - 1) * 1)) (.inl zk) (yF (k := .i64) d (n - 1) _ cq a0 yX ce (by (simp only [yT, List.length_set] at *; omega)) zk zk) (yD 17 zk (yJ 17 rfl ?_ rfl))
  refine yL (n - 1) 0 cq a0 d5 a4 (I3 a4) c zj bx ce zk zk rfl zk zk rfl ?_
  intro fo dg bk
  replace p := p.tg l bk c
  replace l := Nat.le_trans l (bk.size)
  replace c := dg
  have e2 : (List.set (List.set ys n ay) (n - 1) a4)[(n - 1)]? = some a4 := yU bx
  have eS := xZ aj bu
  replace c := c.cast eS; clear eS
  refine zR ?_
  refine ⟨rfl, .inl zk, yO zk (zB (W_cut (fun s0 w0 => ∃ (yb : List Int), (s0.ds = []) ∧ ([0, 1, 2, 7, 8].map s0.f = [d, (N6 a), (N6 b), (N6 n), (N6 k)]) ∧ (Row w0 B_ 21 1 encI32 d yb) ∧ (Below B_ w w0) ∧ (Ch (fun k => Value.ownBlock d = some k) w w0) ∧ (B_ ≤ w0.heap.size) ∧ (yb.length = s.length) ∧ (Sw a b s yb) ∧ (Srt yb a n)) ?_ ?_))⟩
  ·refine wR (zD (zD (zsb n a (nGe (n - a) 2 ?_ ?_))))
   ·intro fn
    refine nQ (zT (wR (zD (zsb n 1 (zG (nQ (zX ?_)))))))
    replace y := ((y.trans2 (Ch.of_below ax) (fun _ h => h.elim)).trans2 (Ch.of_grown bh) (fun k e => u k e)).trans2 (Ch.of_grown bk) (fun k e => u k e)
    refine yZ (fun m s0 w0 => ∃ (j : Nat) (zs : List Int), (m = j) ∧ (s0.ds = []) ∧ ([0, 1, 2, 7, 8, 9].map s0.f = [d, (N6 a), (N6 b), (N6 n), (N6 k), (N6 j)]) ∧ (Row w0 B_ 21 1 encI32 d zs) ∧ (Below B_ w w0) ∧ (Ch (fun k => Value.ownBlock d = some k) w w0) ∧ (B_ ≤ w0.heap.size) ∧ (a ≤ j ∧ j + 1 ≤ n) ∧ (zs.length = s.length) ∧ (Sw a b s zs) ∧ (Ins zs a (n - 1) j)) _ ⟨(n - 1), (swp ys n (n - 1)), rfl, r, zk, c, p, y, l, zo, ((yT _ _ _).trans i3), (.swap _ _ n4 zo zo zo), (Ins.from n5 zo zo)⟩ ?_
    rintro fd fj fh ⟨j, zs, hm, r, ah, c, p, y, l, p1, p3, p4, p5⟩
    refine yS ah (zY (wR (zD (nGe j 1 ?_ ?_))))
    ·intro fw
     refine nQ (zT (zK (zB (zY (zX (zY (zY (xA zk zk (yE (yE ?_))))))))))
     have o := zV zs j zo; obtain ⟨af, ac⟩ := o
     have o := (c.rd).at (k := 1) zj ac
     obtain ⟨c6, b4, db, cz⟩ := o
     refine yM (k := .i64) d j _ c6 b4 yX db zo zk zk (zZ c6 (b4 + j * 1) (I3 af) zk zf (cz 0 _ rfl) (yE (yE (Lq_subN j 1 zo zo zk zk ?_))))
     have o := zV zs (j - 1) zo; obtain ⟨ae, ai⟩ := o
     have o := (c.rd).at (k := 1) zj ai
     obtain ⟨de, bn, da, cw⟩ := o
     refine yM (k := .i64) d (j - 1) _ de bn yX da zo zk zk (zZ de (bn + (j - 1) * 1) (I3 ae) zk zf (cw 0 _ rfl) (xX 134 [(I3 af), (I3 ae)] (.bool (decide (af < ae))) zg (fun wq hbq => vH af ae wq ) (xI (decide (af < ae)) ?_ ?_)))
     ·intro d4
      have d1 := el_lt ac ai d4
      refine wZ true zk (yN ?_)
      intro fx bc
      replace p := p.trans (bc.mono l)
      replace l := Nat.le_trans l (bc.size)
      refine zB (zF (zK (zB (xB 15 18 zk zk zk ?_))))
      intro ft bj
      replace p := p.trans (bj.mono l)
      replace l := Nat.le_trans l (bj.size)
      refine ⟨fun w => (Rd w encI32 d zs), ?_⟩
      replace c := (c.below bc).below bj
      refine mp 0 rfl d (.inr c.rd) zg (mp 1 rfl (N6 j) (.inr c.rd) zg (mp 2 rfl d (.inr c.rd) zg (mp 3 rfl (N6 j) (.inr c.rd) zg (mp 4 rfl (N6 (j - 1)) (.inr c.rd) (fun w2 _ => RI_subN j 1 zo zo zk zk w2) (mp 5 rfl d (.inr c.rd) zg (mp 6 rfl (N6 j) (.inr c.rd) zg (mp 7 rfl (N6 (j - 1)) (.inr c.rd) (fun w2 _ => RI_subN j 1 zo zo zk zk w2) ?_)))))))
      have o := (c.rd).at (k := 1) zj ai; obtain ⟨cn, a5, ch, d3⟩ := o
      refine mp 8 rfl (pt cn (a5 + (j - 1) * 1)) (.inr c.rd) (yF (k := .i64) d (j - 1) _ cn a5 yX ch zo zk zk) (mt 9 [9, 14, 15, 16, 17] rfl (I3 ae) c.rd (yR cn (a5 + (j - 1) * 1) (I3 ae) zk zf (fun w2 h2 => Rd.later (k := 1) h2 zj ch ai 0 _ rfl)) (mp 10 rfl d (.inr c.rd) zg (mp 11 rfl (N6 j) (.inr c.rd) zg ?_)))
      have o := (c.rd).at (k := 1) zj ac; obtain ⟨b1, av, b3, ed⟩ := o
      refine mp 12 rfl (pt b1 (av + j * 1)) (.inr c.rd) (yF (k := .i64) d j _ b1 av yX b3 zo zk zk) (mt 13 [13, 14, 15, 16, 17] rfl (I3 af) c.rd (yR b1 (av + j * 1) (I3 af) zk zf (fun w2 h2 => Rd.later (k := 1) h2 zj b3 ac 0 _ rfl)) ?_)
      have o := (c.rd).at (k := 1) zj ac; obtain ⟨bz, ao, b8, d0⟩ := o
      refine mp 14 rfl (pt bz (ao + j * 1)) (.inr c.rd) (yF (k := .i64) d j _ bz ao yX b8 zo zk zk) (yD 15 zk (yJ 15 rfl ?_ rfl))
      refine yL j 0 bz ao af ae (I3 ae) c zj ac b8 zk zk rfl zk zk rfl ?_
      intro e8 cm a8
      replace p := p.tg l a8 c
      replace l := Nat.le_trans l (a8.size)
      replace c := cm
      have ei : (List.set zs j ae)[j]? = some ae := yU ac
      refine zR ?_
      refine ⟨rfl, .inl zk, ?_⟩
      have o := zV (List.set zs j ae) (j - 1) (by (simp only [yT, List.length_set] at *; omega)); obtain ⟨c9, a1⟩ := o
      have o := (c.rd).at (k := 1) zj a1; obtain ⟨b5, ar, br, d2⟩ := o
      refine mp 16 rfl (pt b5 (ar + (j - 1) * 1)) (.inl zk) (yF (k := .i64) d (j - 1) _ b5 ar yX br (by (simp only [yT, List.length_set] at *; omega)) zk zk) (yD 17 zk (yJ 17 rfl ?_ rfl))
      refine yL (j - 1) 0 b5 ar c9 af (I3 af) c zj a1 br zk zk rfl zk zk rfl ?_
      intro ez cr a9
      replace p := p.tg l a9 c
      replace l := Nat.le_trans l (a9.size)
      replace c := cr
      have ec : (List.set (List.set zs j ae) (j - 1) af)[(j - 1)]? = some af := yU a1
      have eS := xZ ac ai
      replace c := c.cast eS; clear eS
      refine zR ?_
      refine ⟨rfl, .inl zk, yO zk (zI (zB (zQ (zD (zsb j 1 (zG (zR ?_)))))))⟩
      have fl : a < j := Low.lt (hlow.keep p4) zo zo zo za
      replace y := (((y.trans2 (Ch.of_below bc) (fun _ h => h.elim)).trans2 (Ch.of_below bj) (fun _ h => h.elim)).trans2 (Ch.of_grown a8) (fun k e => u k e)).trans2 (Ch.of_grown a9) (fun k e => u k e)
      refine zB ⟨_, zo, (j - 1), (swp zs j (j - 1)), rfl, r, zk, c, p, y, l, zo, ?_, ?_, ?_⟩
      ·rw [yT]; exact p3
      ·exact .swap _ _ p4 zo zo zo
      exact p5.step zo zo zo za
     intro c2
     have di := el_le ac ai c2
     refine wZ false zk (yN ?_)
     intro ey an
     replace p := p.trans (an.mono l)
     replace l := Nat.le_trans l (an.size)
     refine zB (zT (yH (zL (zxo (zL (zL (yB ?_)))))))
     replace y := y.trans2 (Ch.of_below an) (fun _ h => h.elim)
     replace c := c.below an
     refine zB ⟨zs, r, zk, c, p, y, l, ?_, ?_, ?_⟩
     ·first | exact p3 | (rw [yT]; exact i3)
     ·exact p4
     exact (p5.done zo (.inr za)).at zo
    intro es
    refine nQ (zF (yH (zL (zL (yB (zB ⟨zs, r, zk, c, p, y, l, ?_, ?_, ?_⟩))))))
    ·first | exact p3 | (rw [yT]; exact i3)
    ·exact p4
    exact (p5.done zo (.inl zo)).at zo
   intro e7
   refine nQ (zF (zK ?_))
   replace y := ((y.trans2 (Ch.of_below ax) (fun _ h => h.elim)).trans2 (Ch.of_grown bh) (fun k e => u k e)).trans2 (Ch.of_grown bk) (fun k e => u k e)
   refine zB ⟨(swp ys n (n - 1)), r, zk, c, p, y, l, ?_, ?_, ?_⟩
   ·first | exact p3 | (rw [yT]; exact i3)
   ·(exact .swap _ _ n4 zo zo zo)
   exact srt_nil zo
  rintro ej e6 ⟨yb, r, ah, c, p, y, l, o3, o4, o5⟩
  refine yS ah (wR (zD (zD (zsb b n (nGe (b - n) 2 ?_ ?_)))))
  ·intro em
   refine nQ (zT (wR (zD (xL n 1 (zG (nQ (zX (yZ (fun m s0 w0 => ∃ (t : Nat) (ts : List Int), (m = b - t) ∧ (s0.ds = []) ∧ ([0, 1, 2, 7, 8, 10].map s0.f = [d, (N6 a), (N6 b), (N6 n), (N6 k), (N6 t)]) ∧ (Row w0 B_ 21 1 encI32 d ts) ∧ (Below B_ w w0) ∧ (Ch (fun k => Value.ownBlock d = some k) w w0) ∧ (B_ ≤ w0.heap.size) ∧ (n < t ∧ t ≤ b) ∧ (ts.length = s.length) ∧ (Sw a b s ts) ∧ (Srt ts a n)) _ ⟨(n + 1), yb, rfl, r, zk, c, p, y, l, zo, o3, o4, o5⟩ ?_))))))))
   rintro en ex ew ⟨t, ts, hm, r, ah, c, p, y, l, t1, t3, t4, t5⟩
   refine yS ah (zY (wR (zD (zD (nLt t b ?_ ?_)))))
   ·intro e3
    refine nQ (zT (zK (zB (zY (zX (zY (zY (xA zk zk (yE (yE ?_))))))))))
    have o := zV ts t zo; obtain ⟨ab, aa⟩ := o
    have o := (c.rd).at (k := 1) zj aa
    obtain ⟨cb, bl, ci, co⟩ := o
    refine yM (k := .i64) d t _ cb bl yX ci zo zk zk (zZ cb (bl + t * 1) (I3 ab) zk zf (co 0 _ rfl) (yE (yE (Lq_subN t 1 zo zo zk zk ?_))))
    have o := zV ts (t - 1) zo; obtain ⟨z, ad⟩ := o
    have o := (c.rd).at (k := 1) zj ad
    obtain ⟨cg, bi, cv, cs⟩ := o
    refine yM (k := .i64) d (t - 1) _ cg bi yX cv zo zk zk (zZ cg (bi + (t - 1) * 1) (I3 z) zk zf (cs 0 _ rfl) (xX 134 [(I3 ab), (I3 z)] (.bool (decide (ab < z))) zg (fun wq hbq => vH ab z wq ) (xI (decide (ab < z)) ?_ ?_)))
    ·intro c8
     have dr := el_lt aa ad c8
     refine wZ true zk (yN ?_)
     intro fb al
     replace p := p.trans (al.mono l)
     replace l := Nat.le_trans l (al.size)
     refine zB (zF (zK (zB (xB 15 18 zk zk zk ?_))))
     intro e4 ap
     replace p := p.trans (ap.mono l)
     replace l := Nat.le_trans l (ap.size)
     refine ⟨fun w => (Rd w encI32 d ts), ?_⟩
     replace c := (c.below al).below ap
     refine mp 0 rfl d (.inr c.rd) zg (mp 1 rfl (N6 t) (.inr c.rd) zg (mp 2 rfl d (.inr c.rd) zg (mp 3 rfl (N6 t) (.inr c.rd) zg (mp 4 rfl (N6 (t - 1)) (.inr c.rd) (fun w2 _ => RI_subN t 1 zo zo zk zk w2) (mp 5 rfl d (.inr c.rd) zg (mp 6 rfl (N6 t) (.inr c.rd) zg (mp 7 rfl (N6 (t - 1)) (.inr c.rd) (fun w2 _ => RI_subN t 1 zo zo zk zk w2) ?_)))))))
     have o := (c.rd).at (k := 1) zj ad; obtain ⟨bv, aw, b6, eg⟩ := o
     refine mp 8 rfl (pt bv (aw + (t - 1) * 1)) (.inr c.rd) (yF (k := .i64) d (t - 1) _ bv aw yX b6 zo zk zk) (mt 9 [9, 14, 15, 16, 17] rfl (I3 z) c.rd (yR bv (aw + (t - 1) * 1) (I3 z) zk zf (fun w2 h2 => Rd.later (k := 1) h2 zj b6 ad 0 _ rfl)) (mp 10 rfl d (.inr c.rd) zg (mp 11 rfl (N6 t) (.inr c.rd) zg ?_)))
     have o := (c.rd).at (k := 1) zj aa; obtain ⟨b7, ak, bs, ea⟩ := o
     refine mp 12 rfl (pt b7 (ak + t * 1)) (.inr c.rd) (yF (k := .i64) d t _ b7 ak yX bs zo zk zk) (mt 13 [13, 14, 15, 16, 17] rfl (I3 ab) c.rd (yR b7 (ak + t * 1) (I3 ab) zk zf (fun w2 h2 => Rd.later (k := 1) h2 zj bs aa 0 _ rfl)) ?_)
     have o := (c.rd).at (k := 1) zj aa; obtain ⟨bq, am, bt, dy⟩ := o
     refine mp 14 rfl (pt bq (am + t * 1)) (.inr c.rd) (yF (k := .i64) d t _ bq am yX bt zo zk zk) (yD 15 zk (yJ 15 rfl ?_ rfl))
     refine yL t 0 bq am ab z (I3 z) c zj aa bt zk zk rfl zk zk rfl ?_
     intro e0 ct a6
     replace p := p.tg l a6 c
     replace l := Nat.le_trans l (a6.size)
     replace c := ct
     have ee : (List.set ts t z)[t]? = some z := yU aa
     refine zR ?_
     refine ⟨rfl, .inl zk, ?_⟩
     have o := zV (List.set ts t z) (t - 1) (by (simp only [yT, List.length_set] at *; omega)); obtain ⟨c3, a2⟩ := o
     have o := (c.rd).at (k := 1) zj a2; obtain ⟨bm, au, bw, d6⟩ := o
     refine mp 16 rfl (pt bm (au + (t - 1) * 1)) (.inl zk) (yF (k := .i64) d (t - 1) _ bm au yX bw (by (simp only [yT, List.length_set] at *; omega)) zk zk) (yD 17 zk (yJ 17 rfl ?_ rfl))
     refine yL (t - 1) 0 bm au c3 ab (I3 ab) c zj a2 bw zk zk rfl zk zk rfl ?_
     intro ek ck ba
     replace p := p.tg l ba c
     replace l := Nat.le_trans l (ba.size)
     replace c := ck
     have dx : (List.set (List.set ts t z) (t - 1) ab)[(t - 1)]? = some ab := yU a2
     have eS := xZ aa ad
     replace c := c.cast eS; clear eS
     refine zR ?_
     refine ⟨rfl, .inl zk, yO zk (zI (zB (zQ (zD (xL t 1 (zG (zR ?_)))))))⟩
     replace y := (((y.trans2 (Ch.of_below al) (fun _ h => h.elim)).trans2 (Ch.of_below ap) (fun _ h => h.elim)).trans2 (Ch.of_grown a6) (fun k e => u k e)).trans2 (Ch.of_grown ba) (fun k e => u k e)
     refine zB ⟨_, zo, (t + 1), (swp ts t (t - 1)), rfl, r, zk, c, p, y, l, zo, ?_, ?_, ?_⟩
     ·rw [yT]; exact t3
     ·exact .swap _ _ t4 zo zo zo
     exact t5.swp_hi zo zo
    intro c5
    have dn := el_le aa ad c5
    refine wZ false zk (yN ?_)
    intro eo aq
    replace p := p.trans (aq.mono l)
    replace l := Nat.le_trans l (aq.size)
    refine zB (zT (yH (zL (zxo (zL (zL (yB (zI (zB (zQ (zD (xL k 1 (zG (zR ?_))))))))))))))
    replace y := y.trans2 (Ch.of_below aq) (fun _ h => h.elim)
    replace c := c.below aq
    refine zB ⟨_, zo, n, (k + 1), ts, rfl, r, zk, c, p, y, l, zo, ?_, ?_, ?_⟩
    ·first | exact o3 | exact t3
    ·first | exact o4 | exact t4
    first | exact o5 | exact t5
   intro ev
   refine nQ (zF (yH (zL (zL (yB (zI (zB (zQ (zD (xL k 1 (zG (zR (zB ⟨_, zo, n, (k + 1), ts, rfl, r, zk, c, p, y, l, zo, ?_, ?_, ?_⟩)))))))))))))
   ·first | exact o3 | exact t3
   ·first | exact o4 | exact t4
   first | exact o5 | exact t5
  intro e9
  refine nQ (zF (zK (zI (zB (zQ (zD (xL k 1 (zG (zR (zB ⟨_, zo, n, (k + 1), yb, rfl, r, zk, c, p, y, l, zo, ?_, ?_, ?_⟩))))))))))
  ·first | exact o3 | exact t3
  ·first | exact o4 | exact t4
  first | exact o5 | exact t5
 intro fa
 refine nQ (zF (yH (zL (zL (yB (zB (wR (zG (nQ (zS (yC [(.bool false)] (hd := r) ?_)))))))))))
 exact ⟨ys, false, rfl, c, (by first | exact i4 | exact n4), (by exact (fun h => by cases h)), y⟩
end Go.Proofs.YtddnhlobnembaaaGreatDoor
end

/- === Wcspv === -/
section
/- Walks, written by my program walk.py out of the specification cspv.py: each theorem says what one function returns and that it leaves memory as it was. -/
namespace Go.Proofs.YtddnhlobnembaaaGreatDoor
open Go Go.RowKit Go.FK _root_.Go.Proofs.Tryz
set_option maxHeartbeats 4000000
set_option maxRecDepth 100000
theorem c_order2 (B_ : Nat) (l : Value) (s : List (Int)) (a : Nat) (b : Nat) (c : Nat) (z : Int) (w : World) (hs0 : B_ ≤ w.heap.size) (y : Row w B_ 21 1 encI32 l s) (d : w.heap[c]? = some (.cells [(I6 z)].toArray 3 (0, 0))) (al : B_ ≤ c) (ha : a < s.length) (hb_ : b < s.length) (hz : 0 ≤ z ∧ z ≤ 1000) :
  Calls Tryz.prog 164 #[l, (N6 a), (N6 b), (pt c 0)] w (Ret fun v w' => ∃ (m1 : Nat) (m2 : Nat) (z2 : Int), v = (.tuple #[(N6 m1), (N6 m2)]) ∧ (m1 = a ∧ m2 = b ∨ m1 = b ∧ m2 = a) ∧ (z ≤ z2 ∧ z2 ≤ z + 1) ∧ w'.heap[c]? = some (.cells [(I6 z2)].toArray 3 (0, 0)) ∧ Ch (fun k => k = c) w w') := by
 refine wI 28 func164 rfl ?_
 have hb := Below.refl B_ w
 have m : B_ ≤ (World.heap w).size := hs0
 have q := Ch.refl (fun k => k = c) w
 have u : (World.heap w).size ≤ c ∨ (fun k => k = c) c := .inr rfl
 refine wR (zG (zG (nW (zY (xA zk zk (yE (yE ?_)))))))
 have hz := zV s b zo; obtain ⟨x1, o⟩ := hz
 have hz := (y.rd).at (k := 1) zj o
 obtain ⟨g3, n, af, ae⟩ := hz
 refine yM (k := .i64) l b _ g3 n yX af zo zk zk (zZ g3 (n + b * 1) (I3 x1) zk zf (ae 0 _ rfl) (yE (yE ?_)))
 have hz := zV s a zo; obtain ⟨r, p⟩ := hz
 have hz := (y.rd).at (k := 1) zj p
 obtain ⟨g9, i, ab, t⟩ := hz
 refine yM (k := .i64) l a _ g9 i yX ab zo zk zk (zZ g9 (i + a * 1) (I3 r) zk zf (t 0 _ rfl) (xX 134 [(I3 x1), (I3 r)] (.bool (decide (x1 < r))) zg (fun wq hbq => vH x1 r wq ) (xI (decide (x1 < r)) ?_ ?_)))
 ·intro ah
  have ai := el_lt o p ah
  refine yN ?_
  intro am f
  have hb := hb.trans (f.mono m)
  replace m := Nat.le_trans m (f.size)
  have d := zA d f
  refine zB (zT (wR (zD (zr (pt c 0) (zO 0 d rfl (xQ z 1 (z + 1) rfl zk zk (yW _ zh zh) (zr (pt c 0) (z1 0 (I6 (z + 1)) [(I6 (z + 1))] d ?_))))))))
  intro ao j
  replace m := Nat.le_trans m (Nat.le_of_eq j.size.symm)
  have d := j.here
  refine nR (zD (zD (zG (zG (nQ (zS (zH (yC [(N6 b), (N6 a)] ?_))))))))
  replace q := (q.trans2 (Ch.of_below f) (fun _ h => h.elim)).trans2 (Ch.of_wrote j) (fun k e => e ▸ u)
  exact ⟨b, a, (z + 1), rfl, zo, zo, d, q⟩
 intro ag
 have ad := el_le o p ag
 refine yN ?_
 intro an g
 have hb := hb.trans (g.mono m)
 replace m := Nat.le_trans m (g.size)
 refine zB (zF (zK (zB (wR (zD (zD (zG (zG (nQ (zS (yC [(N6 a), (N6 b)] ?_)))))))))))
 replace q := q.trans2 (Ch.of_below g) (fun _ h => h.elim)
 have d := zA d g
 exact ⟨a, b, z, rfl, zo, zo, d, q⟩
theorem c_median (B_ : Nat) (l : Value) (s : List (Int)) (a : Nat) (b : Nat) (c : Nat) (f : Nat) (z : Int) (w : World) (hs0 : B_ ≤ w.heap.size) (h : Row w B_ 21 1 encI32 l s) (i : w.heap[f]? = some (.cells [(I6 z)].toArray 3 (0, 0))) (r : B_ ≤ f) (ha : a < s.length) (hb_ : b < s.length) (hc_ : c < s.length) (hz : 0 ≤ z ∧ z ≤ 500) :
  Calls Tryz.prog 155 #[l, (N6 a), (N6 b), (N6 c), (pt f 0)] w (Ret fun v w' => ∃ (m1 : Nat) (z2 : Int), v = (N6 m1) ∧ (m1 = a ∨ m1 = b ∨ m1 = c) ∧ (z ≤ z2 ∧ z2 ≤ z + 3) ∧ w'.heap[f]? = some (.cells [(I6 z2)].toArray 3 (0, 0)) ∧ Ch (fun k => k = f) w w') := by
 refine wI 36 func155 rfl ?_
 have t := Below.refl B_ w
 have q : B_ ≤ (World.heap w).size := hs0
 have hc := Ch.refl (fun k => k = f) w
 have m : (World.heap w).size ≤ f ∨ (fun k => k = f) f := .inr rfl
 refine wR (zG (nR (zD (zD (zD (zD (zc (c_order2 0 l s a b f z _ (Nat.zero_le _) h.mono0 i (Nat.zero_le _) zo zo zo) ?_)))))))
 rintro _ w4 ⟨aa, ad, z3, rfl, an, ap, ai, p⟩
 have t := p.below t q (fun k e => e ▸ r)
 replace q := Nat.le_trans q p.size
 have h := h.ch p (fun g e d => (h.ne i zi) (d ▸ e))
 have i := ai
 refine zD (zr (N6 aa) (zr (N6 ad) (zG (zG (nR (zD (zD (zD (zD (zc (c_order2 0 l s ad c f z3 _ (Nat.zero_le _) h.mono0 i (Nat.zero_le _) zo zo zo) ?_))))))))))
 rintro _ ar ⟨ab, u, ah, rfl, aj, am, y, j⟩
 have t := j.below t q (fun k e => e ▸ r)
 replace q := Nat.le_trans q j.size
 have h := h.ch j (fun g e d => (h.ne i zi) (d ▸ e))
 have i := y
 refine zD (zr (N6 ab) (zr (N6 u) (zG (zG (nR (zD (zD (zD (zD (zc (c_order2 0 l s aa ab f ah _ (Nat.zero_le _) h.mono0 i (Nat.zero_le _) zo zo zo) ?_))))))))))
 rintro _ aq ⟨ae, o, ag, rfl, al, ak, ac, n⟩
 have t := n.below t q (fun k e => e ▸ r)
 replace q := Nat.le_trans q n.size
 have i := ac
 refine zD (zr (N6 ae) (zr (N6 o) (zG (zG (nR (zD (zG (nQ (zS (yC [(N6 o)] ?_))))))))))
 replace hc := ((hc.trans2 p (fun k e => e ▸ m)).trans2 j (fun k e => e ▸ m)).trans2 n (fun k e => e ▸ m)
 exact ⟨o, ag, rfl, zo, zo, i, hc⟩
theorem c_medadj (B_ : Nat) (d : Value) (s : List (Int)) (a : Nat) (b : Nat) (z : Int) (w : World) (hs0 : B_ ≤ w.heap.size) (l : Row w B_ 21 1 encI32 d s) (c : w.heap[b]? = some (.cells [(I6 z)].toArray 3 (0, 0))) (j : B_ ≤ b) (ha : 0 < a ∧ a + 1 < s.length) (hl : s.length ≤ 2305843009213693951) (hz : 0 ≤ z ∧ z ≤ 400) :
  Calls Tryz.prog 154 #[d, (N6 a), (pt b 0)] w (Ret fun v w' => ∃ (m1 : Nat) (z2 : Int), v = (N6 m1) ∧ (a - 1 ≤ m1 ∧ m1 ≤ a + 1) ∧ (z ≤ z2 ∧ z2 ≤ z + 3) ∧ w'.heap[b]? = some (.cells [(I6 z2)].toArray 3 (0, 0)) ∧ Ch (fun k => k = b) w w') := by
 refine wI 15 func154 rfl ?_
 have o := Below.refl B_ w
 have n : B_ ≤ (World.heap w).size := hs0
 have i := Ch.refl (fun k => k = b) w
 have h : (World.heap w).size ≤ b ∨ (fun k => k = b) b := .inr rfl
 refine wR (zG (nR (zD (zD (zsb a 1 (zD (zD (xL a 1 (zD (zc (c_median 0 d s (a - 1) a (a + 1) b z _ (Nat.zero_le _) l.mono0 c (Nat.zero_le _) zo zo zo zo) ?_))))))))))
 rintro _ r ⟨g, z2, rfl, q, p, m, f⟩
 have o := f.below o n (fun k e => e ▸ j)
 replace n := Nat.le_trans n f.size
 have c := m
 refine zG (nQ (zS (yC [(N6 g)] ?_)))
 replace i := i.trans2 f (fun k e => e ▸ h)
 exact ⟨g, z2, rfl, zo, zo, c, i⟩
theorem c_pivot (B_ : Nat) (j : Value) (s : List (Int)) (a : Nat) (b : Nat) (w : World) (hs0 : B_ ≤ w.heap.size) (c : Row w B_ 21 1 encI32 j s) (h1 : a + 12 < b) (h2 : b ≤ s.length) (h3 : s.length ≤ 2305843009213693951) :
  Calls Tryz.prog 131 #[j, (N6 a), (N6 b)] w (Ret fun v w' => ∃ (ys : List (Int)) (m : Nat) (h : Int), v = (.tuple #[(N6 m), (I6 h)]) ∧ Row w' B_ 21 1 encI32 j ys ∧ (ys = s) ∧ (a ≤ m ∧ m < b) ∧ Ch (fun k => Value.ownBlock j = some k) w w') := by
 refine wI 57 func131 rfl ?_
 have hb := Below.refl B_ w
 have z : B_ ≤ (World.heap w).size := hs0
 have l := Ch.refl (fun k => Value.ownBlock j = some k) w
 have al : ∀ g, Value.ownBlock j = some g → (World.heap w).size ≤ g ∨ (fun k => Value.ownBlock j = some k) g := fun g h => .inr h
 refine wR (zG (zG (nR (zD (zD (zsb b a (zG (nR (zN [(I6 0)] 3 ?_)))))))))
 intro b1 w2 n
 have aa : B_ ≤ b1 := by rw [n.num]; exact z
 have f : (World.heap w).size ≤ b1 ∨ (fun k => Value.ownBlock j = some k) b1 := .inl (by rw [n.num]; exact l.size)
 have hb := hb.trans (n.below.mono z)
 replace z := Nat.le_trans z (n.below.size)
 have i := n.here
 refine nR (zD (zD (L_quoN (b - a) 4 zo zo zk zk (L_mulN ((b - a) / 4) 1 zo zk zk (xL a (((b - a) / 4) * 1) (zG (nR (zD (zD (L_quoN (b - a) 4 zo zo zk zk (L_mulN ((b - a) / 4) 2 zo zk zk (xL a (((b - a) / 4) * 2) (zG (nR (zD (zD (L_quoN (b - a) 4 zo zo zk zk (L_mulN ((b - a) / 4) 3 zo zk zk (xL a (((b - a) / 4) * 3) (zG (nW (wR (zD (nGe (b - a) 8 ?_ ?_))))))))))))))))))))))))
 ·intro h4
  refine nQ (zT (zY (wR (zD (nGe (b - a) 50 ?_ ?_)))))
  ·intro h5
   have c := c.below n.below
   refine nQ (zT (wR (zD (zD (zc (c_medadj 0 j s (a + (((b - a) / 4) * 1)) b1 0 _ (Nat.zero_le _) c.mono0 i (Nat.zero_le _) zo zo zo) ?_)))))
   replace l := l.trans2 (Ch.of_below n.below) (fun _ h => h.elim)
   rintro _ w8 ⟨ao, z7, rfl, ar, aq, am, t⟩
   have hb := t.below hb z (fun k e => e ▸ aa)
   replace z := Nat.le_trans z t.size
   have c := c.ch t (fun g e d => (c.ne i zi) (d ▸ e))
   have i := am
   refine zG (nR (zD (zD (zc (c_medadj 0 j s (a + (((b - a) / 4) * 2)) b1 z7 _ (Nat.zero_le _) c.mono0 i (Nat.zero_le _) zo zo zo) ?_))))
   rintro _ a7 ⟨ag, ap, rfl, ay, az, ad, u⟩
   have hb := u.below hb z (fun k e => e ▸ aa)
   replace z := Nat.le_trans z u.size
   have c := c.ch u (fun g e d => (c.ne i zi) (d ▸ e))
   have i := ad
   refine zG (nQ (zQ (zD (zD (zc (c_medadj 0 j s (a + (((b - a) / 4) * 3)) b1 ap _ (Nat.zero_le _) c.mono0 i (Nat.zero_le _) zo zo zo) ?_)))))
   rintro _ ba ⟨af, an, rfl, av, ax, ae, p⟩
   have hb := p.below hb z (fun k e => e ▸ aa)
   replace z := Nat.le_trans z p.size
   have c := c.ch p (fun g e d => (c.ne i zi) (d ▸ e))
   have i := ae
   refine zG (nQ (zQ (zD (zD (zD (zD (zc (c_median 0 j s ao ag af b1 an _ (Nat.zero_le _) c.mono0 i (Nat.zero_le _) zo zo zo zo) ?_)))))))
   rintro _ bc ⟨y, ai, rfl, a0, aw, ah, r⟩
   have hb := r.below hb z (fun k e => e ▸ aa)
   replace z := Nat.le_trans z r.size
   have c := c.ch r (fun g e d => (c.ne i zi) (d ▸ e))
   have i := ah
   refine zG (nR (zO 0 i rfl (nQ (zX (wR (qA .i64 ai 0 ?_ ?_))))))
   ·intro a5
    refine zG (nQ (zT (wR (zD (zG (zG (nQ (zS (zP (yC [(N6 y), (I6 1)] ?_))))))))))
    replace l := (((l.trans2 t (fun k e => e ▸ f)).trans2 u (fun k e => e ▸ f)).trans2 p (fun k e => e ▸ f)).trans2 r (fun k e => e ▸ f)
    exact ⟨s, y, 1, rfl, c, (by rfl), zo, l⟩
   intro a3
   refine zG (nQ (zF (wR (qA .i64 ai 12 ?_ ?_))))
   ·intro be
    refine zG (nQ (zT (wR (zD (zG (zG (nQ (zS (zP (yC [(N6 y), (I6 2)] ?_))))))))))
    replace l := (((l.trans2 t (fun k e => e ▸ f)).trans2 u (fun k e => e ▸ f)).trans2 p (fun k e => e ▸ f)).trans2 r (fun k e => e ▸ f)
    exact ⟨s, y, 2, rfl, c, (by rfl), zo, l⟩
   intro a8
   refine zG (nQ (zF (wR (zD (zG (zG (nQ (zS (zP (yC [(N6 y), (I6 0)] ?_))))))))))
   replace l := (((l.trans2 t (fun k e => e ▸ f)).trans2 u (fun k e => e ▸ f)).trans2 p (fun k e => e ▸ f)).trans2 r (fun k e => e ▸ f)
   exact ⟨s, y, 0, rfl, c, (by rfl), zo, l⟩
  intro a6
  have c := c.below n.below
  refine nQ (zF (zK (zB (zQ (zD (zD (zD (zD (zc (c_median 0 j s (a + (((b - a) / 4) * 1)) (a + (((b - a) / 4) * 2)) (a + (((b - a) / 4) * 3)) b1 0 _ (Nat.zero_le _) c.mono0 i (Nat.zero_le _) zo zo zo zo) ?_)))))))))
  replace l := l.trans2 (Ch.of_below n.below) (fun _ h => h.elim)
  rintro _ a2 ⟨o, aj, rfl, au, a1, ak, q⟩
  have hb := q.below hb z (fun k e => e ▸ aa)
  replace z := Nat.le_trans z q.size
  have c := c.ch q (fun g e d => (c.ne i zi) (d ▸ e))
  have i := ak
  refine zG (nR (zO 0 i rfl (nQ (zX (wR (qA .i64 aj 0 ?_ ?_))))))
  ·intro a9
   refine zG (nQ (zT (wR (zD (zG (zG (nQ (zS (zP (yC [(N6 o), (I6 1)] ?_))))))))))
   replace l := l.trans2 q (fun k e => e ▸ f)
   exact ⟨s, o, 1, rfl, c, (by rfl), zo, l⟩
  intro bf
  refine zG (nQ (zF (wR (qA .i64 aj 12 ?_ ?_))))
  ·intro bg
   refine zG (nQ (zT (wR (zD (zG (zG (nQ (zS (zP (yC [(N6 o), (I6 2)] ?_))))))))))
   replace l := l.trans2 q (fun k e => e ▸ f)
   exact ⟨s, o, 2, rfl, c, (by rfl), zo, l⟩
  intro a4
  refine zG (nQ (zF (wR (zD (zG (zG (nQ (zS (zP (yC [(N6 o), (I6 0)] ?_))))))))))
  replace l := l.trans2 q (fun k e => e ▸ f)
  exact ⟨s, o, 0, rfl, c, (by rfl), zo, l⟩
 intro bb
 refine nQ (zF (zK (zB (wR (zO 0 i rfl (nQ (zX (wR (zr (.bool true) (zG (nQ (zT (wR (zD (zG (zG (nQ (zS (zP (yC [(N6 (a + (((b - a) / 4) * 2))), (I6 1)] ?_))))))))))))))))))))
 replace l := l.trans2 (Ch.of_below n.below) (fun _ h => h.elim)
 have c := c.below n.below
 exact ⟨s, (a + (((b - a) / 4) * 2)), 1, rfl, c, (by rfl), zo, l⟩
end Go.Proofs.YtddnhlobnembaaaGreatDoor
end

/- === FKbf === -/
section
/- FKbf: numbers of 64 bits without sign of which only the range is wanted: shifts, exclusive or; a mask; a power of two. My own text. -/
namespace Go.FK
open Go Go.RowKit
theorem u64_rng (z : Int) : 0 ≤ IntKind.u64.wrap z ∧ IntKind.u64.wrap z ≤ 18446744073709551615 := by
 have h : IntKind.u64.wrap z = z % 18446744073709551616 := by simp [IntKind.wrap, IntKind.signed, IntKind.bits]
 rw [h]; omega
theorem wrapU (z : Int) (h0 : 0 ≤ z) (h1 : z ≤ 18446744073709551615) : IntKind.u64.wrap z = z := by
 have h : IntKind.u64.wrap z = z % 18446744073709551616 := by simp [IntKind.wrap, IntKind.signed, IntKind.bits]
 rw [h]; omega
section
variable {r : Option Nat} {P : Program} {n : Nat} {Q : Post} {s : Fm} {w : World} {ops : Array Oper} {rest : List Oper}
variable {d : Option Tmp} {ty : TypeId} {pos : String} {af : Array Edge}
theorem L_shlU {t yt : TypeId} {X Y : Operand} {yk : IntKind} (x : Int) (y p : Nat) (hp : 2 ^ y = p) (hy2 : Nat.ble y 64 = true) (hx : s.ev n X = .int .u64 x) (hy : s.ev n Y = .int yk y)
  (h : ∀ z : Int, 0 ≤ z ∧ z ≤ 18446744073709551615 → L r P n ops Q rest (s.put d (.int .u64 z)) w) : L r P n ops Q (⟨d, .binOp .shl t X Y yt, ty, pos, af, none⟩ :: rest) s w :=
 L_shl (k := .u64) x _ y p hp hy2 hx hy rfl (h _ (u64_rng _))
theorem L_shrU {t yt : TypeId} {X Y : Operand} {yk : IntKind} (x : Int) (y p : Nat) (hp : 2 ^ y = p) (hy2 : Nat.ble y 64 = true) (hr : 0 ≤ x ∧ x ≤ 18446744073709551615) (hx : s.ev n X = .int .u64 x) (hy : s.ev n Y = .int yk y)
  (h : ∀ z : Int, 0 ≤ z ∧ z ≤ 18446744073709551615 → L r P n ops Q rest (s.put d (.int .u64 z)) w) : L r P n ops Q (⟨d, .binOp .shr t X Y yt, ty, pos, af, none⟩ :: rest) s w :=
 L_shr (k := .u64) x y p hp hy2 hx hy (h _ ⟨Int.ediv_nonneg hr.1 (Int.natCast_nonneg _), Int.le_trans (Int.ediv_le_self _ hr.1) hr.2⟩)
theorem L_xorU {t yt : TypeId} {X Y : Operand} (x y : Int) (hx : s.ev n X = .int .u64 x) (hy : s.ev n Y = .int .u64 y)
  (h : ∀ z : Int, 0 ≤ z ∧ z ≤ 18446744073709551615 → L r P n ops Q rest (s.put d (.int .u64 z)) w) : L r P n ops Q (⟨d, .binOp .xor t X Y yt, ty, pos, af, none⟩ :: rest) s w :=
 L_bin _ _ (.int .u64 (IntKind.u64.wrap ((BitVec.ofInt 64 x ^^^ BitVec.ofInt 64 y).toNat : Int))) hx hy (xV ..) rfl (h _ (u64_rng _))
theorem L_andU {t yt : TypeId} {X Y : Operand} (x : Int) (b : Nat) (hb : b ≤ 18446744073709551615) (hx : s.ev n X = .int .u64 x) (hy : s.ev n Y = .int .u64 b)
  (h : ∀ z : Nat, z ≤ b → L r P n ops Q rest (s.put d (.int .u64 (z : Int))) w) : L r P n ops Q (⟨d, .binOp .and t X Y yt, ty, pos, af, none⟩ :: rest) s w := by
 have c : BitVec.ofInt 64 (b : Int) = BitVec.ofNat 64 b := by simp
 have a : (BitVec.ofInt 64 x &&& BitVec.ofInt 64 (b : Int)).toNat ≤ b := by
  rw [c, BitVec.toNat_and, BitVec.toNat_ofNat, Nat.mod_eq_of_lt (show b < 2 ^ 64 by omega)]
  exact Nat.and_le_right
 refine L_bin _ _ (.int .u64 (IntKind.u64.wrap ((BitVec.ofInt 64 x &&& BitVec.ofInt 64 (b : Int)).toNat : Int))) hx hy (xV ..) rfl ?_
 rw [wrapU _ (Int.natCast_nonneg _) (by omega)]
 exact h _ a
theorem L_shl1 {t yt : TypeId} {X Y : Operand} {yk : IntKind} (k : Nat) (hk : k ≤ 63) (hx : s.ev n X = .int .u64 1) (hy : s.ev n Y = .int yk k)
  (h : L r P n ops Q rest (s.put d (.int .u64 ((2 ^ k : Nat) : Int))) w) : L r P n ops Q (⟨d, .binOp .shl t X Y yt, ty, pos, af, none⟩ :: rest) s w := by
 refine L_shl 1 _ k (2 ^ k) rfl (by simp; show k ≤ 64; omega) hx hy ?_ h
 have : 2 ^ k ≤ 2 ^ 63 := Nat.pow_le_pow_right (by omega) hk
 rw [Int.one_mul]
 exact wrapU _ (Int.natCast_nonneg _) (by omega)
end
theorem subU (a b : Nat) (h : b ≤ a) (ha : a ≤ 18446744073709551615) : IntKind.u64.wrap (arithZ .sub (a : Int) (b : Int)) = ((a - b : Nat) : Int) := by
 have e : arithZ .sub (a : Int) (b : Int) = ((a - b : Nat) : Int) := by simp only [arithZ]; omega
 rw [e]; exact wrapU _ (Int.natCast_nonneg _) (by omega)
theorem pow_bitLen : ∀ n : Nat, 1 ≤ n → n < 4611686018427387904 → 2 ^ Lib.bitLen n ≤ 2 * n := by
 intro n
 induction n using Nat.strongRecOn with
 | ind n ih =>
  intro a b
  rw [Lib.bitLen_half n (by omega) (by omega), Nat.pow_add, Nat.pow_one]
  by_cases e : n / 2 = 0
  ·have : n = 1 := by omega
   subst this
   decide
  ·have := ih (n / 2) (by omega) (by omega) (by omega)
   omega
theorem bitLen_63 {n : Nat} (h1 : 1 ≤ n) (h2 : n < 4611686018427387904) : Lib.bitLen n ≤ 63 := by
 have a := pow_bitLen n h1 h2
 rcases Nat.lt_or_ge 63 (Lib.bitLen n) with h | h
 ·have : 2 ^ 64 ≤ 2 ^ Lib.bitLen n := Nat.pow_le_pow_right (by omega) h
  omega
 ·exact h
theorem bitAux_le : ∀ f x : Nat, Lib.bitLenAux f x ≤ f
 | 0, _ => Nat.le_refl _
 | f + 1, x => by
  have := bitAux_le f (x / 2)
  unfold Lib.bitLenAux
  split <;> omega
theorem bitLen_le (x : Nat) : Lib.bitLen x ≤ 64 := bitAux_le 64 x
end Go.FK
end

/- === Wcsbp === -/
section
/- Walks, written by my program walk.py out of the specification csbp.py: each theorem says what one function returns and that it leaves memory as it was. -/
namespace Go.Proofs.YtddnhlobnembaaaGreatDoor
open Go Go.RowKit Go.FK _root_.Go.Proofs.Tryz
set_option maxHeartbeats 4000000
set_option maxRecDepth 100000
theorem c_bitsLen (x : Int) (w : World) (h0 : 0 ≤ x) (h1 : x ≤ 18446744073709551615) :
  Calls Tryz.prog 114 #[(.int .u64 x)] w (Ret fun v w' => v = (N6 (Lib.bitLen x.toNat)) ∧ Below w.heap.size w w') :=
 (Tryz.bits_Len x w h0 h1).mono fun e w' h => ⟨_, h.1, rfl, h.2 ▸ Below.refl _ _⟩
theorem c_xnext (B_ : Nat) (b : Nat) (z : Int) (w : World) (hs0 : B_ ≤ w.heap.size) (a : w.heap[b]? = some (.cells [(.int .u64 z)].toArray 231 (0, 0))) (s : B_ ≤ b) (hz : 0 ≤ z ∧ z ≤ 18446744073709551615) :
  Calls Tryz.prog 153 #[(pt b 0)] w (Ret fun v w' => ∃ (r : Int) (z2 : Int), v = (.int .u64 r) ∧ (0 ≤ r ∧ r ≤ 18446744073709551615) ∧ (0 ≤ z2 ∧ z2 ≤ 18446744073709551615) ∧ w'.heap[b]? = some (.cells [(.int .u64 z2)].toArray 231 (0, 0)) ∧ Ch (fun k => k = b) w w') := by
 refine wI 33 func153 rfl ?_
 have n := Below.refl B_ w
 have d : B_ ≤ (World.heap w).size := hs0
 have t := Ch.refl (fun k => k = b) w
 have l : (World.heap w).size ≤ b ∨ (fun k => k = b) b := .inr rfl
 refine wR (zG (nW (xB 9 10 zk zk zk ?_)))
 intro w1 p
 have n := n.trans (p.mono d)
 replace d := Nat.le_trans d (p.size)
 refine ⟨fun w => (w.heap[b]? = some (.cells [(.int .u64 z)].toArray 231 (0, 0))), ?_⟩
 have a := zA a p
 refine mp 0 rfl (pt b 0) (.inr a) zg (mp 1 rfl (pt b 0) (.inr a) zg (mt 2 [2, 7, 8, 9] rfl (.int .u64 z) a (yR b 0 (.int .u64 z) zk zf (fun w2 h2 => zW h2 rfl)) (mp 3 rfl (pt b 0) (.inr a) zg (mp 4 rfl (pt b 0) (.inr a) zg (mt 5 [5, 6, 7, 8, 9] rfl (.int .u64 z) a (yR b 0 (.int .u64 z) zk zf (fun w2 h2 => zW h2 rfl)) (yD 6 zk ?_))))))
 refine yJ 6 rfl ?_ rfl
 refine L_shlU (yk := .u64) z 13 8192 rfl zk zk zk ?_
 intro z3 aj
 refine zR ?_
 refine ⟨rfl, .inr a, yD 7 zk (yJ 7 rfl ?_ rfl)⟩
 refine L_xorU z z3 zk zk ?_
 intro o ag
 refine zR ?_
 refine ⟨rfl, .inr a, mp 8 rfl (pt b 0) (.inr a) zg (yD 9 zk (yJ 9 rfl ?_ rfl))⟩
 refine z1 0 (.int .u64 o) [(.int .u64 o)] a ?_
 intro w7 q
 replace d := Nat.le_trans d (Nat.le_of_eq q.size.symm)
 have a := q.here
 refine zR ?_
 refine ⟨rfl, .inl zk, yO zk (zB (zY (xB 9 10 zk zk zk ?_)))⟩
 intro w9 f
 have n := n.trans (q.below s)
 have n := n.trans (f.mono d)
 replace d := Nat.le_trans d (f.size)
 refine ⟨fun w => (w.heap[b]? = some (.cells [(.int .u64 o)].toArray 231 (0, 0))), ?_⟩
 have a := zA a f
 refine mp 0 rfl (pt b 0) (.inr a) zg (mp 1 rfl (pt b 0) (.inr a) zg (mt 2 [2, 7, 8, 9] rfl (.int .u64 o) a (yR b 0 (.int .u64 o) zk zf (fun w2 h2 => zW h2 rfl)) (mp 3 rfl (pt b 0) (.inr a) zg (mp 4 rfl (pt b 0) (.inr a) zg (mt 5 [5, 6, 7, 8, 9] rfl (.int .u64 o) a (yR b 0 (.int .u64 o) zk zf (fun w2 h2 => zW h2 rfl)) (yD 6 zk ?_))))))
 refine yJ 6 rfl ?_ rfl
 refine L_shrU (yk := .u64) o 7 128 rfl zk zo zk zk ?_
 intro y aa
 refine zR ?_
 refine ⟨rfl, .inr a, yD 7 zk (yJ 7 rfl ?_ rfl)⟩
 refine L_xorU o y zk zk ?_
 intro c ad
 refine zR ?_
 refine ⟨rfl, .inr a, mp 8 rfl (pt b 0) (.inr a) zg (yD 9 zk (yJ 9 rfl ?_ rfl))⟩
 refine z1 0 (.int .u64 c) [(.int .u64 c)] a ?_
 intro af i
 replace d := Nat.le_trans d (Nat.le_of_eq i.size.symm)
 have a := i.here
 refine zR ?_
 refine ⟨rfl, .inl zk, yO zk (zB (zY (xB 9 10 zk zk zk ?_)))⟩
 intro ai g
 have n := n.trans (i.below s)
 have n := n.trans (g.mono d)
 replace d := Nat.le_trans d (g.size)
 refine ⟨fun w => (w.heap[b]? = some (.cells [(.int .u64 c)].toArray 231 (0, 0))), ?_⟩
 have a := zA a g
 refine mp 0 rfl (pt b 0) (.inr a) zg (mp 1 rfl (pt b 0) (.inr a) zg (mt 2 [2, 7, 8, 9] rfl (.int .u64 c) a (yR b 0 (.int .u64 c) zk zf (fun w2 h2 => zW h2 rfl)) (mp 3 rfl (pt b 0) (.inr a) zg (mp 4 rfl (pt b 0) (.inr a) zg (mt 5 [5, 6, 7, 8, 9] rfl (.int .u64 c) a (yR b 0 (.int .u64 c) zk zf (fun w2 h2 => zW h2 rfl)) (yD 6 zk ?_))))))
 refine yJ 6 rfl ?_ rfl
 refine L_shlU (yk := .u64) c 17 131072 rfl zk zk zk ?_
 intro u ac
 refine zR ?_
 refine ⟨rfl, .inr a, yD 7 zk (yJ 7 rfl ?_ rfl)⟩
 refine L_xorU c u zk zk ?_
 intro m ab
 refine zR ?_
 refine ⟨rfl, .inr a, mp 8 rfl (pt b 0) (.inr a) zg (yD 9 zk (yJ 9 rfl ?_ rfl))⟩
 refine z1 0 (.int .u64 m) [(.int .u64 m)] a ?_
 intro ah j
 replace d := Nat.le_trans d (Nat.le_of_eq j.size.symm)
 have a := j.here
 refine zR ?_
 refine ⟨rfl, .inl zk, yO zk (zB (wR (zD (zr (pt b 0) (zO 0 a rfl (zG (nQ (zS (yC [(.int .u64 m)] ?_)))))))))⟩
 replace t := (((((t.trans2 (Ch.of_below p) (fun _ h => h.elim)).trans2 (Ch.of_wrote q) (fun k e => e ▸ l)).trans2 (Ch.of_below f) (fun _ h => h.elim)).trans2 (Ch.of_wrote i) (fun k e => e ▸ l)).trans2 (Ch.of_below g) (fun _ h => h.elim)).trans2 (Ch.of_wrote j) (fun k e => e ▸ l)
 exact ⟨m, m, rfl, zo, zo, a, t⟩
theorem c_npow (n : Nat) (w : World) (h0 : 1 ≤ n) (h1 : n < 4611686018427387904) :
  Calls Tryz.prog 152 #[(N6 n)] w (Ret fun v w' => v = (.int .u64 (((2 ^ Lib.bitLen n) : Nat) : Int)) ∧ Below w.heap.size w w') := by
 refine wI 7 func152 rfl ?_
 have a := Below.refl w.heap.size w
 have c := bitLen_63 h0 h1
 have e := pow_bitLen n h0 h1
 refine wR (zG (nR (zD (vS (k := .i64) ((n : Nat) : Int) ((n : Nat) : Int) zk underlying144 zk (wrap_u64 _ zo zo) (zc (c_bitsLen ((n : Nat) : Int) _ zo zo) ?_)))))
 rintro _ d ⟨rfl, b⟩
 have a := a.tr b
 exact L_shl1 (yk := .i64) (Lib.bitLen ((n : Nat) : Int).toNat) (by (rw [Int.toNat_natCast]; omega)) zk zk (zG (nQ (zS (yC [(.int .u64 (((2 ^ (Lib.bitLen ((n : Nat) : Int).toNat)) : Nat) : Int))] ⟨congrArg (fun x : Nat => Value.int .u64 (x : Int)) (by first | (rw [Int.toNat_natCast]; done) | rfl), a⟩))))
theorem c_break (B_ : Nat) (o : Value) (s : List (Int)) (a : Nat) (b : Nat) (w : World) (hs0 : B_ ≤ w.heap.size) (c : Row w B_ 21 1 encI32 o s) (h1 : a ≤ b) (h2 : b ≤ s.length) (h3 : s.length ≤ 2305843009213693951) :
  Calls Tryz.prog 130 #[o, (N6 a), (N6 b)] w (Ret fun v w' => ∃ (ys : List (Int)), v = (.tuple #[]) ∧ Row w' B_ 21 1 encI32 o ys ∧ (Sw a b s ys) ∧ Ch (fun k => Value.ownBlock o = some k) w w') := by
 refine wI 65 func130 rfl ?_
 have r := Below.refl B_ w
 have p : B_ ≤ (World.heap w).size := hs0
 have hc := Ch.refl (fun k => Value.ownBlock o = some k) w
 have t : ∀ g, Value.ownBlock o = some g → (World.heap w).size ≤ g ∨ (fun k => Value.ownBlock o = some k) g := fun g h => .inr h
 refine wR (zD (zD (zsb b a (zG (nR (zD (nGe (b - a) 8 ?_ ?_)))))))
 ·intro h1
  refine nQ (zT (wR (zD (vS (k := .i64) (((b - a) : Nat) : Int) (((b - a) : Nat) : Int) zk underlying231 zk (wrap_u64 _ zo zo) (zN [(.int .u64 0)] 231 ?_)))))
  intro b2 w3 ai
  have a6 : B_ ≤ b2 := by rw [ai.num]; exact p
  have ak : (World.heap w).size ≤ b2 ∨ (fun k => Value.ownBlock o = some k) b2 := .inl (by rw [ai.num]; exact hc.size)
  replace r := r.trans (ai.below.mono p)
  replace p := Nat.le_trans p (ai.below.size)
  have j := ai.here
  refine z1 0 (.int .u64 (((b - a) : Nat) : Int)) [(.int .u64 (((b - a) : Nat) : Int))] j ?_
  intro w5 a2
  replace p := Nat.le_trans p (Nat.le_of_eq a2.size.symm)
  replace c := c.below ai.below
  replace c := c.wrote a2 (c.ne j zi)
  replace j := a2.here
  refine nR (zD (zc (c_npow (b - a) _ zo zo) ?_))
  replace hc := (hc.trans2 (Ch.of_below ai.below) (fun _ h => h.elim)).trans2 (Ch.of_wrote a2) (fun k e => e ▸ ak)
  rintro _ w7 ⟨rfl, a1⟩
  replace r := r.trans (a2.below a6)
  replace r := r.trans (a1.mono p)
  replace p := Nat.le_trans p (a1.size)
  refine zG (nR (zD (zD (L_quoN (b - a) 4 zo zo zk zk (L_mulN ((b - a) / 4) 2 zo zk zk (xL a (((b - a) / 4) * 2) (zsb (a + (((b - a) / 4) * 2)) 1 (zG (nQ (zX ?_))))))))))
  replace hc := hc.trans2 (Ch.of_below a1) (fun _ h => h.elim)
  replace j := zA j a1
  replace c := c.below a1
  refine yZ (fun m s0 w0 => ∃ (i : Nat) (zr : Int) (ys : List Int), (m = a + (b - a) / 4 * 2 + 2 - i) ∧ (s0.ds = []) ∧ ([0, 1, 6, 7, 8, 9].map s0.f = [o, (N6 a), (N6 (b - a)), (pt b2 0), (.int .u64 (((2 ^ Lib.bitLen (b - a)) : Nat) : Int)), (N6 i)]) ∧ (Row w0 B_ 21 1 encI32 o ys) ∧ (w0.heap[b2]? = some (.cells [(.int .u64 zr)].toArray 231 (0, 0))) ∧ (Below B_ w w0) ∧ (Ch (fun k => Value.ownBlock o = some k) w w0) ∧ (B_ ≤ w0.heap.size) ∧ (a + (b - a) / 4 * 2 - 1 ≤ i ∧ i ≤ a + (b - a) / 4 * 2 + 2) ∧ (ys.length = s.length) ∧ (Sw a b s ys) ∧ (0 ≤ zr ∧ zr ≤ 18446744073709551615)) _ ⟨((a + (((b - a) / 4) * 2)) - 1), (((b - a) : Nat) : Int), s, rfl, zk, zk, c, j, r, hc, p, zo, rfl, .refl, zo⟩ ?_
  rintro ci cn cv ⟨i, zr, ys, hm, be, bz, c, j, r, hc, p, i1, i3, i4, i6⟩
  refine yS bz ?_
  have hp := pow_bitLen (b - a) zo zo
  have cx := Nat.one_le_two_pow (n := Lib.bitLen (b - a))
  refine zY (wR (zD (zD (zD (L_quoN (b - a) 4 zo zo zk zk (L_mulN ((b - a) / 4) 2 zo zk zk (xL a (((b - a) / 4) * 2) (xL (a + (((b - a) / 4) * 2)) 1 (nLe i ((a + (((b - a) / 4) * 2)) + 1) ?_ ?_)))))))))
  ·intro cl
   refine nQ (zT (zK (zB (zY (zX (wR (zc (c_xnext 0 b2 zr _ (Nat.zero_le _) j (Nat.zero_le _) zo) ?_)))))))
   rintro _ ck ⟨bx, bn, rfl, b8, b3, br, z⟩
   replace r := z.below r p (fun k e => e ▸ a6)
   replace p := Nat.le_trans p z.size
   replace c := c.ch z (fun g e d => (c.ne j zi) (d ▸ e))
   replace j := br
   refine zD (xQ (((2 ^ Lib.bitLen (b - a)) : Nat) : Int) 1 ((((2 ^ Lib.bitLen (b - a)) - 1) : Nat) : Int) rfl zk zk (subU (2 ^ Lib.bitLen (b - a)) 1 zo zo) (L_andU bx ((2 ^ Lib.bitLen (b - a)) - 1) zo zk zk ?_))
   intro l ce
   refine vS (k := .u64) ((l : Nat) : Int) ((l : Nat) : Int) zk underlying3 zk (yW _ zo zo) (zG (nW (wR (zD (zD (nGe l (b - a) ?_ ?_))))))
   ·intro cw
    refine nQ (zT (zQ (zD (zD (zsb l (b - a) (zG (nQ (xB 17 20 zk zk zk ?_))))))))
    intro cu aa
    replace r := r.trans (aa.mono p)
    replace p := Nat.le_trans p (aa.size)
    refine ⟨fun w => (Rd w encI32 o ys), ?_⟩
    replace c := c.below aa
    refine mp 0 rfl o (.inr c.rd) zg (mp 1 rfl (N6 i) (.inr c.rd) zg (mp 2 rfl o (.inr c.rd) zg (mp 3 rfl (N6 a) (.inr c.rd) zg (mp 4 rfl (N6 (l - (b - a))) (.inr c.rd) zg (mp 5 rfl (N6 (a + (l - (b - a)))) (.inr c.rd) (fun w2 _ => wO a (l - (b - a)) zo zk zk w2) (mp 6 rfl o (.inr c.rd) zg (mp 7 rfl (N6 a) (.inr c.rd) zg (mp 8 rfl (N6 (l - (b - a))) (.inr c.rd) zg (mp 9 rfl (N6 (a + (l - (b - a)))) (.inr c.rd) (fun w2 _ => wO a (l - (b - a)) zo zk zk w2) ?_)))))))))
    have q := zV ys (a + (l - (b - a))) zo; obtain ⟨ac, a0⟩ := q
    have q := (c.rd).at (k := 1) zj a0; obtain ⟨bi, ao, a3, cf⟩ := q
    refine mp 10 rfl (pt bi (ao + (a + (l - (b - a))) * 1)) (.inr c.rd) (yF (k := .i64) o (a + (l - (b - a))) _ bi ao yX a3 zo zk zk) (mt 11 [11, 16, 17, 18, 19] rfl (I3 ac) c.rd (yR bi (ao + (a + (l - (b - a))) * 1) (I3 ac) zk zf (fun w2 h2 => Rd.later (k := 1) h2 zj a3 a0 0 _ rfl)) (mp 12 rfl o (.inr c.rd) zg (mp 13 rfl (N6 i) (.inr c.rd) zg ?_)))
    have q := zV ys i zo; obtain ⟨an, u⟩ := q
    have q := (c.rd).at (k := 1) zj u; obtain ⟨bh, ah, a5, b0⟩ := q
    refine mp 14 rfl (pt bh (ah + i * 1)) (.inr c.rd) (yF (k := .i64) o i _ bh ah yX a5 zo zk zk) (mt 15 [15, 16, 17, 18, 19] rfl (I3 an) c.rd (yR bh (ah + i * 1) (I3 an) zk zf (fun w2 h2 => Rd.later (k := 1) h2 zj a5 u 0 _ rfl)) ?_)
    have q := (c.rd).at (k := 1) zj u; obtain ⟨bf, af, a7, b9⟩ := q
    refine mp 16 rfl (pt bf (af + i * 1)) (.inr c.rd) (yF (k := .i64) o i _ bf af yX a7 zo zk zk) (yD 17 zk (yJ 17 rfl ?_ rfl))
    refine yL i 0 bf af an ac (I3 ac) c zj u a7 zk zk rfl zk zk rfl ?_
    intro co bt au
    replace r := r.tg p au c
    replace p := Nat.le_trans p (au.size)
    replace j := zA j aa
    replace j := yG j au (c.ne j zi)
    replace c := bt
    have b7 : (List.set ys i ac)[i]? = some ac := yU u
    refine zR ?_
    refine ⟨rfl, .inl zk, ?_⟩
    have q := zV (List.set ys i ac) (a + (l - (b - a))) (by (simp only [yT, List.length_set] at *; omega)); obtain ⟨bv, az⟩ := q
    have q := (c.rd).at (k := 1) zj az; obtain ⟨bd, ap, a9, b4⟩ := q
    refine mp 18 rfl (pt bd (ap + (a + (l - (b - a))) * 1)) (.inl zk) (yF (k := .i64) o (a + (l - (b - a))) _ bd ap yX a9 (by (simp only [yT, List.length_set] at *; omega)) zk zk) (yD 19 zk (yJ 19 rfl ?_ rfl))
    refine yL (a + (l - (b - a))) 0 bd ap bv an (I3 an) c zj az a9 zk zk rfl zk zk rfl ?_
    intro cm bm ar
    replace r := r.tg p ar c
    replace p := Nat.le_trans p (ar.size)
    replace j := yG j ar (c.ne j zi)
    replace c := bm
    have cc : (List.set (List.set ys i ac) (a + (l - (b - a))) an)[(a + (l - (b - a)))]? = some an := yU az
    have eS := xZ u a0
    replace c := c.cast eS; clear eS
    refine zR ?_
    refine ⟨rfl, .inl zk, yO zk (zI (zB (zQ (zD (xL i 1 (zG (zR ?_)))))))⟩
    replace hc := (((hc.trans2 z (fun k e => e ▸ ak)).trans2 (Ch.of_below aa) (fun _ h => h.elim)).trans2 (Ch.of_grown au) (fun k e => t k e)).trans2 (Ch.of_grown ar) (fun k e => t k e)
    refine zB ⟨_, zo, (i + 1), bn, (swp ys i (a + (l - (b - a)))), rfl, be, zk, c, j, r, hc, p, zo, ?_, ?_, zo⟩
    ·rw [yT]; exact i3
    exact .swap _ _ i4 zo zo zo
   intro cq
   refine nQ (zF (zK (zB (xB 17 20 zk zk zk ?_))))
   intro cr ab
   replace r := r.trans (ab.mono p)
   replace p := Nat.le_trans p (ab.size)
   refine ⟨fun w => (Rd w encI32 o ys), ?_⟩
   replace c := c.below ab
   refine mp 0 rfl o (.inr c.rd) zg (mp 1 rfl (N6 i) (.inr c.rd) zg (mp 2 rfl o (.inr c.rd) zg (mp 3 rfl (N6 a) (.inr c.rd) zg (mp 4 rfl (N6 l) (.inr c.rd) zg (mp 5 rfl (N6 (a + l)) (.inr c.rd) (fun w2 _ => wO a l zo zk zk w2) (mp 6 rfl o (.inr c.rd) zg (mp 7 rfl (N6 a) (.inr c.rd) zg (mp 8 rfl (N6 l) (.inr c.rd) zg (mp 9 rfl (N6 (a + l)) (.inr c.rd) (fun w2 _ => wO a l zo zk zk w2) ?_)))))))))
   have q := zV ys (a + l) zo; obtain ⟨ad, ay⟩ := q
   have q := (c.rd).at (k := 1) zj ay; obtain ⟨bk, al, a8, b5⟩ := q
   refine mp 10 rfl (pt bk (al + (a + l) * 1)) (.inr c.rd) (yF (k := .i64) o (a + l) _ bk al yX a8 zo zk zk) (mt 11 [11, 16, 17, 18, 19] rfl (I3 ad) c.rd (yR bk (al + (a + l) * 1) (I3 ad) zk zf (fun w2 h2 => Rd.later (k := 1) h2 zj a8 ay 0 _ rfl)) (mp 12 rfl o (.inr c.rd) zg (mp 13 rfl (N6 i) (.inr c.rd) zg ?_)))
   have q := zV ys i zo; obtain ⟨aq, y⟩ := q
   have q := (c.rd).at (k := 1) zj y; obtain ⟨bc, aj, a4, ca⟩ := q
   refine mp 14 rfl (pt bc (aj + i * 1)) (.inr c.rd) (yF (k := .i64) o i _ bc aj yX a4 zo zk zk) (mt 15 [15, 16, 17, 18, 19] rfl (I3 aq) c.rd (yR bc (aj + i * 1) (I3 aq) zk zf (fun w2 h2 => Rd.later (k := 1) h2 zj a4 y 0 _ rfl)) ?_)
   have q := (c.rd).at (k := 1) zj y; obtain ⟨bg, am, ba, cd⟩ := q
   refine mp 16 rfl (pt bg (am + i * 1)) (.inr c.rd) (yF (k := .i64) o i _ bg am yX ba zo zk zk) (yD 17 zk (yJ 17 rfl ?_ rfl))
   refine yL i 0 bg am aq ad (I3 ad) c zj y ba zk zk rfl zk zk rfl ?_
   intro cs bp av
   replace r := r.tg p av c
   replace p := Nat.le_trans p (av.size)
   replace j := zA j ab
   replace j := yG j av (c.ne j zi)
   replace c := bp
   have b6 : (List.set ys i ad)[i]? = some ad := yU y
   refine zR ?_
   refine ⟨rfl, .inl zk, ?_⟩
   have q := zV (List.set ys i ad) (a + l) (by (simp only [yT, List.length_set] at *; omega)); obtain ⟨bw, ax⟩ := q
   have q := (c.rd).at (k := 1) zj ax; obtain ⟨bj, ag, bb, b1⟩ := q
   refine mp 18 rfl (pt bj (ag + (a + l) * 1)) (.inl zk) (yF (k := .i64) o (a + l) _ bj ag yX bb (by (simp only [yT, List.length_set] at *; omega)) zk zk) (yD 19 zk (yJ 19 rfl ?_ rfl))
   refine yL (a + l) 0 bj ag bw aq (I3 aq) c zj ax bb zk zk rfl zk zk rfl ?_
   intro cp bq aw
   replace r := r.tg p aw c
   replace p := Nat.le_trans p (aw.size)
   replace j := yG j aw (c.ne j zi)
   replace c := bq
   have cg : (List.set (List.set ys i ad) (a + l) aq)[(a + l)]? = some aq := yU ax
   have eS := xZ y ay
   replace c := c.cast eS; clear eS
   refine zR ?_
   refine ⟨rfl, .inl zk, yO zk (zI (zB (zQ (zD (xL i 1 (zG (zR ?_)))))))⟩
   replace hc := (((hc.trans2 z (fun k e => e ▸ ak)).trans2 (Ch.of_below ab) (fun _ h => h.elim)).trans2 (Ch.of_grown av) (fun k e => t k e)).trans2 (Ch.of_grown aw) (fun k e => t k e)
   refine zB ⟨_, zo, (i + 1), bn, (swp ys i (a + l)), rfl, be, zk, c, j, r, hc, p, zo, ?_, ?_, zo⟩
   ·rw [yT]; exact i3
   exact .swap _ _ i4 zo zo zo
  intro ct
  refine nQ (zF (yH (zL (zL (yB (znrm [] (hd := be) ?_))))))
  exact ⟨ys, rfl, c, (by first | exact .refl | exact i4), hc⟩
 intro cj
 refine nQ (zF (zK (znrm [] ?_)))
 exact ⟨s, rfl, c, (by first | exact .refl | exact i4), hc⟩
end Go.Proofs.YtddnhlobnembaaaGreatDoor
end

/- === Wcsq === -/
section
/- Walks, written by my program walk.py out of the specification csq.py: each theorem says what one function returns and that it leaves memory as it was. -/
namespace Go.Proofs.YtddnhlobnembaaaGreatDoor
open Go Go.RowKit Go.FK _root_.Go.Proofs.Tryz
set_option maxHeartbeats 4000000
set_option maxRecDepth 100000
theorem c_pdq_r (m_ : Nat) : ∀ (B_ : Nat) (j : Value) (s : List (Int)) (a : Nat) (b : Nat) (z : Nat) (w : World) (hs0 : B_ ≤ w.heap.size) (c : Row w B_ 21 1 encI32 j s) (h1 : a ≤ b) (h2 : b ≤ s.length) (h3 : s.length ≤ 2305843009213693951) (hlow : Low s a b) (hzl : z ≤ 1000) (hm_ : b - a = m_),
  Calls Tryz.prog 113 #[j, (N6 a), (N6 b), (N6 z)] w (Ret fun v w' => ∃ (ys : List (Int)), v = (.tuple #[]) ∧ Row w' B_ 21 1 encI32 j ys ∧ (Sw a b s ys) ∧ (Srt ys a b) ∧ Ch (fun k => Value.ownBlock j = some k) w w') := by
 induction m_ using Nat.strongRecOn with
 | ind m_ ih =>
  intro B_ j s a b z w hs0 c h1 h2 h3 hlow hzl hm_
  refine wI 134 func113 rfl ?_
  have q := Below.refl B_ w
  have d : B_ ≤ (World.heap w).size := hs0
  have o := Ch.refl (fun k => Value.ownBlock j = some k) w
  have i : ∀ g, Value.ownBlock j = some g → (World.heap w).size ≤ g ∨ (fun k => Value.ownBlock j = some k) g := fun g h => .inr h
  refine wR (zG (nR (zG (nQ (zX (yZ (fun m s0 w0 => ∃ (p : Nat) (r : Nat) (z1 : Nat) (p8 : Bool) (p9 : Bool) (ys : List Int), (m = r - p) ∧ (s0.ds = []) ∧ ([0, 1, 2, 3, 8, 9].map s0.f = [j, (N6 p), (N6 r), (N6 z1), (.bool p8), (.bool p9)]) ∧ (Row w0 B_ 21 1 encI32 j ys) ∧ (Below B_ w w0) ∧ (Ch (fun k => Value.ownBlock j = some k) w w0) ∧ (B_ ≤ w0.heap.size) ∧ (a ≤ p ∧ p ≤ r ∧ r ≤ b ∧ z1 ≤ 1000) ∧ (ys.length = s.length) ∧ (Sw a b s ys) ∧ (Jd ys a b p r) ∧ (Low ys p r)) _ ⟨a, b, z, true, true, s, rfl, zk, zk, c, q, o, d, zo, rfl, .refl, (Jd.start _ _ _), hlow⟩ ?_))))))
  rintro m1 s2 w3 ⟨p, r, z1, p8, p9, ys, hm, y, ar, c, q, o, d, i1, i3, i4, i5, i6⟩
  refine yS ar (zX (wR (zD (zD (zsb r p (zG (nW (wR (zD (nLe (r - p) 12 ?_ ?_))))))))))
  ·intro h4
   refine nQ (zT (wR (zD (zD (zD (zc (c_insort B_ j ys p r _ d c zo zo zo) ?_))))))
   rintro _ w6 ⟨d8, rfl, eb, d7, c9, b8⟩
   replace o := o.trans2 b8 (fun k e => i k e)
   have q := b8.below q d (fun k e => (World.ownsRow.lt c k e).1)
   replace d := Nat.le_trans d b8.size
   have c := eb
   have l := d7; have an := l.len
   have hS := c9
   refine nQ (zS (zH (zP (zH (zP (yC [] (hd := y) ?_))))))
   exact ⟨d8, rfl, c, (by exact i4.trans (l.mono zo zo zo)), (by exact (i5.keep l zo zo zo).done hS), o⟩
  ·intro fn
   refine nQ (zF (zK (zB (zY (wR (zD (nEq z1 0 ?_ ?_)))))))
   ·intro fj
    refine nQ (zT (wR (zD (zD (zD (zc (c_heap B_ j ys p r _ d c zo zo zo) ?_))))))
    rintro _ ey ⟨c1, rfl, dq, c6, dc, bf⟩
    replace o := o.trans2 bf (fun k e => i k e)
    have q := bf.below q d (fun k e => (World.ownsRow.lt c k e).1)
    replace d := Nat.le_trans d bf.size
    have c := dq
    have l := c6; have an := l.len
    have hS := dc
    refine nQ (zS (zH (zP (zH (zP (yC [] (hd := y) ?_))))))
    exact ⟨c1, rfl, c, (by exact i4.trans (l.mono zo zo zo)), (by exact (i5.keep l zo zo zo).done hS), o⟩
   ·intro e0
    refine nQ (zF (zK (zB (W_cut (fun s0 w0 => ∃ (z2 : Nat) (yb : List Int), (s0.ds = []) ∧ ([0, 1, 2, 8, 9, 10, 3].map s0.f = [j, (N6 p), (N6 r), (.bool p8), (.bool p9), (N6 (r - p)), (N6 z2)]) ∧ (Row w0 B_ 21 1 encI32 j yb) ∧ (Below B_ w w0) ∧ (Ch (fun k => Value.ownBlock j = some k) w w0) ∧ (B_ ≤ w0.heap.size) ∧ (z2 ≤ 1000) ∧ (yb.length = s.length) ∧ (Sw p r ys yb)) ?_ ?_))))
    ·refine wR (zD (wW p8 (nQ ?_)))
     rcases Bool.eq_false_or_eq_true (!p8) with bj | bj
     ·skip
      refine W_ifT bj zk (wR (zD (zD (zD (zc (c_break B_ j ys p r _ d c zo zo zo) ?_)))))
      rintro _ e7 ⟨c3, rfl, c5, c8, bg⟩
      replace o := o.trans2 bg (fun k e => i k e)
      have q := bg.below q d (fun k e => (World.ownsRow.lt c k e).1)
      replace d := Nat.le_trans d bg.size
      have c := c5
      have l := c8; have an := l.len
      refine nQ (zQ (zD (zsb z1 1 (zG (zR (zB ⟨(z1 - 1), c3, y, zk, c, q, o, d, zo, ?_, ?_⟩))))))
      ·first | exact i3 | exact l.len.trans i3
      ·first | exact .refl | exact l
     ·skip
      refine W_ifF bj zk (zK (zB ⟨z1, ys, y, zk, c, q, o, d, zo, ?_, ?_⟩))
      ·first | exact i3 | exact l.len.trans i3
      ·first | exact .refl | exact l
    ·rintro fi e6 ⟨z2, yb, y, ar, c, q, o, d, j0, j3, j4⟩
     refine yS ar (wR (zD (zD (zD (zc (c_pivot B_ j yb p r _ d c zo zo zo) ?_)))))
     rintro _ fm ⟨ex, a4, cr, rfl, du, cy, el, a3⟩
     replace o := o.trans2 a3 (fun k e => i k e)
     have q := a3.below q d (fun k e => (World.ownsRow.lt c k e).1)
     replace d := Nat.le_trans d a3.size
     have c := du
     have c := c.cast cy
     refine zD (zr (N6 a4) (zr (I6 cr) (zG (zG (nQ (W_cut (fun s0 w0 => ∃ (pv : Nat) (hn : Int) (yc : List Int), (s0.ds = []) ∧ ([0, 1, 2, 3, 8, 9, 10, 11, 12].map s0.f = [j, (N6 p), (N6 r), (N6 z2), (.bool p8), (.bool p9), (N6 (r - p)), (N6 pv), (I6 hn)]) ∧ (Row w0 B_ 21 1 encI32 j yc) ∧ (Below B_ w w0) ∧ (Ch (fun k => Value.ownBlock j = some k) w w0) ∧ (B_ ≤ w0.heap.size) ∧ (p ≤ pv ∧ pv < r) ∧ (yc.length = s.length) ∧ (Sw p r ys yc)) ?_ ?_))))))
     ·refine wR (zD (qA .i64 cr 2 ?_ ?_))
      ·intro e8
       refine nQ (zT (wR (zD (zD (zD (zc (c_rev B_ j yb p r _ d c zo zo zo) ?_))))))
       rintro _ e5 ⟨dd, rfl, dw, dm, a9⟩
       replace o := o.trans2 a9 (fun k e => i k e)
       have q := a9.below q d (fun k e => (World.ownsRow.lt c k e).1)
       replace d := Nat.le_trans d a9.size
       have c := dw
       have l := dm; have an := l.len
       refine nR (zD (zsb r 1 (zD (zD (zsb a4 p (zsb (r - 1) (a4 - p) (zG (nQ (zQ (zG (zR (zB ⟨((r - 1) - (a4 - p)), 1, dd, y, zk, c, q, o, d, zo, ?_, ?_⟩))))))))))))
       ·first | exact j3 | exact l.len.trans j3
       ·first | exact j4 | exact j4.trans l
      ·intro fk
       refine nQ (zF (zK (zB ⟨a4, cr, yb, y, zk, c, q, o, d, zo, ?_, ?_⟩)))
       ·first | exact j3 | exact l.len.trans j3
       ·first | exact j4 | exact j4.trans l
     ·rintro fg e2 ⟨pv, hn, yc, y, ar, c, q, o, d, k1, k3, k4⟩
      refine yS ar (W_cut (fun s0 w0 => ∃ (yd : List Int), (s0.ds = []) ∧ ([0, 1, 2, 3, 8, 9, 10, 11].map s0.f = [j, (N6 p), (N6 r), (N6 z2), (.bool p8), (.bool p9), (N6 (r - p)), (N6 pv)]) ∧ (Row w0 B_ 21 1 encI32 j yd) ∧ (Below B_ w w0) ∧ (Ch (fun k => Value.ownBlock j = some k) w w0) ∧ (B_ ≤ w0.heap.size) ∧ (yd.length = s.length) ∧ (Sw p r ys yd)) ?_ ?_)
      ·refine wR (zD (zD ?_))
       cases p8
       ·skip
        refine zs (xF (zD (zs (zs (xF (nQ (zF (zK (zB ⟨yc, y, zk, c, q, o, d, ?_, ?_⟩)))))))))
        ·first | exact k3 | exact l.len.trans k3
        ·first | exact k4 | exact k4.trans l
       ·skip
        refine zw (zD (xG (zD ?_)))
        cases p9
        ·skip
         refine zs (zs (xF (nQ (zF (zK (zB ⟨yc, y, zk, c, q, o, d, ?_, ?_⟩))))))
         ·first | exact k3 | exact l.len.trans k3
         ·first | exact k4 | exact k4.trans l
        ·skip
         refine zw (zD (zw (qA .i64 hn 1 ?_ ?_)))
         ·intro e3
          refine xG (nQ (zT (wR (zD (zD (zD (zc (c_partins B_ j yc p r _ d c zo zo zo (by exact i6.keep k4)) ?_)))))))
          rintro _ fc ⟨bp, d6, rfl, c2, dr, cv, az⟩
          replace o := o.trans2 az (fun k e => i k e)
          have q := az.below q d (fun k e => (World.ownsRow.lt c k e).1)
          replace d := Nat.le_trans d az.size
          have c := c2
          have l := dr; have an := l.len
          have hS := cv
          refine nQ ?_
          rcases Bool.eq_false_or_eq_true d6 with a5 | a5
          ·skip
           refine W_ifT a5 zk (zS (zH (zP (zH (zP (yC [] (hd := y) ?_))))))
           exact ⟨bp, rfl, c, (by exact i4.trans ((k4.trans l).mono zo zo zo)), (by exact (i5.keep (k4.trans l) zo zo zo).done (hS za)), o⟩
          ·skip
           refine W_ifF a5 zk (zK (zB ⟨bp, y, zk, c, q, o, d, ?_, ?_⟩))
           ·first | exact k3 | exact l.len.trans k3
           ·first | exact k4 | exact k4.trans l
         ·intro ff
          refine xG (nQ (zF (zK (zB ⟨yc, y, zk, c, q, o, d, ?_, ?_⟩))))
          ·first | exact k3 | exact l.len.trans k3
          ·first | exact k4 | exact k4.trans l
      ·rintro e4 fd ⟨yd, y, ar, c, q, o, d, l3, l4⟩
       refine yS ar (zY (zY (xA zk zk (yE (xO .i64 ((p : Nat) : Int) ((0 : Nat) : Int) (0 < p) rfl (cmpN_gt p 0) zk zk ?_ ?_)))))
       ·intro d1
        replace d1 : 0 < p := by omega
        refine yE (qw (yE (qw (yE (qw (Lq_subN p 1 zo zo zk zk (qw ?_)))))))
        have hz := zV yd (p - 1) zo; obtain ⟨a6, a0⟩ := hz
        have hz := (c.rd).at (k := 1) zj a0
        obtain ⟨dg, be, c0, c4⟩ := hz
        refine yM (k := .i64) j (p - 1) _ dg be yX c0 zo zk zk (qw (zZ dg (be + (p - 1) * 1) (I3 a6) zk zf (c4 0 _ rfl) (qw (yE (qw (yE (qw ?_)))))))
        have hz := zV yd pv zo; obtain ⟨bb, bc⟩ := hz
        have hz := (c.rd).at (k := 1) zj bc
        obtain ⟨de, bi, c7, cw⟩ := hz
        refine yM (k := .i64) j pv _ de bi yX c7 zo zk zk (qw (zZ de (bi + pv * 1) (I3 bb) zk zf (cw 0 _ rfl) (qw (xX 134 [(I3 a6), (I3 bb)] (.bool (decide (a6 < bb))) zg (fun wq hbq => vH a6 bb wq ) (xI (decide (a6 < bb)) ?_ ?_)))))
        ·intro d9
         have d4 := el_lt a0 bc d9
         refine qw (wZ true zk (qT (yN ?_)))
         intro fe av
         have q := q.trans (av.mono d)
         replace o := o.trans2 (Ch.of_below av) (fun _ h => h.elim)
         replace d := Nat.le_trans d (av.size)
         have c := c.below av
         refine zB (zF (zK (zB (wR (zD (zD (zD (zD (zc (c_part B_ j yd p r pv _ d c zo zo zo zo) ?_)))))))))
         rintro _ fa ⟨aw, aa, bh, rfl, dh, da, es, cz, a8⟩
         replace o := o.trans2 a8 (fun k e => i k e)
         have q := a8.below q d (fun k e => (World.ownsRow.lt c k e).1)
         replace d := Nat.le_trans d a8.size
         have c := dh
         have l := da; have an := l.len
         have u := cz
         refine zD (zr (N6 aa) (zr (.bool bh) (zG (zG (nR (zD (zG (nR (zD (zD (zsb aa p (zD (zD (zsb r aa (zG (zG (nR (zD (L_quoN (r - p) 8 zo zo zk zk (zG (nR (zD (zD (nLt (aa - p) (r - aa) ?_ ?_))))))))))))))))))))))))
         ·intro e1
          refine nQ (zT (wR (zD (zD (nGe (aa - p) ((r - p) / 8) ?_ ?_)))))
          ·intro fo
           refine zG (nR (zD (zD (zD (zD (zc ((ih (aa - p) zo) B_ j aw p aa z2 _ d c zo zo zo (by exact (Low.keep (i6.keep l4) l).part zo) zo (by rfl)) ?_))))))
           rintro _ ez ⟨cx, rfl, dv, df, dl, ba⟩
           replace o := o.trans2 ba (fun k e => i k e)
           have q := ba.below q d (fun k e => (World.ownsRow.lt c k e).1)
           replace d := Nat.le_trans d ba.size
           have c := dv
           have t := df; have hS := dl; have ap := t.len
           refine nQ (zQ (zD (xL aa 1 (zG (zR (zI (zB ⟨_, zo, (aa + 1), r, z2, true, bh, cx, rfl, y, zk, c, q, o, d, zo, ?_, ?_, ?_, ?_⟩)))))))
           ·exact t.len.trans (l.len.trans l3)
           ·exact i4.trans ((l4.trans (l.trans (t.mono zo zo zo))).mono zo zo zo)
           ·exact Jd.right (i5.keep (l4.trans (l.trans (t.mono zo zo zo))) zo zo zo) (u.keepL t zo zo) zo zo hS
           ·exact (u.keepL t zo zo).low (Nat.le_refl _)
          ·intro fb
           refine zG (nR (zD (zD (zD (zD (zc ((ih (aa - p) zo) B_ j aw p aa z2 _ d c zo zo zo (by exact (Low.keep (i6.keep l4) l).part zo) zo (by rfl)) ?_))))))
           rintro _ e9 ⟨dp, rfl, db, dt, dk, a7⟩
           replace o := o.trans2 a7 (fun k e => i k e)
           have q := a7.below q d (fun k e => (World.ownsRow.lt c k e).1)
           replace d := Nat.le_trans d a7.size
           have c := db
           have t := dt; have hS := dk; have ap := t.len
           refine nQ (zQ (zD (xL aa 1 (zG (zR (zI (zB ⟨_, zo, (aa + 1), r, z2, false, bh, dp, rfl, y, zk, c, q, o, d, zo, ?_, ?_, ?_, ?_⟩)))))))
           ·exact t.len.trans (l.len.trans l3)
           ·exact i4.trans ((l4.trans (l.trans (t.mono zo zo zo))).mono zo zo zo)
           ·exact Jd.right (i5.keep (l4.trans (l.trans (t.mono zo zo zo))) zo zo zo) (u.keepL t zo zo) zo zo hS
           ·exact (u.keepL t zo zo).low (Nat.le_refl _)
         ·intro fl
          refine nQ (zF (wR (zD (zD (nGe (r - aa) ((r - p) / 8) ?_ ?_)))))
          ·intro fh
           refine zG (nR (zD (zD (xL aa 1 (zD (zD (zc ((ih (r - (aa + 1)) zo) B_ j aw (aa + 1) r z2 _ d c zo zo zo (by exact Mid.low u zo) zo (by rfl)) ?_)))))))
           rintro _ ee ⟨cn, rfl, bt, br, cb, al⟩
           replace o := o.trans2 al (fun k e => i k e)
           have q := al.below q d (fun k e => (World.ownsRow.lt c k e).1)
           replace d := Nat.le_trans d al.size
           have c := bt
           have t := br; have hS := cb; have ap := t.len
           refine nQ (zQ (zD (zG (zR (zI (zB ⟨_, zo, p, aa, z2, true, bh, cn, rfl, y, zk, c, q, o, d, zo, ?_, ?_, ?_, ?_⟩))))))
           ·exact t.len.trans (l.len.trans l3)
           ·exact i4.trans ((l4.trans (l.trans (t.mono zo zo zo))).mono zo zo zo)
           ·exact Jd.left (i5.keep (l4.trans (l.trans (t.mono zo zo zo))) zo zo zo) (u.keepR t zo) zo zo hS
           ·exact (i6.keep (l4.trans (l.trans (t.mono zo zo zo)))).part zo
          ·intro eh
           refine zG (nR (zD (zD (xL aa 1 (zD (zD (zc ((ih (r - (aa + 1)) zo) B_ j aw (aa + 1) r z2 _ d c zo zo zo (by exact Mid.low u zo) zo (by rfl)) ?_)))))))
           rintro _ em ⟨bx, rfl, ck, ci, b9, ao⟩
           replace o := o.trans2 ao (fun k e => i k e)
           have q := ao.below q d (fun k e => (World.ownsRow.lt c k e).1)
           replace d := Nat.le_trans d ao.size
           have c := ck
           have t := ci; have hS := b9; have ap := t.len
           refine nQ (zQ (zD (zG (zR (zI (zB ⟨_, zo, p, aa, z2, false, bh, bx, rfl, y, zk, c, q, o, d, zo, ?_, ?_, ?_, ?_⟩))))))
           ·exact t.len.trans (l.len.trans l3)
           ·exact i4.trans ((l4.trans (l.trans (t.mono zo zo zo))).mono zo zo zo)
           ·exact Jd.left (i5.keep (l4.trans (l.trans (t.mono zo zo zo))) zo zo zo) (u.keepR t zo) zo zo hS
           ·exact (i6.keep (l4.trans (l.trans (t.mono zo zo zo)))).part zo
        ·intro dn
         have dy := el_le a0 bc dn
         refine qw (wZ false zk (qT (yN ?_)))
         intro ep af
         have q := q.trans (af.mono d)
         replace o := o.trans2 (Ch.of_below af) (fun _ h => h.elim)
         replace d := Nat.le_trans d (af.size)
         have c := c.below af
         refine zB (zT (wR (zD (zD (zD (zD (zc (c_parteq B_ j yd p r pv _ d c zo zo zo zo) ?_)))))))
         rintro _ ef ⟨cs, di, rfl, b4, cj, d5, co, bw, ak⟩
         replace o := o.trans2 ak (fun k e => i k e)
         have q := ak.below q d (fun k e => (World.ownsRow.lt c k e).1)
         replace d := Nat.le_trans d ak.size
         have c := b4
         have l := cj; have an := l.len
         have hE := co; have d2 := bw
         refine zG (nR (zD (zG (nQ (yH (zL (yB (zB ⟨_, zo, di, r, z2, p8, p9, cs, rfl, y, zk, c, q, o, d, zo, ?_, ?_, ?_, ?_⟩))))))))
         ·exact l.len.trans l3
         ·exact i4.trans ((l4.trans l).mono zo zo zo)
         ·exact Jd.eqs (i5.keep (l4.trans l) zo zo zo) hE zo zo (least_of (i6.keep l4) zo l za d2)
         ·exact hE.low zo
       ·intro dj
        replace dj : p ≤ 0 := by omega
        refine yE (qs (qs (qs (qs (qs (qs (qs (qs (qs (qs (qs (qF (yN ?_)))))))))))))
        intro ew ae
        have q := q.trans (ae.mono d)
        replace o := o.trans2 (Ch.of_below ae) (fun _ h => h.elim)
        replace d := Nat.le_trans d (ae.size)
        have c := c.below ae
        refine zB (zF (zK (zB (wR (zD (zD (zD (zD (zc (c_part B_ j yd p r pv _ d c zo zo zo zo) ?_)))))))))
        rintro _ et ⟨ag, n, ah, rfl, bv, b3, d3, cm, ai⟩
        replace o := o.trans2 ai (fun k e => i k e)
        have q := ai.below q d (fun k e => (World.ownsRow.lt c k e).1)
        replace d := Nat.le_trans d ai.size
        have c := bv
        have l := b3; have an := l.len
        have u := cm
        refine zD (zr (N6 n) (zr (.bool ah) (zG (zG (nR (zD (zG (nR (zD (zD (zsb n p (zD (zD (zsb r n (zG (zG (nR (zD (L_quoN (r - p) 8 zo zo zk zk (zG (nR (zD (zD (nLt (n - p) (r - n) ?_ ?_))))))))))))))))))))))))
        ·intro eg
         refine nQ (zT (wR (zD (zD (nGe (n - p) ((r - p) / 8) ?_ ?_)))))
         ·intro eo
          refine zG (nR (zD (zD (zD (zD (zc ((ih (n - p) zo) B_ j ag p n z2 _ d c zo zo zo (by exact (Low.keep (i6.keep l4) l).part zo) zo (by rfl)) ?_))))))
          rintro _ ec ⟨ct, rfl, cc, cd, cp, aj⟩
          replace o := o.trans2 aj (fun k e => i k e)
          have q := aj.below q d (fun k e => (World.ownsRow.lt c k e).1)
          replace d := Nat.le_trans d aj.size
          have c := cc
          have t := cd; have hS := cp; have ap := t.len
          refine nQ (zQ (zD (xL n 1 (zG (zR (zI (zB ⟨_, zo, (n + 1), r, z2, true, ah, ct, rfl, y, zk, c, q, o, d, zo, ?_, ?_, ?_, ?_⟩)))))))
          ·exact t.len.trans (l.len.trans l3)
          ·exact i4.trans ((l4.trans (l.trans (t.mono zo zo zo))).mono zo zo zo)
          ·exact Jd.right (i5.keep (l4.trans (l.trans (t.mono zo zo zo))) zo zo zo) (u.keepL t zo zo) zo zo hS
          ·exact (u.keepL t zo zo).low (Nat.le_refl _)
         ·intro eu
          refine zG (nR (zD (zD (zD (zD (zc ((ih (n - p) zo) B_ j ag p n z2 _ d c zo zo zo (by exact (Low.keep (i6.keep l4) l).part zo) zo (by rfl)) ?_))))))
          rintro _ ei ⟨ce, rfl, b6, cu, cq, aq⟩
          replace o := o.trans2 aq (fun k e => i k e)
          have q := aq.below q d (fun k e => (World.ownsRow.lt c k e).1)
          replace d := Nat.le_trans d aq.size
          have c := b6
          have t := cu; have hS := cq; have ap := t.len
          refine nQ (zQ (zD (xL n 1 (zG (zR (zI (zB ⟨_, zo, (n + 1), r, z2, false, ah, ce, rfl, y, zk, c, q, o, d, zo, ?_, ?_, ?_, ?_⟩)))))))
          ·exact t.len.trans (l.len.trans l3)
          ·exact i4.trans ((l4.trans (l.trans (t.mono zo zo zo))).mono zo zo zo)
          ·exact Jd.right (i5.keep (l4.trans (l.trans (t.mono zo zo zo))) zo zo zo) (u.keepL t zo zo) zo zo hS
          ·exact (u.keepL t zo zo).low (Nat.le_refl _)
        ·intro ev
         refine nQ (zF (wR (zD (zD (nGe (r - n) ((r - p) / 8) ?_ ?_)))))
         ·intro en
          refine zG (nR (zD (zD (xL n 1 (zD (zD (zc ((ih (r - (n + 1)) zo) B_ j ag (n + 1) r z2 _ d c zo zo zo (by exact Mid.low u zo) zo (by rfl)) ?_)))))))
          rintro _ er ⟨cl, rfl, bu, ch, bz, am⟩
          replace o := o.trans2 am (fun k e => i k e)
          have q := am.below q d (fun k e => (World.ownsRow.lt c k e).1)
          replace d := Nat.le_trans d am.size
          have c := bu
          have t := ch; have hS := bz; have ap := t.len
          refine nQ (zQ (zD (zG (zR (zI (zB ⟨_, zo, p, n, z2, true, ah, cl, rfl, y, zk, c, q, o, d, zo, ?_, ?_, ?_, ?_⟩))))))
          ·exact t.len.trans (l.len.trans l3)
          ·exact i4.trans ((l4.trans (l.trans (t.mono zo zo zo))).mono zo zo zo)
          ·exact Jd.left (i5.keep (l4.trans (l.trans (t.mono zo zo zo))) zo zo zo) (u.keepR t zo) zo zo hS
          ·exact (i6.keep (l4.trans (l.trans (t.mono zo zo zo)))).part zo
         ·intro ek
          refine zG (nR (zD (zD (xL n 1 (zD (zD (zc ((ih (r - (n + 1)) zo) B_ j ag (n + 1) r z2 _ d c zo zo zo (by exact Mid.low u zo) zo (by rfl)) ?_)))))))
          rintro _ ej ⟨b5, rfl, cf, b7, b2, au⟩
          replace o := o.trans2 au (fun k e => i k e)
          have q := au.below q d (fun k e => (World.ownsRow.lt c k e).1)
          replace d := Nat.le_trans d au.size
          have c := cf
          have t := b7; have hS := b2; have ap := t.len
          refine nQ (zQ (zD (zG (zR (zI (zB ⟨_, zo, p, n, z2, false, ah, b5, rfl, y, zk, c, q, o, d, zo, ?_, ?_, ?_, ?_⟩))))))
          ·exact t.len.trans (l.len.trans l3)
          ·exact i4.trans ((l4.trans (l.trans (t.mono zo zo zo))).mono zo zo zo)
          ·exact Jd.left (i5.keep (l4.trans (l.trans (t.mono zo zo zo))) zo zo zo) (u.keepR t zo) zo zo hS
          ·exact (i6.keep (l4.trans (l.trans (t.mono zo zo zo)))).part zo
theorem c_pdq (B_ : Nat) (c : Value) (s : List (Int)) (a : Nat) (b : Nat) (z : Nat) (w : World) (hs0 : B_ ≤ w.heap.size) (d : Row w B_ 21 1 encI32 c s) (h1 : a ≤ b) (h2 : b ≤ s.length) (h3 : s.length ≤ 2305843009213693951) (hlow : Low s a b) (hzl : z ≤ 1000) :
  Calls Tryz.prog 113 #[c, (N6 a), (N6 b), (N6 z)] w (Ret fun v w' => ∃ (ys : List (Int)), v = (.tuple #[]) ∧ Row w' B_ 21 1 encI32 c ys ∧ (Sw a b s ys) ∧ (Srt ys a b) ∧ Ch (fun k => Value.ownBlock c = some k) w w') :=
 c_pdq_r _ B_ c s a b z w hs0 d h1 h2 h3 hlow hzl rfl
end Go.Proofs.YtddnhlobnembaaaGreatDoor
end

/- === FKak === -/
section
/- FKak: a strings.Builder as a struct with a row of bytes of its own: it may be written in rounds of ranges too. My own text. -/
namespace Go.FK
open Go Go.RowKit
def encByt (c : UInt8) : List Value := [.int .u8 ((c.toNat : Nat) : Int)]
theorem byt_cells (l : List UInt8) : l.flatMap encByt = Lib.strCells ⟨l.toArray⟩ := by
 show l.flatMap encByt = l.map fun b => Value.int .u8 b.toNat
 induction l with
 | nil => rfl
 | cons c l ih => rw [List.flatMap_cons, ih]; rfl
theorem byt_byte (l : List UInt8) : l.flatMap encByt = Lib.byteCells l := by
 induction l with
 | nil => rfl
 | cons c l ih => rw [List.flatMap_cons, ih]; rfl
section ops
variable {r : Option Nat} {P : Program} {n : Nat} {Q : Post} {s : Fm} {w : World} {ops : Array Oper} {rest : List Oper}
variable {d : Option Tmp} {ty : TypeId} {pos : String} {af : Array Edge} {T U E B : Nat} {l : List UInt8} {v : Value}
theorem L_appStrR {A X : Operand} (x : List UInt8) (ht : P.underlying T = some (.slice E)) (hu : P.underlying U = some .string) (hi : (P.info? E).map (fun i => (i.zero, i.size, i.bytes)) = some (some (.int .u8 0), 1, 1))
  (hrow : Row w B E 1 encByt v l) (hl : l.length ≤ 1073741824) (hx : x.length ≤ 1073741824) (hB : B ≤ w.heap.size) (hA : s.ev n A = v) (hX : s.ev n X = S x)
  (h : ∀ v' w', Row w' B E 1 encByt v' (l ++ x) → w.grownBy w' v.ownBlock → (v'.ownBlock = v.ownBlock ∨ v'.ownBlock = some w.heap.size) → L r P n ops Q rest (s.put d v') w') :
  L r P n ops Q (⟨d, .call ⟨.builtin .append, #[A, X], #[T, U]⟩, ty, pos, af, none⟩ :: rest) s w := by
 obtain ⟨i, hq, hz, a, b⟩ := info_u8 hi
 have hsz : (⟨x.toArray⟩ : ByteArray).size = x.length := by show x.toArray.size = _; simp
 have hown : w.ownsRow B E 1 v l.length (l.flatMap encByt) := hrow
 obtain ⟨v', w', hrun, hown', hg, hnil⟩ := Lib.run_append_own_string (P := P) w B T U ty E i ht hu hq hz a b v l.length (l.flatMap encByt) hown ⟨x.toArray⟩ (by rw [hsz]; unfold maxLen; omega) (by rw [hsz]; omega) hB
 have how : v'.ownBlock = v.ownBlock ∨ v'.ownBlock = some w.heap.size := by
  rcases hown.2 with ⟨rfl, _⟩ | ⟨g, cap, cur, rfl, _, hh, hnc, _, hcs, _⟩
  ·by_cases c : (⟨x.toArray⟩ : ByteArray).size = 0
   ·rw [hnil.2 ⟨rfl, c⟩]; exact .inl rfl
   ·have hr := run_append_nil_string (P := P) w T U ty E i (.int .u8 0) ht hu hq hz ⟨x.toArray⟩ (by omega) (by rw [hsz]; omega) (by rw [hsz, b]; omega)
    rw [hr] at hrun; injection hrun with e1 _; rw [← e1]; exact .inr rfl
  ·by_cases hroom : l.length + (⟨x.toArray⟩ : ByteArray).size ≤ cap
   ·have hr := Lib.run_append_room_string (P := P) w T U ty E i ht hu hq a g l.length cap cur hh ⟨x.toArray⟩ hroom (by omega)
    rw [hr] at hrun; injection hrun with e1 _; rw [← e1]; exact .inl rfl
   ·have hr := Lib.run_append_grow_string (P := P) w T U ty E i (.int .u8 0) ht hu hq hz ⟨g, 0, none⟩ l.length cap (l.flatMap encByt) (by rw [a]; exact hown.1) (hown.cells (g := g) rfl) ⟨x.toArray⟩ (by omega) (by rw [hsz]; omega) (by rw [b]; exact growslice_fits (by omega) (by omega))
    rw [hr] at hrun; injection hrun with e1 _; rw [← e1]; exact .inr rfl
 refine wJ v' w' (by simp) ?_ (h v' w' ?_ hg how)
 ·have hX' : s.ev n X = .string ⟨x.toArray⟩ := hX
  simp only [execOp, resolve, invoke, builtin, Sem.run_bind, Sem.run_pure, Result.andThen_ok, List.map_toArray, List.map_cons, List.map_nil, hA, hX', hrun]
 ·rw [hsz] at hown'
  show w'.ownsRow B E 1 v' (l ++ x).length ((l ++ x).flatMap encByt)
  rw [List.length_append, List.flatMap_append, byt_cells x]
  exact hown'
end ops
section
variable {T E B b : Nat} {l : List UInt8} {w w1 : World} {p v : Value}
theorem copy2 (hcc : (w1 = w ∧ p = .pointer (some ⟨b, 0, none⟩)) ∨ Wrote w w1 b (.cells [.pointer (some ⟨b, 0, none⟩), v].toArray T (0, 0)))
  (ho : w.heap[b]? = some (.cells [p, v].toArray T (0, 0))) : w1.heap[b]? = some (.cells [.pointer (some ⟨b, 0, none⟩), v].toArray T (0, 0)) ∧ Ch (fun k => k = b) w w1 := by
 rcases hcc with ⟨rfl, rfl⟩ | hW
 ·exact ⟨ho, Ch.refl _ _⟩
 ·exact ⟨hW.here, Ch.of_wrote hW⟩
theorem Bld.ofRow (hp : p = .pointer none ∨ p = .pointer (some ⟨b, 0, none⟩)) (ho : w.heap[b]? = some (.cells [p, v].toArray T (0, 0))) (hr : Row w B E 1 encByt v l) (hB : B ≤ b) (hne : v.ownBlock ≠ some b) : Bld T E B b l w := by
 have hown : w.ownsRowF B E 1 v (Lib.byteCells l).length (Lib.byteCells l) := by
  have h : w.ownsRow B E 1 v l.length (l.flatMap encByt) := hr
  rw [byt_byte] at h
  rw [byteCells_len]
  exact World.ownsRowF_of h
 rcases hp with rfl | rfl
 ·exact .inl ⟨hB, v, ho, hown, hne⟩
 ·exact .inr ⟨hB, v, ho, hown, hne⟩
end
end Go.FK
end

/- === Wmbl8 === -/
section
/- Walks, written by my program walk.py out of the specification mbl8.py: each theorem says what one function returns and that it leaves memory as it was. -/
namespace Go.Proofs.YtddnhlobnembaaaGreatDoor
open Go Go.RowKit Go.FK _root_.Go.Proofs.Tryz
set_option maxHeartbeats 4000000
set_option maxRecDepth 100000
theorem bl_copy0 (b : Nat) (v : Value) (w : World) (ho : w.heap[b]? = some (.cells [(.pointer none), v].toArray 99 (0, 0))) :
  Calls Tryz.prog 78 #[(pt b 0)] w (Ret fun v1 d => v1 = (.tuple #[]) ∧ Wrote w d b (.cells [(pt b 0), v].toArray 99 (0, 0))) := by
 refine wI 20 func78 rfl ?_
 have e := Below.refl w.heap.size w
 have c : w.heap.size ≤ w.heap.size := Nat.le_refl _
 refine wR (zD (zr (pt b 0) (uF 0 ho rfl (zr (.bool true) (nQ (zT (zQ (zD (zD (L_toUns (k := 2) b underlying96 underlying153 zk zk ho zk zk (zr (pt b 0) (L_fromUns (k := 2) b underlying153 underlying96 zk ho zk zk (zr (pt b 0) (zr (pt b 0) (z1 0 (pt b 0) [(pt b 0), v] ho ?_)))))))))))))))
 intro d a
 replace c := Nat.le_trans c (Nat.le_of_eq a.size.symm)
 replace ho := a.here
 refine zR (znrm [] ?_)
 exact ⟨rfl, a⟩
theorem bl_copy1 (b : Nat) (v : Value) (w : World) (ho : w.heap[b]? = some (.cells [(pt b 0), v].toArray 99 (0, 0))) :
  Calls Tryz.prog 78 #[(pt b 0)] w (Ret fun v1 w1 => v1 = (.tuple #[]) ∧ w1 = w) := by
 refine wI 20 func78 rfl ?_
 have a := Below.refl w.heap.size w
 refine wR (zD (zr (pt b 0) (uF 0 ho rfl (zr (.bool false) (nQ (zF (wR (zD (zr (pt b 0) (uF 0 ho rfl (zD (L_pneF (k := 2) b underlying96 zk zk zk zk (nQ (zF (zK (znrm [] ?_))))))))))))))))
 exact ⟨rfl, rfl⟩
theorem bl_copy (b : Nat) (p v : Value) (w : World) (hp : p = .pointer none ∨ p = (pt b 0)) (ho : w.heap[b]? = some (.cells [p, v].toArray 99 (0, 0))) :
  Calls Tryz.prog 78 #[(pt b 0)] w (Ret fun v1 a => v1 = (.tuple #[]) ∧ ((a = w ∧ p = (pt b 0)) ∨ Wrote w a b (.cells [(pt b 0), v].toArray 99 (0, 0)))) := by
 rcases hp with rfl | rfl
 ·refine (bl_copy0 b v w ho).mono ?_
  rintro e a ⟨u, rfl, rfl, h⟩
  exact ⟨_, rfl, rfl, .inr h⟩
 refine (bl_copy1 b v w ho).mono ?_
 rintro e a ⟨u, rfl, rfl, h⟩
 exact ⟨_, rfl, rfl, .inl ⟨h, rfl⟩⟩
theorem bd_WriteString (a : Nat) (p : Value) (f : Value) (l : List (UInt8)) (x : List UInt8) (B_ : Nat) (w : World) (hs0 : B_ ≤ w.heap.size) (c : w.heap[a]? = some (.cells [p, f].toArray 99 (0, 0))) (z : B_ ≤ a) (b : Row w B_ 5 1 encByt f l) (hp : p = .pointer none ∨ p = .pointer (some ⟨a, 0, none⟩)) (hl : l.length ≤ 1073741824) (hx : x.length ≤ 1073741824) :
  Calls Tryz.prog 44 #[(pt a 0), (S x)] w (Ret fun v w' => ∃ q0 : Value, v = (.tuple #[(N6 x.length), .nilIface]) ∧ w'.heap[a]? = some (.cells [(pt a 0), q0].toArray 99 (0, 0)) ∧ Row w' B_ 5 1 encByt q0 (l ++ x) ∧ (∀ g, Value.ownBlock q0 = some g → w.heap.size ≤ g ∨ (Dm a f) g) ∧ Ch (Dm a f) w w') := by
 refine wI 19 func44 rfl ?_
 have t := Below.refl B_ w
 have i : B_ ≤ (World.heap w).size := hs0
 have o := Ch.refl (Dm a f) w
 have q : (World.heap w).size ≤ a ∨ (Dm a f) a := .inr (.inl rfl)
 have d : ∀ g, Value.ownBlock f = some g → (World.heap w).size ≤ g ∨ (Dm a f) g := fun g h => .inr (.inr h)
 refine wR (zG (zG (nR (zD (zc (bl_copy a p f _ hp c) ?_)))))
 rintro _ w1 ⟨rfl, aa⟩
 have hz := copy2 aa c; obtain ⟨y, m⟩ := hz
 have t := m.below t i (fun k e => e ▸ z)
 have b := b.ch m (fun g hg e => (b.ne c zi) (by rw [hg, e]))
 replace i := Nat.le_trans i m.size
 have c := y
 refine nR (zD (zD (zr (pt a 0) (uF 1 c rfl (zD (L_appStrR (l := l) x underlying97 underlying9 zk b zo zo i zk zk ?_))))))
 intro v2 w3 u j r 
 replace o := o.trans2 m (fun k e => e ▸ q)
 have s := dr_app (D := (Dm a f)) r (by have h0 := o.size; omega : (World.heap w).size ≤ (World.heap w1).size) d
 have t := t.tg i j b
 replace i := Nat.le_trans i (j.size)
 have c := yG c j (b.ne c zi)
 have b := u
 replace o := o.trans2 (Ch.of_grown j) (fun k e => d k e)
 have d := s; clear s
 refine zr (pt a 0) (zr (pt a 1) (wL a 1 v2 [(pt a 0), f] [(pt a 0), v2] 99 zk zk b.one zk c zi rfl ?_))
 intro w7 n
 replace i := Nat.le_trans i (Nat.le_of_eq n.size.symm)
 have b := b.wrote n (b.ne c zi)
 have c := n.here
 refine nR (zD (zsl 9 x (zG (zG (nQ (zS (yC [(N6 ((x).length)), .nilIface] ?_)))))))
 have hE : ((x).length = x.length) ∧ ((l ++ x) = (l ++ x)) := ⟨(by rfl), (by rfl)⟩
 replace o := o.trans2 (Ch.of_wrote n) (fun k e => e ▸ q)
 exact ⟨_, xE (congrArg (fun x : Nat => Value.int .i64 (x : Int)) hE.1) (rfl), c, b.cast hE.2, d, o⟩
end Go.Proofs.YtddnhlobnembaaaGreatDoor
end

/- === FKam === -/
section
/- FKam: iterators whose elements are known by a predicate alone (their values may lie in memory that the iterator makes), with a fact on memory at each yield: as FKg's Iter and FKah's Iter2, written out of them by my program genfkam.py. -/
namespace Go.FK
open Go Go.RowKit
def IterP {α : Type} (P : Program) (g : FuncId) (lb : List Value) (encs : α → List Value) (ok fin : List α → Prop) (mem : Nat → α → World → Prop) (N : World → Prop) : Prop :=
  ∀ (l : Nat) (J Jx : Nat → List α → World → Prop) (w : World), N w →
    (∀ A, Below w.heap.size w A → J A.heap.size [] A) →
    (∀ K pre A B, J K pre A → Ch (Iv w.heap.size K) A B → J K pre B) →
    (∀ K pre A B, Jx K pre A → Ch (Iv w.heap.size K) A B → Jx K pre B) →
    (∀ K pre x A, J K pre A → N A → w.heap.size ≤ K → K ≤ A.heap.size → ok (pre ++ [x]) → mem K x A → YieldAt (Fw none) 0 P l (encs x).toArray A fun e A' =>
      (e = .returned (.bool true) ∧ J K (pre ++ [x]) A' ∧ Kp w.heap.size K A A' ∧ N A') ∨ (e = .returned (.bool false) ∧ Jx K (pre ++ [x]) A' ∧ Kp w.heap.size K A A')) →
    Calls P g (.func (.yield l) #[] #[] :: lb).toArray w (Ret fun _ w' => w.heap.size ≤ w'.heap.size ∧ ((∃ K l, fin l ∧ J K l w') ∨ (∃ K pre x, ok (pre ++ [x]) ∧ Jx K (pre ++ [x]) w')))
def IterP2 {α : Type} (P : Program) (g : FuncId) (lb : List Value) (encs : α → List Value) (ok fin : List α → Prop) (mem : Nat → α → World → Prop) (N : World → Prop) : Prop :=
  ∀ (l : Nat) (J Jx : Nat → List α → World → Prop) (w : World), N w →
    (∀ A, Below w.heap.size w A → J A.heap.size [] A) →
    (∀ K pre A B, J K pre A → Ch (Iv w.heap.size K) A B → J K pre B) →
    (∀ K pre A B, Jx K pre A → Ch (Iv w.heap.size K) A B → Jx K pre B) →
    (∀ K pre x A0 A, J K pre A0 → Ch (Iv w.heap.size K) A0 A → N A → w.heap.size ≤ K → K ≤ A0.heap.size → ok (pre ++ [x]) → mem A0.heap.size x A → YieldAt (Fw none) 0 P l (encs x).toArray A fun e A' =>
      (e = .returned (.bool true) ∧ J K (pre ++ [x]) A' ∧ Kp w.heap.size K A A' ∧ Kp A0.heap.size A.heap.size A A' ∧ N A') ∨ (e = .returned (.bool false) ∧ Jx K (pre ++ [x]) A' ∧ Kp w.heap.size K A A')) →
    Calls P g (.func (.yield l) #[] #[] :: lb).toArray w (Ret fun _ w' => w.heap.size ≤ w'.heap.size ∧ ((∃ K l, fin l ∧ J K l w') ∨ (∃ K pre x, ok (pre ++ [x]) ∧ Jx K (pre ++ [x]) w')))
section
variable {P : Program} {n : Nat} {Q : Post} {s : Fm} {w : World}
theorem W_rangeP {α : Type} {g : Operand} {ps : List Tmp} {assign body : Code} (gf : FuncId) (lb : List Value) {encs : α → List Value} (ok fin : List α → Prop) (mem : Nat → α → World → Prop) {N : World → Prop}
  (hg : s.ev n g = .func (.func gf) #[] lb.toArray) (eg : ∀ args w, (callFunc gf args).run P w = .ok (.enter gf args) w)
  (hit : IterP P gf lb encs ok fin mem N) (hN : N w) (hNs : ∀ D A B, N A → Ch D A B → (∀ k, D k → w.heap.size ≤ k) → N B) (hps : ∀ x, (encs x).length = ps.length)
  (I : Nat → List α → World → Prop) (Ix : Nat → Code → List α → World → Prop)
  (h0 : ∀ A, Below w.heap.size w A → I A.heap.size [] A)
  (hI : ∀ K pre A B, I K pre A → Ch (Iv w.heap.size K) A B → I K pre B)
  (hIx : ∀ K c pre A B, Ix K c pre A → Ch (Iv w.heap.size K) A B → Ix K c pre B)
  (hround : ∀ l K pre x A, I K pre A → N A → w.heap.size ≤ K → K ≤ A.heap.size → ok (pre ++ [x]) → mem K x A →
   W (some l) P n assign (thenQ (fun s1 w1 => Kp w.heap.size K A w1 ∧ ∀ w2, Ch (Iv w.heap.size K) w1 w2 → W (some l) P n body (roundQ w.heap.size K I Ix N (pre ++ [x]) w2) s1 w2) (fun _ _ _ => False))
    ((⟨s.f, []⟩ : Fm).puts (ps.zip (encs x))) A)
  (hdone : ∀ K l A, fin l → I K l A → w.heap.size ≤ A.heap.size → A.heap[w.heap.size]? = some (.deferred (some [])) → Q .normal ⟨s.f, ⟨.collected w.heap.size, #[]⟩ :: s.ds⟩ A)
  (hstop : ∀ K c pre x A, ok (pre ++ [x]) → Ix K c (pre ++ [x]) A → w.heap.size ≤ A.heap.size → A.heap[w.heap.size]? = some (.deferred (some [])) → W none P n c Q ⟨s.f, ⟨.collected w.heap.size, #[]⟩ :: s.ds⟩ A) :
  W none P n (.rangeFunc g ps.toArray assign body) Q s w := by
 refine W_iff.2 (wpIn_rangeFunc ?_)
 intro fn hfn
 obtain ⟨rec, hrec⟩ : ∃ rec : LoopState → Option Code → Loop, rec = fun st pe => { state := st, pending := pe, fn, tmps := (s.act n).tmps, params := ps.toArray, assign, body, defers := w.heap.size } := ⟨_, rfl⟩
 obtain ⟨W1, y⟩ : ∃ W1, (w.alloc (.deferred (some []))).alloc (.loop (rec .ready none)) = W1 := ⟨_, rfl⟩
 have au : W1.heap.size = w.heap.size + 2 := by rw [← y]; simp
 have ag : W1.heap[w.heap.size + 1]? = some (.loop (rec .ready none)) := by
  rw [← y]; have := World.alloc_heap_new (w.alloc (.deferred (some []))) (.loop (rec .ready none)); rwa [World.size_alloc] at this
 have ao : W1.heap[w.heap.size]? = some (.deferred (some [])) := by
  rw [← y]; exact (Below.heap_alloc _ _ _ (by simp)).trans (World.alloc_heap_new w _)
 have af : Below w.heap.size w W1 := by
  rw [← y]; exact ((Below.refl _ w).alloc (Nat.le_refl _) _).alloc (by simp) _
 refine ⟨w.heap.size + 1, [{ target := .collected w.heap.size, args := #[] }], W1, { target := .fn (.func gf) lb.toArray, args := #[.func (.yield (w.heap.size + 1)) #[] #[]] }, W1, gf,
  #[.func (.yield (w.heap.size + 1)) #[] #[]] ++ lb.toArray, W1, ?_, ?_, ?_, ?_, fun hx => by simp [Fw] at hx, ?_⟩
 ·rw [← y, hrec]; exact run_enterLoop_outer _ _ _ _ _
 ·rw [qI]
  simp only [resolve, List.map_toArray, List.map_cons, List.map_nil, hg]
  rfl
 ·intro f' _; trivial
 ·simp only [invoke, eg]
 ·have aj : N W1 := hNs _ _ _ hN ((Ch.of_below af)) (fun _ h => h.elim)
  have hput : ∀ (K : Nat) (A : World) (k : Nat) (o o' : Obj), A.heap[k]? = some o → Iv w.heap.size K k → Ch (Iv w.heap.size K) A (A.putObj k o') := fun K A k o o' hk hiv =>
   ⟨rfl, rfl, rfl, by simp [World.putObj], fun j _ hn => World.putObj_heap_other (fun e => hn (e ▸ hiv))⟩
  have hivm : ∀ {K k : Nat}, Iv W1.heap.size K k → Iv w.heap.size K k := fun h => ⟨by have := h.1; omega, h.2⟩
  have hcall := hit (w.heap.size + 1)
   (fun K pre A => I K pre A ∧ w.heap.size + 2 ≤ K ∧ A.heap[w.heap.size + 1]? = some (.loop (rec .ready none)) ∧ A.heap[w.heap.size]? = some (.deferred (some [])))
   (fun K pre A => ∃ c, Ix K c pre A ∧ w.heap.size + 2 ≤ K ∧ A.heap[w.heap.size + 1]? = some (.loop (rec .done (some c))) ∧ A.heap[w.heap.size]? = some (.deferred (some [])))
   W1 aj
   (fun A hA => ⟨h0 A (af.trans (hA.mono (by omega))), by have := hA.size; omega, (hA.block _ (by omega)).trans ag, (hA.block _ (by omega)).trans ao⟩)
   (fun K pre A B hs hc => ⟨hI K pre A B hs.1 (hc.mono fun k h => hivm h), hs.2.1, zU hs.2.2.1 hc (fun h => by have := h.1; omega), zU hs.2.2.2 hc (fun h => by have := h.1; omega)⟩)
   (fun K pre A B hs hc => by
    obtain ⟨c, h1, z, h3, h4⟩ := hs
    exact ⟨c, hIx K c pre A B h1 (hc.mono fun k h => hivm h), z, zU h3 hc (fun h => by have := h.1; omega), zU h4 hc (fun h => by have := h.1; omega)⟩)
   ?_
  ·refine CallsIn.mono (calls_fw.2 (by simpa using hcall)) ?_
   rintro e W2 ⟨v, rfl, hsz, (⟨K, l9, ak, hi, z, hl, hk⟩ | ⟨K, pre, x, hpre, c, hi, z, hl, hk⟩)⟩
   ·refine ⟨none, _, by have := run_endLoop (P := P) hl (by rw [hrec]; simp); rw [hrec] at this; exact this, ?_⟩
    have hp := hput K W2 (w.heap.size + 1) _ (.loop { rec .ready none with state := .exhausted }) hl ⟨by omega, by omega⟩
    rw [hrec] at hp
    exact ⟨⟨s.f, _⟩, rfl, hdone K l9 _ ak (hI _ _ _ _ hi hp) (Nat.le_trans (show w.heap.size ≤ W2.heap.size by omega) hp.size) ((World.putObj_heap_other (by omega)).trans hk)⟩
   ·refine ⟨some c, _, by have := run_endLoop (P := P) hl (by rw [hrec]; simp); rw [hrec] at this; exact this, ?_⟩
    have hp := hput K W2 (w.heap.size + 1) _ (.loop { rec .done (some c) with state := .exhausted }) hl ⟨by omega, by omega⟩
    rw [hrec] at hp
    exact W_iff.1 (hstop K c pre x _ hpre (hIx _ _ _ _ _ hi hp) (Nat.le_trans (show w.heap.size ≤ W2.heap.size by omega) hp.size) ((World.putObj_heap_other (by omega)).trans hk))
  ·-- one round
   rintro K pre x A ⟨hi, z, hl, hk⟩ hNA av hKA hpre hmem
   have r : Iv w.heap.size K (w.heap.size + 1) := ⟨by omega, by omega⟩
   have ab : Iv w.heap.size K w.heap.size := ⟨Nat.le_refl _, by omega⟩
   have hlt : w.heap.size + 1 < A.heap.size := yA hl
   have hy := run_yield (P := P) (args := (encs x).toArray) hl (by rw [hrec]; simpa using hps x)
   rw [hrec] at hy
   refine ⟨fn, _, assign, body, hy, roundIn_of_wpIn hfn ?_⟩
   have hfr : (({ tmps := (Array.zip ps.toArray (encs x).toArray).foldl (fun tmps (t, a) => tmps.setIfInBounds t a) (s.act n).tmps, defers := [] } : Act)) = ((⟨s.f, []⟩ : Fm).puts (ps.zip (encs x))).act n := by
    have e := puts_act n (ps.zip (encs x)) ⟨s.f, []⟩
    have e2 : (s.act n).tmps = ((⟨s.f, []⟩ : Fm).act n).tmps := rfl
    rw [e2]
    have e3 : (Array.zip ps.toArray (encs x).toArray) = (ps.zip (encs x)).toArray := by simp
    rw [e3]
    show Act.mk _ _ = Act.mk _ _
    congr 1
    ·rw [List.foldl_toArray]; exact e
    ·exact (puts_ds (ps.zip (encs x)) ⟨s.f, []⟩).symm
   rw [hfr]
   refine wpIn_mono (W_iff.1 (hround (w.heap.size + 1) K pre x A hi hNA (by omega) hKA hpre hmem)) ?_
   rintro e a1 w1 ⟨s1, rfl, ae⟩
   cases e with
   | normal =>
    obtain ⟨hkp, hbody⟩ := ae
    have ac : w1.heap[w.heap.size + 1]? = some (.loop (rec .ready none)) := (hkp.same _ r).trans hl
    have ai : w1.heap[w.heap.size]? = some (.deferred (some [])) := (hkp.same _ ab).trans hk
    refine ⟨_, run_beginRound ac (by rw [hrec]), ?_⟩
    have hp := hput K w1 (w.heap.size + 1) _ (.loop { rec .ready none with state := .busy }) ac r
    have al : (w1.putObj (w.heap.size + 1) (.loop { rec .ready none with state := .busy })).heap[w.heap.size + 1]? = some (.loop { rec .ready none with state := .busy }) := World.putObj_heap_same (yA ac)
    have am : (w1.putObj (w.heap.size + 1) (.loop { rec .ready none with state := .busy })).heap[w.heap.size]? = some (.deferred (some [])) := (World.putObj_heap_other (by omega)).trans ai
    refine wpIn_mono (W_iff.1 (hbody _ hp)) ?_
    have fin : ∀ (jump : Option Code) (W3 : World), Kp w.heap.size K (w1.putObj (w.heap.size + 1) (.loop { rec .ready none with state := .busy })) W3 →
      (Instr.endRound (w.heap.size + 1) jump).run P W3 = .ok (.bool jump.isNone) (W3.putObj (w.heap.size + 1) (.loop (rec (if jump.isNone then .ready else .done) jump))) ∧
      (W3.putObj (w.heap.size + 1) (.loop (rec (if jump.isNone then .ready else .done) jump))).heap[w.heap.size + 1]? = some (.loop (rec (if jump.isNone then .ready else .done) jump)) ∧
      (W3.putObj (w.heap.size + 1) (.loop (rec (if jump.isNone then .ready else .done) jump))).heap[w.heap.size]? = some (.deferred (some [])) ∧
      Ch (Iv w.heap.size K) W3 (W3.putObj (w.heap.size + 1) (.loop (rec (if jump.isNone then .ready else .done) jump))) ∧
      Kp W1.heap.size K A (W3.putObj (w.heap.size + 1) (.loop (rec (if jump.isNone then .ready else .done) jump))) := fun jump W3 b => by
     have ad := (b.same _ r).trans al
     have hr := run_endRound (P := P) jump ad
     rw [hrec] at hr ⊢
     refine ⟨hr, World.putObj_heap_same (yA ad), (World.putObj_heap_other (by omega)).trans ((b.same _ ab).trans am), hput K W3 _ _ _ ad r, ⟨?_, fun k hkk => ?_⟩⟩
     ·have h1 := hkp.size; have z := hp.size; have h3 := b.size
      simp only [World.putObj, Array.size_setIfInBounds] at z h3 ⊢
      omega
     ·have hkne : k ≠ w.heap.size + 1 := by have := hkk.1; omega
      have hkk' : Iv w.heap.size K k := hivm hkk
      exact (World.putObj_heap_other hkne).trans ((b.same k hkk').trans ((World.putObj_heap_other hkne).trans (hkp.same k hkk')))
    rintro e3 a3 W3 ⟨s3, rfl, u⟩
    cases e3 with
    | normal =>
     obtain ⟨b, q, ap⟩ := u
     obtain ⟨hr, m, p, i, d⟩ := fin none W3 b
     exact ⟨_, _, hr, .inl ⟨rfl, ⟨hI _ _ _ _ q i, z, m, p⟩, d, hNs _ _ _ ap i (fun k h => h.1)⟩⟩
    | ret =>
     obtain ⟨b, q⟩ := u
     obtain ⟨hr, m, p, i, d⟩ := fin (some .ret) W3 b
     exact ⟨_, _, hr, .inr ⟨rfl, ⟨.ret, hIx _ _ _ _ _ q i, z, m, p⟩, d⟩⟩
    | exit id =>
     obtain ⟨b, q⟩ := u
     obtain ⟨hr, m, p, i, d⟩ := fin (some (.exit id)) W3 b
     exact ⟨_, _, hr, .inr ⟨rfl, ⟨.exit id, hIx _ _ _ _ _ q i, z, m, p⟩, d⟩⟩
    | goto t =>
     obtain ⟨b, q⟩ := u
     obtain ⟨hr, m, p, i, d⟩ := fin (some (.goto t)) W3 b
     exact ⟨_, _, hr, .inr ⟨rfl, ⟨.goto t, hIx _ _ _ _ _ q i, z, m, p⟩, d⟩⟩
    | panic _ => exact u.elim
    | outgrown => exact u.elim
   | _ => exact ae.elim
end
end Go.FK
end

/- === Wcb3 === -/
section
/- Walks, written by my program walk.py out of the specification cb3.py: each theorem says what one function returns and that it leaves memory as it was. -/
namespace Go.Proofs.YtddnhlobnembaaaGreatDoor
open Go Go.RowKit Go.FK _root_.Go.Proofs.Tryz
set_option maxHeartbeats 4000000
set_option maxRecDepth 100000
theorem it_Keys (r m_rs : Nat) (rs : List (Int × (Int × Int × Int)))  :
  IterP (α := Int) Tryz.prog 98 [.pointer (some ⟨r, 0, none⟩)] (fun x => [.int .i32 x]) (fun l => l.length ≤ rs.length) (fun l => l.Perm (rs.map (·.1))) (fun _ _ _ => True) (fun w => w.heap[r]? = some (.cells [(.map (some m_rs))].toArray 66 (0, 0)) ∧ w.heap[m_rs]? = some (gmObj .i32 vBrk rs)) := by
 intro l J Jx w hN h0 ak aq hY
 refine wI 14 func98 rfl ?_
 have hb := Below.refl w.heap.size w
 have n : w.heap.size ≤ w.heap.size := Nat.le_refl _
 obtain ⟨b, a⟩ := hN
 refine wR (zO 0 b rfl (L_grange (k := .i32) vBrk m_rs rs underlying66 a zk ?_))
 intro b1 w2 j
 have h := yY (yA b) j
 have d := yY (yA a) j
 have y := j.ge n
 replace hb := hb.trans (j.below.mono n)
 replace n := Nat.le_trans n (j.below.size)
 have c := j.here
 refine nQ (zX ?_)
 have t := h0 _ hb
 obtain ⟨K, ah⟩ : ∃ K, K = w2.heap.size := ⟨_, rfl⟩
 rw [← ah] at t
 have s : K ≤ w2.heap.size := by omega
 have af : w.heap.size ≤ K := by omega
 have p : Iv w.heap.size K b1 := ⟨y, by have := yA c; omega⟩
 replace a := zA a j.below
 replace b := zA b j.below
 refine yZ (fun m s0 w0 => ∃ (g : Array Nat) (o : List Int), (m = rs.length - g.size) ∧ (s0.ds = []) ∧ ([0, 5].map s0.f = [(.func (.yield l) #[] #[]), (pt b1 0)]) ∧ (w0.heap[r]? = some (.cells [(.map (some m_rs))].toArray 66 (0, 0))) ∧ (w0.heap[m_rs]? = some (gmObj .i32 vBrk rs)) ∧ (w0.heap[b1]? = some (.mapIter (some m_rs) (List.length rs) g (List.length rs))) ∧ (w.heap.size ≤ w0.heap.size) ∧ (K ≤ w0.heap.size) ∧ (J K o w0) ∧ (TldK rs g o)) _ ⟨(#[]), [], rfl, zk, zk, b, a, c, n, s, t, (TldK.zero _)⟩ ?_
 rintro m4 s5 w6 ⟨g, o, hm, z, aj, b, a, c, n, s, t, i1⟩
 refine yS aj (wR (L_gnext (k := .i32) (f := vBrk) b1 m_rs rs g zk c a ?_ ?_))
 ·skip
  intro i7 q ax al ap i
  have u := Ch.refl (Iv w.heap.size K) w6
  replace s := Nat.le_trans s (Nat.le_of_eq i.size.symm)
  replace n := Nat.le_trans n (Nat.le_of_eq i.size.symm)
  replace c := i.here
  replace a := zC a i d
  refine zr (.bool true) (nW (zT (zK (zB (zX (wR (L_gentry b1 m_rs rs g i7 q zk c a al (zr (I3 q.1) (zG (nR (zD (zD ?_))))))))))))
  replace u := u.trans2 (Ch.of_wrote i) (fun k e => .inr (e ▸ p))
  replace t := ak _ _ _ _ t u
  clear u
  have v : (o ++ [q.1]).length ≤ rs.length := by have := (i1.push za za).len; rw [this.2]; exact this.1
  replace b := zC b i h
  refine L_yieldR l [(I3 q.1)] zk zk (hY K o q.1 _ t ⟨b, a⟩ af s v trivial) ?_
  rintro e au (⟨rfl, ag, hk, am⟩ | ⟨rfl, ai, hk⟩)
  ·refine ⟨true, rfl, ?_⟩
   replace c := (hk.same _ p).trans c
   replace n := Nat.le_trans n hk.size
   replace s := Nat.le_trans s hk.size
   replace t := ag
   obtain ⟨b, a⟩ := am
   refine wW true (nQ (zF (zK (zI (zB ⟨_, ?_, (Array.push g i7), (o ++ [q.1]), rfl, z, zk, b, a, c, n, s, t, ?_⟩)))))
   ·have := (i1.push za za).len; simp only [Array.size_push] at *; omega
   exact i1.push za za
  refine ⟨false, rfl, ?_⟩
  replace n := Nat.le_trans n hk.size
  replace s := Nat.le_trans s hk.size
  refine wW false (nQ (zT (zS (zP (zH (zP (yC [] (hd := z) ?_)))))))
  exact ⟨n, Or.inr ⟨K, _, _, v, ai⟩⟩
 skip
 intro ad
 refine zr (.bool false) (nW (zF (yH (zL (zL (yB (znrm [] (hd := z) ?_)))))))
 exact ⟨n, Or.inl ⟨K, o, (by exact i1.all za), t⟩⟩
theorem c_AppendSeq (c0_seq m_rs : Nat) (rs : List (Int × (Int × Int × Int))) (w : World) (d : w.heap[c0_seq]? = some (.cells [(.map (some m_rs))].toArray 66 (0, 0))) (f : w.heap[m_rs]? = some (gmObj .i32 vBrk rs)) (hm : rs.length ≤ 4194304) :
  Calls Tryz.prog 112 #[(.slice none 0 0), (.func (.func 98) #[] #[(pt c0_seq 0)])] w (Ret fun v w' => ∃ (ys : List Int) (q0 : Value), v = q0 ∧ Row w' w.heap.size 21 1 encI32 q0 ys ∧ ys.Perm (rs.map (·.1)) ∧ ys.length = rs.length ∧ Below w.heap.size w w') := by
 refine enterM (args := [(.slice none 0 0), (.func (.func 98) #[] #[(pt c0_seq 0)])]) func112 rfl (zk : _ = 13) zk ?_
 have n := Below.refl w.heap.size w
 refine wR (zN [(.slice none 0 0)] 23 ?_)
 intro b1 w2 z
 have s := yY (yA f) z
 have ao := z.ge n.size
 have j := z.here
 refine zG (nW (wR (zD (nQ (zX ?_)))))
 have d := zA d z.below
 have p : c0_seq < w2.heap.size := yA d
 have f := zA f z.below
 have m : m_rs < w2.heap.size := yA f
 have r : b1 < w2.heap.size := yA j
 have n := n.tr z.below
 have aa := n.size
 have a0 := n
 refine W_rangeP 98 [(pt c0_seq 0)] (fun l => l.length ≤ rs.length) (fun l => l.Perm (rs.map (·.1))) (fun _ _ _ => True) zk (fun _ _ => rfl) (it_Keys c0_seq m_rs rs ) ⟨d, f⟩ ((fun D A B h hc hd => ⟨zU h.1 hc (fun h => Nat.not_lt.2 (hd _ h) p), zU h.2 hc (fun h => Nat.not_lt.2 (hd _ h) m)⟩)) (by intro x; rfl) (fun K t A => ∃ (q : List Int) (i : Value), (A.heap[c0_seq]? = some (.cells [(.map (some m_rs))].toArray 66 (0, 0))) ∧ (A.heap[m_rs]? = some (gmObj .i32 vBrk rs)) ∧ (A.heap[b1]? = some (.cells [i].toArray 23 (0, 0))) ∧ (Row A w.heap.size 21 1 encI32 i q) ∧ (∀ g, Value.ownBlock i = some g → ¬ Iv w2.heap.size K g) ∧ (Below w.heap.size w A) ∧ (q = t)) (fun K c t A => False) ?_ ?_ ?_ ?_ ?_ ?_
 ·intro A hA
  exact ⟨[], (.slice none 0 0), zA d hA, zA f hA, zA j hA, Row.nil _ _ _ _ _, nr_nil _ _, n.trans (hA.mono n.size), by rfl⟩
 ·rintro K t A B ⟨q, i, d, f, j, a, b, n, p1⟩ hc
  exact ⟨q, i, zU d hc (fun h => Nat.not_lt.2 h.1 p), zU f hc (fun h => Nat.not_lt.2 h.1 m), zU j hc (fun h => Nat.not_lt.2 h.1 r), a.ch hc b, b, hc.below n n.size (fun k h => Nat.le_trans aa h.1), p1⟩
 ·intro K c _ A B h hc; exact h.elim
 ·intro l K t x A hi hN a1 hK ap az
  obtain ⟨q, i, d, f, j, a, b, n, p1⟩ := hi
  have hk := Kp.refl (w2.heap.size) K A
  have aj : ¬ Iv (w2.heap.size) K c0_seq := fun h => Nat.not_lt.2 h.1 p
  have ac : ¬ Iv (w2.heap.size) K m_rs := fun h => Nat.not_lt.2 h.1 m
  have ab : ¬ Iv (w2.heap.size) K b1 := fun h => Nat.not_lt.2 h.1 r
  have d := hN.1
  have f := hN.2
  have ax : (t ++ [x]).length ≤ rs.length := ap
  rw [List.length_append, List.length_singleton] at ax
  have a4 : q.length = t.length := by rw [p1]
  refine zQ (zG (zR (zB ⟨hk, ?_⟩)))
  intro w4 u
  have n := u.below n n.size (fun k h => Nat.le_trans aa h.1)
  replace hK := Nat.le_trans hK u.size
  replace hk := Kp.refl (w2.heap.size) K w4
  have j := zU j u ab
  have a := a.ch u b
  refine zX (zQ (zO 0 j rfl (zD (xW yX w.heap.size i q x n.size a zo zk rfl rfl zk rfl zk zk ?_))))
  intro v6 w7 aw y am
  have an := nr_app am b hK
  have n := n.tg n.size y a
  replace hk := hk.ch (Ch.of_grown y) hK (fun k e => b k e)
  replace hK := Nat.le_trans hK (y.size)
  have d := zU d u aj
  have d := yG d y (a.ne d zi)
  have f := zU f u ac
  have f := yG f y (a.ne f (by simp [gmObj]))
  have j := yG j y (a.ne j zi)
  have a := aw
  have b := an; clear an
  refine wL b1 0 v6 [i] [v6] 23 zk zk a.one zk j zi rfl ?_
  intro a3 o
  replace hk := hk.ch (Ch.of_wrote o) hK (fun k e h => ab (e ▸ h))
  replace hK := Nat.le_trans hK (Nat.le_of_eq o.size.symm)
  have d := zC d o (zJ d j zi)
  have a := a.wrote o (a.ne j zi)
  have j := o.here
  refine zR (zI ?_)
  have n := n.trans (o.below ao)
  have f := zC f o s
  refine wA hk ⟨d, f⟩ ⟨(q ++ [x]), v6, d, f, j, a, b, n, ?_⟩
  rw [p1]
 ·intro K t A ag hi a5 ah
  obtain ⟨q, i, d, f, j, a, b, n, p1⟩ := hi
  refine zI (zB (wR (zO 0 j rfl (zG (nQ (zS (wQ (ds := [⟨.collected w2.heap.size, #[]⟩]) zk (wF ah ?_))))))))
  intro a2 ai
  have a := a.wrote ai (a.ne ah zi)
  refine vQ [.tmp 4] [i] rfl ⟨zk, trivial⟩ ?_
  have n := n.trans (ai.below aa)
  exact ⟨q, i, rfl, a, (by rw [p1]; exact ag), (by rw [p1, ag.length_eq, List.length_map]), n⟩
 intro K c _ x A _ h; exact h.elim
theorem c_Sort12 (B_ : Nat) (a : Value) (s : List (Int)) (w : World) (hs0 : B_ ≤ w.heap.size) (b : Row w B_ 21 1 encI32 a s) (h1 : s.length ≤ 1114112) :
  Calls Tryz.prog 97 #[a] w (Ret fun v w' => ∃ (ys : List (Int)), v = (.tuple #[]) ∧ Row w' B_ 21 1 encI32 a ys ∧ (Sw 0 s.length s ys) ∧ (Srt ys 0 s.length) ∧ Ch (fun k => Value.ownBlock a = some k) w w') := by
 refine wI 11 func97 rfl ?_
 have l := Below.refl B_ w
 have i : B_ ≤ (World.heap w).size := hs0
 have j := Ch.refl (fun k => Value.ownBlock a = some k) w
 have c : ∀ g, Value.ownBlock a = some g → (World.heap w).size ≤ g ∨ (fun k => Value.ownBlock a = some k) g := fun g h => .inr h
 refine wR (zD (zln underlying23 (b.rd).len (zG (nQ (zQ (zD (zD (zD (vS (k := .i64) (((s).length : Nat) : Int) (((s).length : Nat) : Int) zk underlying144 zk (wrap_u64 _ zo zo) (zc (c_bitsLen (((s).length : Nat) : Int) _ zo zo) ?_))))))))))
 rintro _ q ⟨rfl, d⟩
 have l := l.trans (d.mono i)
 replace i := Nat.le_trans i (d.size)
 have := bitLen_le (Int.toNat (((s).length : Nat) : Int))
 have b := b.below d
 refine zc (c_pdq B_ a s 0 ((s).length) (Lib.bitLen (((s).length : Nat) : Int).toNat) _ i b zo zo zo (by exact Low.zero) zo) ?_
 replace j := j.trans2 (Ch.of_below d) (fun _ h => h.elim)
 rintro _ r ⟨n, rfl, m, p, o, f⟩
 have l := f.below l i (fun k e => (World.ownsRow.lt b k e).1)
 replace i := Nat.le_trans i f.size
 have b := m
 refine zR (znrm [] ?_)
 replace j := j.trans2 f (fun k e => c k e)
 exact ⟨n, rfl, b, za, za, j⟩
theorem c_Sorted12 (c0_seq m_rs : Nat) (rs : List (Int × (Int × Int × Int))) (w : World) (c : w.heap[c0_seq]? = some (.cells [(.map (some m_rs))].toArray 66 (0, 0))) (g : w.heap[m_rs]? = some (gmObj .i32 vBrk rs)) (hm : rs.length ≤ 1114112) :
  Calls Tryz.prog 59 #[(.func (.func 98) #[] #[(pt c0_seq 0)])] w (Ret fun v w' => ∃ (q0 : Value), v = q0 ∧ Row w' w.heap.size 21 1 encI32 q0 (keysB rs) ∧ Below w.heap.size w w') := by
 refine wI 9 func59 rfl ?_
 have b := Below.refl w.heap.size w
 refine wR (zG (nR (zD (L_inline 96 [(.func (.func 98) #[] #[(pt c0_seq 0)])] zk zk (wI 5 func96 rfl (wR (zG (nR (zD (zc (c_AppendSeq c0_seq m_rs rs _ c g zo) ?_))))))))))
 rintro f r ⟨o, _, rfl, a, m, p, i⟩
 have a := a.base b.size
 refine zG (nQ (zS (yC [f] ?_)))
 show L _ _ _ _ _ _ (Fm.put _ _ f) _
 have b := b.tr i
 refine zG (nR (zD (zc (c_Sort12 w.heap.size f o _ b.size a zo) ?_)))
 rintro _ q ⟨n, rfl, d, j, l, h⟩
 have b := h.below b b.size (fun k e => (World.ownsRow.lt a k e).1)
 have a := d
 exact nR (zD (zG (nQ (zS (yC [f] ⟨f, rfl, a.cast (by exact keys_sorted za za za rfl), b⟩)))))
theorem c_there_g (a : Nat) (m_rs : Nat) (rs : List (Int × (Int × Int × Int))) (b : Value) (w : World) (c : w.heap[a]? = some (.cells [(.map (some m_rs)), b].toArray 69 (0, 0))) (d : w.heap[m_rs]? = some (gmObj .i32 vBrk rs)) :
  Calls Tryz.prog 51 #[(pt a 0)] w (Ret fun v w' => v = (.bool true) ∧ Below w.heap.size w w') := by
 refine wI 12 func51 rfl ?_
 have e := Below.refl w.heap.size w
 exact wR (zG (nR (zD (zr (.bool true) (zD (zw (zD (zw (zr (pt a 0) (zw (zr (pt a 0) (zw (zO 0 c rfl (zw (zr (.bool true) (xG (zG (nQ (zS (yC [(.bool true)] ⟨rfl, e⟩))))))))))))))))))))
theorem it_Rows12 (bx_b n : Nat) (m_rs : Nat) (rs : List (Int × (Int × Int × Int))) (y : Value) (hm : rs.length ≤ 1114112) :
  Iter (α := Brk) Tryz.prog 58 [.pointer (some ⟨bx_b, 0, none⟩)] (fun x => [.agg #[.int .i32 x.1, .int .i32 x.2.1, .int .u8 x.2.2]]) (rowsB rs) (fun w => w.heap[bx_b]? = some (.cells [(pt n 0)].toArray 27 (0, 0)) ∧ w.heap[n]? = some (.cells [(.map (some m_rs)), y].toArray 69 (0, 0)) ∧ w.heap[m_rs]? = some (gmObj .i32 vBrk rs)) := by
 intro l J Jx w hN h0 a3 aq hY
 refine wI 29 func58 rfl ?_
 have hb := Below.refl w.heap.size w
 have j : w.heap.size ≤ w.heap.size := Nat.le_refl _
 obtain ⟨c, b, a⟩ := hN
 refine zY (wR (zO 0 c rfl (zc (c_there_g n m_rs rs y _ b a) ?_)))
 rintro _ w1 ⟨rfl, v⟩
 have hb := hb.trans (v.mono j)
 replace j := Nat.le_trans j (v.size)
 have c := zA c v
 have b := zA b v
 refine wW true (nQ (zF (zK (zB (wR (zO 0 c rfl (zr (pt n 0) (uF 0 b rfl (L_inline 60 [(.map (some m_rs))] zk zk (wI 4 func60 rfl (wR (zN [(.map (some m_rs))] 66 ?_))))))))))))
 intro b4 w5 p
 have u := p.ge j
 have hb := hb.trans (p.below.mono j)
 replace j := Nat.le_trans j (p.below.size)
 have d := p.here
 refine zG (nR (zr (.func (.func 98) #[] #[(pt b4 0)]) (zG (nQ (zS (yC [(.func (.func 98) #[] #[(pt b4 0)])] ?_))))))
 show L _ _ _ _ _ _ (Fm.put _ _ (.func (.func 98) #[] #[(pt b4 0)])) _
 have a := zA (zA a v) p.below
 refine zc (c_Sorted12 b4 m_rs rs _ d a zo) ?_
 rintro q7 w8 ⟨_, rfl, h, s⟩
 have h := h.base j
 have hb := hb.trans (s.mono j)
 replace j := Nat.le_trans j (s.size)
 refine zln underlying23 (h.rd).len (zD (nQ (zX ?_)))
 have z := h0 _ hb
 obtain ⟨K, al⟩ : ∃ K, K = w8.heap.size := ⟨_, rfl⟩
 rw [← al] at z
 have hK : K ≤ w8.heap.size := by omega
 have aj : w.heap.size ≤ K := by omega
 have d := zA d s
 have r : Iv w.heap.size K b4 := ⟨u, by have := yA d; omega⟩
 have t : ∀ g, Value.ownBlock q7 = some g → Iv w.heap.size K g := fun g hg => by have := World.ownsRow.lt h g hg; exact ⟨this.1, by omega⟩
 have c := zA (zA c p.below) s
 have a := zA a s
 have b := zA (zA b p.below) s
 refine yZ (fun m s0 w0 => ∃ (i : Nat) (o : List Brk), (m = (keysB rs).length - i) ∧ (s0.ds = []) ∧ ([0, 1, 13, 14, 15].map s0.f = [(.func (.yield l) #[] #[]), (pt bx_b 0), q7, (N6 (((keysB rs)).length)), (N6 i)]) ∧ (Row w0 w.heap.size 21 1 encI32 q7 (keysB rs)) ∧ (w0.heap[bx_b]? = some (.cells [(pt n 0)].toArray 27 (0, 0))) ∧ (w0.heap[n]? = some (.cells [(.map (some m_rs)), y].toArray 69 (0, 0))) ∧ (w0.heap[m_rs]? = some (gmObj .i32 vBrk rs)) ∧ (w0.heap[b4]? = some (.cells [(.map (some m_rs))].toArray 66 (0, 0))) ∧ (w.heap.size ≤ w0.heap.size) ∧ (K ≤ w0.heap.size) ∧ (J K o w0) ∧ (i ≤ (keysB rs).length) ∧ (o = (rowsB rs).take i)) _ ⟨0, [], rfl, zk, zk, h, c, b, a, d, j, hK, z, (Nat.zero_le _), rfl⟩ ?_
 rintro a1 au az ⟨i, o, hm, ad, ao, h, c, b, a, d, j, hK, z, i1, ae⟩
 refine yS ao ?_
 have ay := keysB_len rs
 refine wR (nLt i (((keysB rs)).length) ?_ ?_)
 ·intro a5
  refine nW (zT (zK (zB (zY (zX (wR ?_))))))
  have hz := zV (keysB rs) i zo; obtain ⟨q, ai⟩ := hz
  refine zE1 h.rd yX i ai rfl fun _ => (zG (nR (zD (zO 0 c rfl (zr (pt n 0) (uF 0 b rfl (zD (L_glook1 (k := .i32) (f := vBrk) (0, 0, 0) q rs underlying66 underlying21 zk (GmAt.of a) zk zk ?_))))))))
  have ab : o ++ [(lookB rs q)] <+: (rowsB rs) := by rw [ae]; exact rows_pre za
  refine L_yield l [(Value.agg #[(I3 ((lookB rs q).1)), (I3 ((lookB rs q).2.1)), (U8 ((lookB rs q).2.2))])] zk zk (hY K o (lookB rs q) _ z ⟨c, b, a⟩ aj hK ab) ?_
  rintro e a2 (⟨rfl, ak, hk, ap⟩ | ⟨rfl, an, hk⟩)
  ·refine ⟨true, rfl, ?_⟩
   have d := (hk.same _ r).trans d
   have h := h.kp hk t
   replace j := Nat.le_trans j hk.size
   replace hK := Nat.le_trans hK hk.size
   replace z := ak
   obtain ⟨c, b, a⟩ := ap
   refine wW true (nQ (zF (zK (zI (zB (zQ (xL i 1 (zD (zR (zB ⟨_, zo, (i + 1), (o ++ [(lookB rs q)]), rfl, ad, zk, h, c, b, a, d, j, hK, z, zo, ?_⟩))))))))))
   rw [ae]; exact rows_take za
  refine ⟨false, rfl, ?_⟩
  replace j := Nat.le_trans j hk.size
  replace hK := Nat.le_trans hK hk.size
  refine wW false (nQ (zT (zS (zP (zH (zH (zP (yC [] (hd := ad) ?_))))))))
  exact ⟨j, Or.inr ⟨K, _, _, ab, an⟩⟩
 intro av
 refine nW (zF (yH (zL (zL (yB (znrm [] (hd := ad) ?_))))))
 have ah : o = (rowsB rs) := by first | (rw [ae, List.take_of_length_le (by rw [rowsB_len, ← keysB_len]; omega)]; done)
 rw [ah] at z
 exact ⟨j, Or.inl ⟨K, z⟩⟩
theorem c_Rows (a : Nat) (m_rs : Nat) (rs : List (Int × (Int × Int × Int))) (c : Value) (w : World) (i : w.heap[a]? = some (.cells [(.map (some m_rs)), c].toArray 69 (0, 0))) (h : w.heap[m_rs]? = some (gmObj .i32 vBrk rs)) :
  Calls Tryz.prog 24 #[(pt a 0)] w (Ret fun v w' => ∃ (cb0 : Nat), v = (.func (.func 58) #[] #[(pt cb0 0)]) ∧ w'.heap[cb0]? = some (.cells [(pt a 0)].toArray 27 (0, 0)) ∧ w.heap.size ≤ cb0 ∧ Below w.heap.size w w') := by
 refine wI 4 func24 rfl ?_
 have f := Below.refl w.heap.size w
 refine wR (zN [(pt a 0)] 27 ?_)
 intro g j b
 have e := b.ge f.size
 have d := b.here
 have f := f.tr b.below
 exact zG (nR (zr (.func (.func 58) #[] #[(pt g 0)]) (zG (nQ (zS (yC [(.func (.func 58) #[] #[(pt g 0)])] ⟨g, rfl, d, e, f⟩))))))
theorem c_words_Letter (c : Int) (w : World) :
  Calls Tryz.prog 43 #[(U8 c)] w (Ret fun v w' => v = (.tuple #[(S (letterS c)), (I6 (letterE c))]) ∧ Below w.heap.size w w') := by
 refine wI 11 func43 rfl ?_
 have a := Below.refl w.heap.size w
 refine wR (zG (zG (nW (wR (zD (nQ (zX (wR (qA .u8 c 0 ?_ ?_)))))))))
 ·intro g
  exact zG (nQ (zT (wR (zG (zG (nQ (zS (zP (zH (yC [(S [110]), (I6 0)] ⟨xE (congrArg S (by simp [letterS, *])) (e6 (by simp [letterE, *])), a⟩))))))))))
 intro d
 refine zG (nQ (zF (wR (qA .u8 c 1 ?_ ?_))))
 ·intro h
  exact zG (nQ (zT (wR (zG (zG (nQ (zS (zP (zH (yC [(S [111]), (I6 0)] ⟨xE (congrArg S (by simp [letterS, *])) (e6 (by simp [letterE, *])), a⟩))))))))))
 intro e
 refine zG (nQ (zF (wR (qA .u8 c 2 ?_ ?_))))
 ·intro b
  exact zG (nQ (zT (wR (zG (zG (nQ (zS (zP (zH (yC [(S [99]), (I6 0)] ⟨xE (congrArg S (by simp [letterS, *])) (e6 (by simp [letterE, *])), a⟩))))))))))
 intro f
 exact zG (nQ (zF (zK (zI (zB (wR (zG (zG (nQ (zS (yC [(S []), (I6 2)] ⟨xE (congrArg S (by simp [letterS, *])) (e6 (by simp [letterE, *])), a⟩)))))))))))
theorem c_words_Side (s : List UInt8) (w : World) (hs : s.length ≤ 1073741824) :
  Calls Tryz.prog 76 #[(S s)] w (Ret fun v w' => v = (.tuple #[(U8 ((sideF s).1)), (I6 ((sideF s).2))]) ∧ Below w.heap.size w w') := by
 refine wI 33 func76 rfl ?_
 have c := Below.refl w.heap.size w
 refine wR (zG (zG (nW (wR (zM 3 [(S [78, 111, 110, 101]), (S [79, 112, 101, 110]), (S [67, 108, 111, 115, 101])] 9 ?_)))))
 intro p w2 l
 have n := l.ge c.size
 have b : Row w2 w.heap.size 9 1 encStr (.slice (some ⟨p, 0, none⟩) 3 3) sideTab := Row.made sideTab l n rfl rfl (by first | decide | (simp; done))
 refine zln underlying88 (b.rd).len (zD (nQ (zX ?_)))
 replace c := c.tr l.below
 refine yZ (fun m s0 w0 => ∃ (k : Nat), (m = 3 - k) ∧ (s0.ds = []) ∧ ([0, 9, 10, 11].map s0.f = [(S s), (.slice (some ⟨p, 0, none⟩) 3 3), (N6 ((sideTab).length)), (N6 k)]) ∧ (Row w0 w.heap.size 9 1 encStr (.slice (some ⟨p, 0, none⟩) 3 3) sideTab) ∧ (Below w.heap.size w w0) ∧ (k ≤ 3) ∧ (sideFrom s k = sideF s)) _ ⟨0, rfl, zk, zk, b, c, by omega, rfl⟩ ?_
 rintro m4 s5 w6 ⟨k, hm, h, o, b, c, i1, i⟩
 refine yS o ?_
 have y : sideTab.length = 3 := rfl
 refine wR (nLt k ((sideTab).length) ?_ ?_)
 ·intro h7
  refine nW (zT (zK (zB (zY (zX (wR (zD ?_)))))))
  have t := zV sideTab k zo; obtain ⟨q, j⟩ := t
  have := sideTab_len j
  have a := j
  refine zE1 b.rd el88 k j rfl fun _ => (zG (zG (nR (zD (vS (k := .i64) ((k : Nat) : Int) ((k : Nat) : Int) zk underlying24 zk (wrap_u8 _ zo zo) (zG (nR (zD (zc (c_words_Letter ((k : Nat) : Int) _ ) ?_)))))))))
  rintro _ u ⟨rfl, e⟩
  have := letterS_len ((k : Nat) : Int)
  refine zD (zr (S (letterS ((k : Nat) : Int))) (zr (I6 (letterE ((k : Nat) : Int))) (zG (zG (nR (zD (zD (zc (c_words_Alike s (letterS ((k : Nat) : Int)) _ zo zo) ?_))))))))
  rintro _ af ⟨rfl, d⟩
  refine yK (alikeB s (letterS ((k : Nat) : Int))) ?_ ?_
  ·intro z
   replace c := (c.tr e).tr d
   exact zD (zs (zs (zs (xG (nQ (zT (wR (zD (zG (zG (nQ (zS (zP (zH (zH (zP (zH (yC [(U8 ((k : Nat) : Int)), (I6 0)] (hd := h) ⟨xE (eu (by (rw [← i, wV a]; simp [*]; done))) (e6 (by (rw [← i, wV a]; simp [*]; done))), c⟩))))))))))))))))))
  intro r
  refine zD (zw (zD (zw (zD (zw (zc (c_words_Alike s q _ zo zo) ?_))))))
  rintro _ ae ⟨rfl, g⟩
  refine yK (alikeB s q) ?_ ?_
  ·intro ad
   replace c := ((c.tr e).tr d).tr g
   exact xF (nQ (zT (wR (zD (zG (zG (nQ (zS (zP (zH (zH (zP (zH (yC [(U8 ((k : Nat) : Int)), (I6 0)] (hd := h) ⟨xE (eu (by (rw [← i, wV a]; simp [*]; done))) (e6 (by (rw [← i, wV a]; simp [*]; done))), c⟩))))))))))))))
  intro ab
  refine xF (nQ (zF (zK (zI (zB (zQ (xL k 1 (zD (zR ?_)))))))))
  replace c := ((c.tr e).tr d).tr g
  replace b := ((b.below e).below d).below g
  refine zB ⟨_, zo, (k + 1), rfl, h, zk, b, c, zo, ?_⟩
  rw [← i, wV a]; simp [*]
 intro aa
 exact nW (zF (yH (zL (zL (yB (zB (wR (zG (zG (nQ (zS (yC [(U8 0), (I6 51)] (hd := h) ⟨xE (eu (by (rw [← i, sideFrom_end (k := k) zo]; done))) (e6 (by (rw [← i, sideFrom_end (k := k) zo]; done))), c⟩))))))))))))
theorem c_Write12 (ag : Nat) (m_rs : Nat) (rs : List (Int × (Int × Int × Int))) (ap : Value) (w : World) (j : w.heap[ag]? = some (.cells [(.map (some m_rs)), ap].toArray 69 (0, 0))) (f : w.heap[m_rs]? = some (gmObj .i32 vBrk rs)) (hm : rs.length ≤ 1114112) :
  Calls Tryz.prog 16 #[(pt ag 0)] w (Ret fun v w' => v = (S (writeB rs)) ∧ Below w.heap.size w w') := by
 refine enterM (args := [(pt ag 0)]) func16 rfl (zk : _ = 42) zk ?_
 have q := Below.refl w.heap.size w
 refine wR (zG (nR (zN [(.pointer none), (.slice none 0 0)] 99 ?_)))
 intro b1 w2 ar
 have ah := yY (yA f) ar
 have a1 := ar.ge q.size
 have i := ar.here
 have j := zA j ar.below
 have f := zA f ar.below
 refine nW (wR (zD (zc (c_Rows ag m_rs rs ap _ j f) ?_)))
 rintro _ w4 ⟨a0, rfl, a, az, a4⟩
 have q := q.tr ar.below
 replace az := Nat.le_trans q.size az
 refine nQ (zX ?_)
 have j := zA j a4
 have af : ag < w4.heap.size := yA j
 have f := zA f a4
 have r : m_rs < w4.heap.size := yA f
 have i := zA i a4
 have aj : b1 < w4.heap.size := yA i
 have z : a0 < w4.heap.size := yA a
 have q := q.tr a4
 have ay := q.size
 have bs := q
 refine uL 58 [(pt a0 0)] (rowsB rs) zk (fun _ _ => rfl) (it_Rows12 a0 ag m_rs rs ap zo) ⟨a, j, f⟩ ((fun D A B h hc hd => ⟨zU h.1 hc (fun h => Nat.not_lt.2 (hd _ h) z), zU h.2.1 hc (fun h => Nat.not_lt.2 (hd _ h) af), zU h.2.2 hc (fun h => Nat.not_lt.2 (hd _ h) r)⟩)) (by intro x; rfl) (fun K a2 A => ∃ (pp : Value) (ac : List UInt8) (n : Value), (A.heap[ag]? = some (.cells [(.map (some m_rs)), ap].toArray 69 (0, 0))) ∧ (A.heap[m_rs]? = some (gmObj .i32 vBrk rs)) ∧ (A.heap[b1]? = some (.cells [pp, n].toArray 99 (0, 0))) ∧ (A.heap[a0]? = some (.cells [(pt ag 0)].toArray 27 (0, 0))) ∧ (Row A w.heap.size 5 1 encByt n ac) ∧ (∀ g, Value.ownBlock n = some g → ¬ Iv w4.heap.size K g) ∧ (Below w.heap.size w A) ∧ (pp = .pointer none ∨ pp = .pointer (some ⟨b1, 0, none⟩)) ∧ (ac = a2.flatMap lineB)) (fun K c a2 A => False) ?_ ?_ ?_ ?_ ?_ ?_
 ·intro A hA
  exact ⟨(.pointer none), [], (.slice none 0 0), zA j hA, zA f hA, zA i hA, zA a hA, Row.nil _ _ _ _ _, nr_nil _ _, q.trans (hA.mono q.size), by exact .inl rfl, by rfl⟩
 ·rintro K a2 A B ⟨pp, ac, n, j, f, i, a, d, m, q, rp, ra⟩ hc
  exact ⟨pp, ac, n, zU j hc (fun h => Nat.not_lt.2 h.1 af), zU f hc (fun h => Nat.not_lt.2 h.1 r), zU i hc (fun h => Nat.not_lt.2 h.1 aj), zU a hc (fun h => Nat.not_lt.2 h.1 z), d.ch hc m, m, hc.below q q.size (fun k h => Nat.le_trans ay h.1), rp, ra⟩
 ·intro K c _ A B h hc; exact h.elim
 ·intro l K a2 x A hi hN b2 hK bl
  obtain ⟨pp, ac, n, j, f, i, a, d, m, q, rp, ra⟩ := hi
  have hk := Kp.refl (w4.heap.size) K A
  have be : ¬ Iv (w4.heap.size) K ag := fun h => Nat.not_lt.2 h.1 af
  have ax : ¬ Iv (w4.heap.size) K m_rs := fun h => Nat.not_lt.2 h.1 r
  have av : ¬ Iv (w4.heap.size) K b1 := fun h => Nat.not_lt.2 h.1 aj
  have a3 : ¬ Iv (w4.heap.size) K a0 := fun h => Nat.not_lt.2 h.1 z
  have a := hN.1
  have j := hN.2.1
  have f := hN.2.2
  have bv := wrB_len ra bl
  refine zQ (zN [(I3 0), (I3 0), (U8 0)] 26 ?_)
  intro b8 w9 p
  have ai := yY (yA f) p
  have bc := p.ge q.size
  have aw : ¬ Iv w4.heap.size K b8 := fun h => by have := h.2; have := p.num; omega
  replace hk := hk.ch (Ch.of_below p.below) hK (fun _ h => h.elim)
  replace hK := Nat.le_trans hK (p.below.size)
  have o := p.here
  refine wG [(I3 x.1), (I3 x.2.1), (U8 x.2.2)] o ?_
  intro b6 t
  replace hk := hk.ch (Ch.of_wrote t) hK (fun k e h => aw (e ▸ h))
  replace hK := Nat.le_trans hK (Nat.le_of_eq t.size.symm)
  have j := zA j p.below
  have j := zC j t (zJ j o zi)
  have i := zA i p.below
  have i := zC i t (zJ i o zi)
  have a := zA a p.below
  have a := zC a t (zJ a o zi)
  have d := d.below p.below
  have d := d.wrote t (d.ne o zi)
  have o := t.here
  refine zR (zB ⟨hk, ?_⟩)
  intro br aa
  have q := (q.tr p.below).trans (t.below bc)
  have q := aa.below q q.size (fun k h => Nat.le_trans ay h.1)
  replace hK := Nat.le_trans hK aa.size
  replace hk := Kp.refl (w4.heap.size) K br
  have o := zU o aa aw
  refine zX (wR (uF 0 o rfl (zc (c_points_Show x.1 _ ) ?_)))
  rintro _ bu ⟨rfl, u⟩
  replace hk := hk.ch (Ch.of_below u) hK (fun _ h => h.elim)
  replace hK := Nat.le_trans hK (u.size)
  have := showF_len x.1
  have o := zA o u
  refine zD (zr (S ((showF x.1).1)) (zr (I6 ((showF x.1).2)) (zG (zG (nR (uF 1 o rfl (zc (c_points_Show x.2.1 _ ) ?_)))))))
  rintro _ b0 ⟨rfl, s⟩
  replace hk := hk.ch (Ch.of_below s) hK (fun _ h => h.elim)
  replace hK := Nat.le_trans hK (s.size)
  have := showF_len x.2.1
  have o := zA o s
  refine zD (zr (S ((showF x.2.1).1)) (zr (I6 ((showF x.2.1).2)) (zG (zG (nR (uF 2 o rfl (zc (c_words_Letter x.2.2 _ ) ?_)))))))
  rintro _ bx ⟨rfl, ab⟩
  replace hk := hk.ch (Ch.of_below ab) hK (fun _ h => h.elim)
  replace hK := Nat.le_trans hK (ab.size)
  have := letterS_len x.2.2
  have q := ((q.tr u).tr s).tr ab
  have i := zA (zA (zA (zU i aa av) u) s) ab
  have d := (((d.ch aa m).below u).below s).below ab
  refine zD (zr (S (letterS x.2.2)) (zr (I6 (letterE x.2.2)) (zG (zG (nQ (zQ (zD (wE ((showF x.1).1) ([59, 32] : List UInt8) (by (simp only [List.length_append, List.length_cons, List.length_nil]; omega)) zk zk (zD (wE ((showF x.1).1 ++ ([59, 32] : List UInt8)) ((showF x.2.1).1) (by (simp only [List.length_append, List.length_cons, List.length_nil]; omega)) zk zk (wE (((showF x.1).1 ++ ([59, 32] : List UInt8)) ++ (showF x.2.1).1) ([59, 32] : List UInt8) (by (simp only [List.length_append, List.length_cons, List.length_nil]; omega)) zk zk (zD (wE ((((showF x.1).1 ++ ([59, 32] : List UInt8)) ++ (showF x.2.1).1) ++ ([59, 32] : List UInt8)) (letterS x.2.2) (by (simp only [List.length_append, List.length_cons, List.length_nil]; omega)) zk zk (wE (((((showF x.1).1 ++ ([59, 32] : List UInt8)) ++ (showF x.2.1).1) ++ ([59, 32] : List UInt8)) ++ letterS x.2.2) ([10] : List UInt8) (by (simp only [List.length_append, List.length_cons, List.length_nil]; omega)) zk zk (zc (bd_WriteString b1 pp n ac ((((((showF x.1).1 ++ ([59, 32] : List UInt8)) ++ (showF x.2.1).1) ++ ([59, 32] : List UInt8)) ++ letterS x.2.2) ++ ([10] : List UInt8)) w.heap.size _ q.size i a1 d za zo (by (simp only [List.length_append, List.length_cons, List.length_nil]; omega))) ?_)))))))))))))))
  rintro _ bw ⟨bd, rfl, bh, a8, bj, ae⟩
  have bk : ∀ k, Dm b1 n k → ¬ Iv (w4.heap.size) K k := fun k e => e.elim (fun x => by rw [x]; exact av) (fun x => m k x)
  have aq : ∀ g, Value.ownBlock bd = some g → ¬ Iv (w4.heap.size) K g := fun g hg => (bj g hg).elim (fun x y => by have := y.2; omega) (fun e => bk g e)
  replace hk := hk.ch ae hK bk
  replace hK := Nat.le_trans hK ae.size
  have q := ae.below q q.size (fun k e => e.elim (fun x => x ▸ a1) (fun x => (World.ownsRow.lt d k x).1))
  have j := zA (zA (zA (zU j aa be) u) s) ab
  have j := obj_ch_mut j ae (zJ j i zi) (d.ne j zi)
  have f := zA (zA (zA (zU (zC (zA f p.below) t ai) aa ax) u) s) ab
  have f := obj_ch_mut f ae ah (d.ne f (by simp [gmObj]))
  have a := zA (zA (zA (zU a aa a3) u) s) ab
  have a := obj_ch_mut a ae (zJ a i zi) (d.ne a zi)
  have i := bh
  refine zR (zI (wA hk ⟨a, j, f⟩ ⟨(pt b1 0), (ac ++ ((((((showF x.1).1 ++ ([59, 32] : List UInt8)) ++ (showF x.2.1).1) ++ ([59, 32] : List UInt8)) ++ letterS x.2.2) ++ ([10] : List UInt8))), bd, j, f, i, a, a8, aq, q, ?_, ?_⟩))
  ·exact .inr rfl
  exact wrB_step ra
 ·intro K A hi b4 am
  obtain ⟨pp, ac, n, j, f, i, a, d, m, q, rp, ra⟩ := hi
  refine zI (zB (wR ?_))
  have bz := Bld.ofRow za i d a1 (d.ne i zi)
  refine zc (bldStr (fun B b l w h hB => Tryz.Builder_String_any_k B b l w h hB) ac _ bz q.size) ?_
  rintro _ b5 ⟨rfl, bi, bb, an⟩
  have bo := Bld.obj_kept bz an j (by intro cs X fz e; first | (simp [mapObj] at e; done) | (simp [gmObj] at e; done) | (injection e with _ e2 _; subst e2; decide))
  have bm := Bld.obj_kept bz an f (by intro cs X fz e; first | (simp [mapObj] at e; done) | (simp [gmObj] at e; done) | (injection e with _ e2 _; subst e2; decide))
  have bg := Bld.obj_kept bz an a (by intro cs X fz e; first | (simp [mapObj] at e; done) | (simp [gmObj] at e; done) | (injection e with _ e2 _; subst e2; decide))
  have ao := Bld.obj_kept bz an am (by intro cs X fz e; first | (simp [mapObj] at e; done) | (simp [gmObj] at e; done) | (injection e with _ e2 _; subst e2; decide))
  have am := ao; clear ao
  replace bz := bi
  refine zG (nQ (zS (wQ (ds := [⟨.collected w4.heap.size, #[]⟩]) zk (wF am ?_))))
  intro bt a7
  replace bz := Bld.wrote bz a7 am (by intro cs X fz e; first | (simp [mapObj] at e; done) | (simp [gmObj] at e; done) | (injection e with _ e2 _; subst e2; decide))
  refine vQ [.tmp 2] [(S ac)] rfl ⟨zk, trivial⟩ ?_
  have q := (q.trans bb).trans (a7.below ay)
  exact ⟨congrArg S (by first | rfl | exact ra), q⟩
 intro K c _ x A _ h; exact h.elim
end Go.Proofs.YtddnhlobnembaaaGreatDoor
end

/- === An === -/
section
/- errors.As at a target of type *api.Errno, the error an api.Errno, by its own text: turned to this seat out of the worked example by my program asgen2.py. -/
namespace Go.Proofs.YtddnhlobnembaaaGreatDoor
open Go Go.RowKit Go.Extern.Stop Go.Stop Go.Extern Go.FK
theorem An.valueOf27 (t : Addr) (w : World) : (ReflectliteValue.unpack (.iface 143 (.pointer (some t)))).run Tryz.prog w
  = .ok (.agg #[.pointer (some ⟨7, 143, none⟩), .pointer (some ⟨w.heap.size, 0, none⟩), .int .u64 150]) (w.alloc (.cells #[.pointer (some t)] 143)) := by kernel_rfl
theorem An.type27 (a : Addr) (w : World) : (ReflectliteValue.methodAny (ReflectliteValue.valueError "reflectlite.Value.Type" 0) (fun t _ _ _ => ReflectliteType.toType t) #[.agg #[.pointer (some ⟨7, 143, none⟩), .pointer (some a), .int .u64 150]]).run Tryz.prog w
  = .ok (.iface 180 (.agg #[.pointer (some ⟨7, 143, none⟩)])) w := by kernel_rfl
theorem An.methodKind (h : Value) (w : World) : (Go.method 387 180 (.agg #[h]) "Kind").run Tryz.prog w = .ok (182, h) w := by kernel_rfl
theorem An.kind27 (w : World) : ((ReflectliteType.abiMethod fun t => (fun a : Nat => Value.int IntKind.u8 (a : Int)) <$> Rtype.kind t) #[.pointer (some ⟨7, 143, none⟩)]).run Tryz.prog w = .ok (.int .u8 22) w := by kernel_rfl
theorem An.kind25 (w : World) : ((ReflectliteType.abiMethod fun t => (fun a : Nat => Value.int IntKind.u8 (a : Int)) <$> Rtype.kind t) #[.pointer (some ⟨7, 28, none⟩)]).run Tryz.prog w = .ok (.int .u8 2) w := by kernel_rfl
theorem rlmN (z : Sem Value) (f : TypeId → Addr → Nat → Nat → Sem Value) (v : Value) :
  ReflectliteValue.method z f #[v] = (do match ← ReflectliteValue.parts v with | none => z | some (t, a, fl) => f t a fl (fl % 32)) := rfl
theorem An.parts27 (a : Addr) (w : World) : (ReflectliteValue.parts (.agg #[.pointer (some ⟨7, 143, none⟩), .pointer (some a), .int .u64 150])).run Tryz.prog w = .ok (some (143, a, 150)) w := by kernel_rfl
theorem An.isNil27 (a p : Addr) (W : World) (ha : W.cell? a = some (.pointer (some p))) :
  (ReflectliteValue.method (ReflectliteValue.valueError "reflectlite.Value.IsNil" 0) ReflectliteValue.isNil #[.agg #[.pointer (some ⟨7, 143, none⟩), .pointer (some a), .int .u64 150]]).run Tryz.prog W = .ok (.bool false) W := by
 rw [rlmN]
 simp only [Sem.run_bind, An.parts27, Result.andThen]
 simp [ReflectliteValue.isNil, loadVar, isAgg, underlying, Tryz.underlying143, ha, Result.andThen]
theorem An.methodElem (h : Value) (w : World) : (Go.method 387 180 (.agg #[h]) "Elem").run Tryz.prog w = .ok (208, .agg #[h]) w := by kernel_rfl
theorem An.methodImplements (h : Value) (w : World) : (Go.method 387 180 (.agg #[h]) "Implements").run Tryz.prog w = .ok (209, .agg #[h]) w := by kernel_rfl
theorem An.methodAssignableTo (h : Value) (w : World) : (Go.method 387 180 (.agg #[h]) "AssignableTo").run Tryz.prog w = .ok (206, .agg #[h]) w := by kernel_rfl
theorem An.elem27 (w : World) : (ReflectliteType.method ReflectliteType.elem #[.agg #[.pointer (some ⟨7, 143, none⟩)]]).run Tryz.prog w = .ok (.iface 180 (.agg #[.pointer (some ⟨7, 28, none⟩)])) w := by kernel_rfl
theorem An.implements25 (w : World) : (ReflectliteType.relation "Implements" ReflectliteType.implements_ #[.agg #[.pointer (some ⟨7, 28, none⟩)], .iface 180 (.agg #[.pointer (some ⟨7, 39, none⟩)])]).run Tryz.prog w = .ok (.bool true) w := by kernel_rfl
theorem An.typeOf25 (v : Value) (w : World) : (ReflectliteType.typeOf #[.iface 28 v]).run Tryz.prog w = .ok (.iface 180 (.agg #[.pointer (some ⟨7, 28, none⟩)])) w := by kernel_rfl
theorem An.assignable25 (w : World) : (ReflectliteType.relation "AssignableTo" ReflectliteType.assignableTo #[.agg #[.pointer (some ⟨7, 28, none⟩)], .iface 180 (.agg #[.pointer (some ⟨7, 28, none⟩)])]).run Tryz.prog w = .ok (.bool true) w := by kernel_rfl
theorem An.valueOf25 (e : Int) (w : World) : (ReflectliteValue.unpack (.iface 28 (.int .i64 e))).run Tryz.prog w
  = .ok (.agg #[.pointer (some ⟨7, 28, none⟩), .pointer (some ⟨w.heap.size, 0, none⟩), .int .u64 130]) (w.alloc (.cells #[.int .i64 e] 28)) := by kernel_rfl
theorem An.elemOf27 (w : World) : (Rtype.elem? 143).run Tryz.prog w = .ok (some 28) w := by kernel_rfl
theorem An.mk25 (p : Addr) (w : World) : (ReflectliteValue.mk 28 p ReflectliteValue.flagAddr).run Tryz.prog w = .ok (.agg #[.pointer (some ⟨7, 28, none⟩), .pointer (some p), .int .u64 386]) w := by kernel_rfl
theorem An.elemV27 (a p : Addr) (W : World) (ha : W.cell? a = some (.pointer (some p))) :
  (ReflectliteValue.method (ReflectliteValue.valueError "reflectlite.Value.Elem" 0) ReflectliteValue.elem #[.agg #[.pointer (some ⟨7, 143, none⟩), .pointer (some a), .int .u64 150]]).run Tryz.prog W
   = .ok (.agg #[.pointer (some ⟨7, 28, none⟩), .pointer (some p), .int .u64 386]) W := by
 rw [rlmN]
 simp only [Sem.run_bind, An.parts27, Result.andThen]
 simp [ReflectliteValue.elem, loadVar, isAgg, underlying, Tryz.underlying143, ha, Result.andThen, An.elemOf27, An.mk25]
theorem rlsN (v x : Value) : ReflectliteValue.set #[v, x] = (do
  let (some (dst, a, fl), some (src, b, _)) := (← ReflectliteValue.parts v, ← ReflectliteValue.parts x)
   | unsupported (.noEntry "extern/(internal/reflectlite.Value).Set.zeroValue")
  if fl / ReflectliteValue.flagAddr % 2 == 0 then unsupported (.noEntry "extern/(internal/reflectlite.Value).Set.unaddressable")
  let val ← loadVar src b
  if ← Rtype.directlyAssignable dst src then storeVar dst a val
  else if ← Rtype.implements dst src then
   if (← Rtype.kind src) == 20 then
    match val with
    | .nilIface => unsupported (.noEntry "extern/reflectlite: a nil value of one interface type handed on as a value of another")
    | _ => storeVar dst a val
   else storeVar dst a (.iface src val)
  else panicString ("reflectlite.Set: value of type " ++ (← Rtype.spelt src) ++ " is not assignable to type " ++ (← Rtype.spelt dst))
  pure (.tuple #[])) := rfl
theorem An.parts25a (a : Addr) (w : World) : (ReflectliteValue.parts (.agg #[.pointer (some ⟨7, 28, none⟩), .pointer (some a), .int .u64 386])).run Tryz.prog w = .ok (some (28, a, 386)) w := by kernel_rfl
theorem An.parts25 (a : Addr) (w : World) : (ReflectliteValue.parts (.agg #[.pointer (some ⟨7, 28, none⟩), .pointer (some a), .int .u64 130])).run Tryz.prog w = .ok (some (28, a, 130)) w := by kernel_rfl
theorem An.direct25 (w : World) : (Rtype.directlyAssignable 28 28).run Tryz.prog w = .ok true w := by kernel_rfl
theorem An.set25 (ta b : Addr) (e : Int) (old : Value) (W : World) (hb : W.cell? b = some (.int .i64 e)) (ht : W.cell? ta = some old) (hf : W.frozen? ta = false) :
  (ReflectliteValue.set #[.agg #[.pointer (some ⟨7, 28, none⟩), .pointer (some ta), .int .u64 386], .agg #[.pointer (some ⟨7, 28, none⟩), .pointer (some b), .int .u64 130]]).run Tryz.prog W
   = .ok (.tuple #[]) (W.setCell ta (.int .i64 e)) := by
 rw [rlsN]
 simp only [Sem.run_bind, An.parts25a, An.parts25, Result.andThen]
 simp [ReflectliteValue.flagAddr, loadVar, isAgg, underlying, Tryz.underlying28, hb, Result.andThen, An.direct25, storeVar, Value.cells, storeCells, Addr.add]
 rw [run_store Tryz.prog W ta _ _ (by rfl)]
 simp [ht, hf]
set_option maxHeartbeats 4000000 in
theorem an_hit (e : Int) (t : Addr) (old : Value) (w : World) (hg : w.cell? ⟨0, 0, none⟩ = some (.iface 180 (.agg #[.pointer (some ⟨7, 39, none⟩)]))) (ht0 : w.cell? t = some old) (hf0 : w.frozen? t = false) :
  Calls Tryz.prog 49 #[.iface 28 (.int .i64 e), .iface 143 (.pointer (some t))] w fun ev w' => ev = .returned (.bool true) ∧ w' = ((((w.alloc (.cells #[.pointer (some t)] 143)).alloc (.cells #[.pointer (some ⟨7, 143, none⟩), .pointer (some ⟨w.heap.size, 0, none⟩), .int .u64 150] 156)).alloc (.cells #[.pointer (some ⟨7, 143, none⟩), .pointer (some ⟨w.heap.size, 0, none⟩), .int .u64 150] 156)).alloc (.cells #[.int .i64 e] 28)).setCell t (.int .i64 e) := by
 have r := @run_callFunc_extern Tryz.prog 88 _ (fun args => ReflectliteValue.unpack (args.getD 0 (.tuple #[]))) Tryz.func88 (by kernel_rfl) (by kernel_rfl) (by kernel_rfl) (by kernel_rfl)
 have s := @run_callFunc_extern Tryz.prog 89 _ (ReflectliteValue.methodAny (ReflectliteValue.valueError "reflectlite.Value.Type" 0) (fun t _ _ _ => ReflectliteType.toType t)) Tryz.func89 (by kernel_rfl) (by kernel_rfl) (by kernel_rfl) (by kernel_rfl)
 have v := @run_callFunc_extern Tryz.prog 90 _ (ReflectliteValue.method (ReflectliteValue.valueError "reflectlite.Value.IsNil" 0) ReflectliteValue.isNil) Tryz.func90 (by kernel_rfl) (by kernel_rfl) (by kernel_rfl) (by kernel_rfl)
 have j := @run_callFunc_extern Tryz.prog 182 _ (ReflectliteType.abiMethod fun t => do pure (.int .u8 (← Rtype.kind t))) Tryz.func182 (by kernel_rfl) (by kernel_rfl) (by kernel_rfl) (by kernel_rfl)
 have i := @run_callFunc_extern Tryz.prog 208 _ (ReflectliteType.method ReflectliteType.elem) Tryz.func208 (by kernel_rfl) (by kernel_rfl) (by kernel_rfl) (by kernel_rfl)
 have d := @run_callFunc_extern Tryz.prog 209 _ (ReflectliteType.relation "Implements" ReflectliteType.implements_) Tryz.func209 (by kernel_rfl) (by kernel_rfl) (by kernel_rfl) (by kernel_rfl)
 have n := @run_callFunc_extern Tryz.prog 92 _ ReflectliteType.typeOf Tryz.func92 (by kernel_rfl) (by kernel_rfl) (by kernel_rfl) (by kernel_rfl)
 have a := @run_callFunc_extern Tryz.prog 206 _ (ReflectliteType.relation "AssignableTo" ReflectliteType.assignableTo) Tryz.func206 (by kernel_rfl) (by kernel_rfl) (by kernel_rfl) (by kernel_rfl)
 have k := @run_callFunc_extern Tryz.prog 110 _ (ReflectliteValue.method (ReflectliteValue.valueError "reflectlite.Value.Elem" 0) ReflectliteValue.elem) Tryz.func110 (by kernel_rfl) (by kernel_rfl) (by kernel_rfl) (by kernel_rfl)
 have l := @run_callFunc_extern Tryz.prog 111 _ ReflectliteValue.set Tryz.func111 (by kernel_rfl) (by kernel_rfl) (by kernel_rfl) (by kernel_rfl)
 have tO := An.typeOf25
 have mA := An.methodAssignableTo
 have b := An.assignable25
 have o := An.valueOf25
 have z := An.valueOf27
 have y := An.type27
 have mK := An.methodKind
 have mE := An.methodElem
 have mI := An.methodImplements
 have q := An.kind27
 have m := An.kind25
 have p := An.elem27
 have f := An.implements25
 have u := An.isNil27 ⟨w.heap.size, 0, none⟩ t ((w.alloc (.cells #[.pointer (some t)] 143)).alloc (.cells #[.pointer (some ⟨7, 143, none⟩), .pointer (some ⟨w.heap.size, 0, none⟩), .int .u64 150] 156)) (by simp)
 have hlt : 0 < w.heap.size := by
  rcases Nat.eq_zero_or_pos w.heap.size with g | h
  ·simp [World.cell?, g] at hg
  ·exact h
 have c : ((w.alloc (.cells #[.pointer (some t)] 143)).alloc (.cells #[.pointer (some ⟨7, 143, none⟩), .pointer (some ⟨w.heap.size, 0, none⟩), .int .u64 150] 156)).cell? ⟨0, 0, none⟩ = some (.iface 180 (.agg #[.pointer (some ⟨7, 39, none⟩)])) := by
  rw [World.cell?_alloc_lt _ _ ⟨0, 0, none⟩ (by simp), World.cell?_alloc_lt _ _ ⟨0, 0, none⟩ hlt]; exact hg
 have htl : t.block < w.heap.size := by
  rcases Nat.lt_or_ge t.block w.heap.size with h | h
  ·exact h
  ·simp [World.cell?, Array.getElem?_eq_none h] at ht0
 have el := An.elemV27 ⟨w.heap.size, 0, none⟩ t (((w.alloc (.cells #[.pointer (some t)] 143)).alloc (.cells #[.pointer (some ⟨7, 143, none⟩), .pointer (some ⟨w.heap.size, 0, none⟩), .int .u64 150] 156)).alloc (.cells #[.pointer (some ⟨7, 143, none⟩), .pointer (some ⟨w.heap.size, 0, none⟩), .int .u64 150] 156)) (by rw [World.cell?_alloc_lt _ _ ⟨w.heap.size, 0, none⟩ (by simp; omega)]; simp)
 have st := An.set25 t ⟨w.heap.size + 1 + 1 + 1, 0, none⟩ e old ((((w.alloc (.cells #[.pointer (some t)] 143)).alloc (.cells #[.pointer (some ⟨7, 143, none⟩), .pointer (some ⟨w.heap.size, 0, none⟩), .int .u64 150] 156)).alloc (.cells #[.pointer (some ⟨7, 143, none⟩), .pointer (some ⟨w.heap.size, 0, none⟩), .int .u64 150] 156)).alloc (.cells #[.int .i64 e] 28))
  (by rw [World.cell?_alloc_at _ _ _ _ (by simp)]; rfl)
  (by rw [World.cell?_alloc_lt _ _ t (by simp; omega), World.cell?_alloc_lt _ _ t (by simp; omega), World.cell?_alloc_lt _ _ t (by simp; omega), World.cell?_alloc_lt _ _ t htl]; exact ht0)
  (by rw [World.frozen?_alloc_old _ _ t (by simp; omega), World.frozen?_alloc_old _ _ t (by simp; omega), World.frozen?_alloc_old _ _ t (by simp; omega), World.frozen?_alloc_old _ _ t (Nat.ne_of_lt htl)]; exact hf0)
 go_enter Tryz.func49, Tryz.ntmps49
 go_wp2
 refine wp_loop_rounds 1 ?_
 rw [rounds_succ]
 go_wp2
 go_ret
 exact ⟨rfl, rfl⟩
theorem an_fk (e : Int) (t : Nat) (old : Value) (w : World) (hg : w.cell? ⟨0, 0, none⟩ = some (.iface 180 (.agg #[.pointer (some ⟨7, 39, none⟩)]))) (ht : w.heap[t]? = some (.cells [old].toArray 28 (0, 0))) :
  Calls Tryz.prog 49 #[.iface 28 (.int .i64 e), .iface 143 (.pointer (some ⟨t, 0, none⟩))] w (Ret fun v w' => v = .bool true ∧ ∃ w1, Below w.heap.size w w1 ∧ Wrote w1 w' t (.cells [.int .i64 e].toArray 28 (0, 0))) := by
 have hc : w.cell? ⟨t, 0, none⟩ = some old := by simp [World.cell?, ht]
 have hf : w.frozen? ⟨t, 0, none⟩ = false := by simp [World.frozen?, ht]
 refine (an_hit e ⟨t, 0, none⟩ old w hg hc hf).mono ?_
 rintro ev w' ⟨rfl, rfl⟩
 have hlt := yA ht
 have hb : Below w.heap.size w ((((w.alloc (.cells #[.pointer (some ⟨t, 0, none⟩)] 143)).alloc (.cells #[.pointer (some ⟨7, 143, none⟩), .pointer (some ⟨w.heap.size, 0, none⟩), .int .u64 150] 156)).alloc (.cells #[.pointer (some ⟨7, 143, none⟩), .pointer (some ⟨w.heap.size, 0, none⟩), .int .u64 150] 156)).alloc (.cells #[.int .i64 e] 28)) :=
  ((((Below.refl _ _).alloc (Nat.le_refl _) _).alloc (by simp) _).alloc (by simp; omega) _).alloc (by simp; omega) _
 have a := zA ht hb
 refine ⟨_, rfl, rfl, _, hb, ⟨rfl, rfl, rfl, by simp [World.setCell], ?_, fun k hk => Below.heap_setCell _ _ _ _ hk⟩⟩
 generalize (((w.alloc _).alloc _).alloc _).alloc _ = w4 at a ⊢
 obtain ⟨b, c⟩ := Array.getElem?_eq_some_iff.1 a
 show (w4.heap.modify t _)[t]? = _
 rw [Array.getElem?_eq_getElem (by rw [Array.size_modify]; exact b), Array.getElem_modify_self, c]
 simp
end Go.Proofs.YtddnhlobnembaaaGreatDoor
end
