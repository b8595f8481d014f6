/- Joined by my program pack2.py out of my own texts: Wcr7 As IsF Wclr. -/
import Derived.Test.YtkclikfejmeblaaGreatDoorProg
import Derived.Tactics2
import Derived.WalkKit
import Derived.LaidEql
import Derived.Stop.Asserts
import Derived.RowKitTokens
import Derived.BigFrame
import Derived.Test.YtkclikfejmeblaaGreatDoorR1
import Derived.Test.YtkclikfejmeblaaGreatDoorR2
import Derived.Test.YtkclikfejmeblaaGreatDoorR3
import Derived.Test.YtkclikfejmeblaaGreatDoorR4
import Derived.Test.YtkclikfejmeblaaGreatDoorR5
set_option linter.unusedVariables false
set_option linter.unusedSimpArgs false
/- === Wcr7 === -/
section
/- Walks, written by my program walk.py out of the specification cr7.py: each theorem says what one function returns and that it leaves memory as it was. -/
namespace Go.Proofs.YtkclikfejmeblaaGreatDoor
open Go Go.RowKit Go.FK _root_.Go.Proofs.Tryz
set_option maxHeartbeats 4000000
set_option maxRecDepth 100000
theorem el96 : Elem Tryz.prog 96 100 5 24 := ⟨underlying96, zk, rfl⟩
theorem c_ref03_Read_ok (s : List UInt8) (w : World) (hs : s.length ≤ 1073741820) (hok : (badL (toldF s)).2 = 0) :
  Calls Tryz.prog 49 #[(S s)] w (Ret fun v w' => ∃ (l0 : List LineV) (q0 : Value), v = (.tuple #[q0, (I6 0), (I6 0)]) ∧ NRow 9 w' w.heap.size 72 5 encLine q0 l0 ∧ l0.map stripL = linesF (toldF s) ∧ l0.length ≤ 1073741824 ∧ (∀ x ∈ l0, x.fs.length ≤ 1073741824) ∧ Below w.heap.size w w') := by
 refine wJ 41 func49 rfl ?_
 have o := Below.refl w.heap.size w
 have az := pcsR_len s
 refine wR (zH (zH (zH (nR (zH (nW (wR (zD (zc (c_furrowref03_Pieces s _ zo) ?_)))))))))
 rintro q1 w2 ⟨_, rfl, c, ao⟩
 have c := c.base o.size
 refine vY underlying136 (c.rd).len (zD (nQ (zW ?_)))
 have o := o.tr ao
 refine xA (fun m s0 w0 => ∃ (k : Nat) (r : List LineV) (z : Value), (m = (pcsR s).length - k) ∧ (s0.ds = []) ∧ ([0, 11, 12, 5, 13].map s0.f = [(S s), q1, (N6 ((pcsR s).length)), z, (N6 k)]) ∧ (Row w0 w.heap.size 139 3 encPcN q1 (pcsR s)) ∧ (NRow 9 w0 w.heap.size 72 5 encLine z r) ∧ (Below w.heap.size w w0) ∧ (k ≤ (pcsR s).length) ∧ (r.length = k) ∧ (r.map stripL = linesF ((toldF s).take k))) _ ⟨0, [], (.slice none 0 0), rfl, zk, zk, c, NRow.nil _ _ _ _ _ _, o, (Nat.zero_le _), rfl, rfl⟩ ?_
 rintro m5 s6 w7 ⟨k, r, z, hm, ag, aj, c, g, o, i1, i2, i3⟩
 refine yX aj (wR (nLt k ((pcsR s).length) ?_ ?_))
 ·intro h8
  refine nW (zT (zK (zB (yA (zW (wR (zD ?_)))))))
  have hz := zX (pcsR s) k zo; obtain ⟨a, aa⟩ := hz
  have ap := pcsR_ok aa
  have am : (List.drop a.1 (List.take a.2.1 s)).length = a.2.1 - a.1 := by simp only [List.length_drop, List.length_take]; omega
  have ak := ok_at hok aa
  refine zEA c.rd el136 k aa [(N6 a.1), (N6 a.2.1), (N6 a.2.2)] rfl fun _ => (zN [(I6 0), (I6 0), (I6 0)] 139 ?_)
  intro av ay n
  have ae := n.ge o.size
  have l := c.new_ne n
  have p := n.here
  refine zH (qQ [(N6 a.1), (N6 a.2.1), (N6 a.2.2)] p ?_)
  intro au u
  have g := g.below n.below
  have g := g.wrote u (g.ne p zi)
  have p := u.here
  refine nR (zD (xN k 1 (zD (wB 0 p rfl (wB 1 p rfl (L_sslice s a.1 a.2.1 underlying9 zk ⟨.i64, zk⟩ ⟨.i64, zk⟩ zo zo (zc (c_furrowref03_Scan (((k + 1) : Nat) : Int) (List.drop a.1 (List.take a.2.1 s)) _ zo) ?_)))))))
  rintro _ a2 ⟨y, rfl, b, ab⟩
  have o := (o.tr n.below).trans (u.below ae)
  have b := b.base o.size
  have := scan_err (((k + 1) : Nat) : Int) (List.drop a.1 (List.take a.2.1 s))
  refine zD (zr (Value.agg #[(I6 ((scanF (((k + 1) : Nat) : Int) (List.drop a.1 (List.take a.2.1 s))).1.1)), (U8 ((scanF (((k + 1) : Nat) : Int) (List.drop a.1 (List.take a.2.1 s))).1.2.1)), (S ((scanF (((k + 1) : Nat) : Int) (List.drop a.1 (List.take a.2.1 s))).1.2.2.1)), y, (S ((scanF (((k + 1) : Nat) : Int) (List.drop a.1 (List.take a.2.1 s))).1.2.2.2.2))]) (zr (I6 ((scanF (((k + 1) : Nat) : Int) (List.drop a.1 (List.take a.2.1 s))).2)) (zN [(I6 0), (U8 0), (S []), (.slice none 0 0), (S [])] 72 ?_)))
  intro an a1 i
  have o := o.tr ab
  have ad := i.ge o.size
  have g := g.below ab
  have d := g.new_ne i
  have h := i.here
  have b := b.below i.below
  refine xU an 0 [(I6 ((scanF (((k + 1) : Nat) : Int) (List.drop a.1 (List.take a.2.1 s))).1.1)), (U8 ((scanF (((k + 1) : Nat) : Int) (List.drop a.1 (List.take a.2.1 s))).1.2.1)), (S ((scanF (((k + 1) : Nat) : Int) (List.drop a.1 (List.take a.2.1 s))).1.2.2.1)), y, (S ((scanF (((k + 1) : Nat) : Int) (List.drop a.1 (List.take a.2.1 s))).1.2.2.2.2))] [(I6 0), (U8 0), (S []), (.slice none 0 0), (S [])] [(I6 ((scanF (((k + 1) : Nat) : Int) (List.drop a.1 (List.take a.2.1 s))).1.1)), (U8 ((scanF (((k + 1) : Nat) : Int) (List.drop a.1 (List.take a.2.1 s))).1.2.1)), (S ((scanF (((k + 1) : Nat) : Int) (List.drop a.1 (List.take a.2.1 s))).1.2.2.1)), y, (S ((scanF (((k + 1) : Nat) : Int) (List.drop a.1 (List.take a.2.1 s))).1.2.2.2.2))] 72 zk zk (yZ rfl (yZ rfl (yZ rfl (yZ b.one (yZ rfl rfl))))) zk h zk rfl ?_
  intro a0 q
  have c := (((c.below n.below).wrote u l).below ab).below i.below
  have c := c.wrote q (c.ne h zi)
  have b := b.wrote q (b.ne h zi)
  have h := q.here
  refine zH (nW (wR (zD (zNe .i64 ((scanF (((k + 1) : Nat) : Int) (List.drop a.1 (List.take a.2.1 s))).2) 0 ?_ ?_))))
  ·intro ax
   exfalso; omega
  intro aw
  have o := (o.tr i.below).trans (q.below ad)
  have g := (g.below i.below).wrote q d
  refine nQ (zF (zK (zB (zP (zD (vT h (wH el58 w.heap.size z r ((scanF (((k + 1) : Nat) : Int) (List.drop a.1 (List.take a.2.1 s))).1.1, (scanF (((k + 1) : Nat) : Int) (List.drop a.1 (List.take a.2.1 s))).1.2.1, (scanF (((k + 1) : Nat) : Int) (List.drop a.1 (List.take a.2.1 s))).1.2.2.1, (y, (scanF (((k + 1) : Nat) : Int) (List.drop a.1 (List.take a.2.1 s))).1.2.2.2.1), (scanF (((k + 1) : Nat) : Int) (List.drop a.1 (List.take a.2.1 s))).1.2.2.2.2) o.size g.1 zo zk rfl (yZ rfl (yZ rfl (yZ rfl (yZ b.one (yZ rfl rfl))))) zk rfl zk zk ?_)))))))
  intro ai ar ah t ac
  have j := wZ ac (fun e => d (.inl e)) (yL h)
  have j := nbN_push (x := ((scanF (((k + 1) : Nat) : Int) (List.drop a.1 (List.take a.2.1 s))).1.1, (scanF (((k + 1) : Nat) : Int) (List.drop a.1 (List.take a.2.1 s))).1.2.1, (scanF (((k + 1) : Nat) : Int) (List.drop a.1 (List.take a.2.1 s))).1.2.2.1, (y, (scanF (((k + 1) : Nat) : Int) (List.drop a.1 (List.take a.2.1 s))).1.2.2.2.1), (scanF (((k + 1) : Nat) : Int) (List.drop a.1 (List.take a.2.1 s))).1.2.2.2.2)) d j (b.ne h zi)
  have o := o.tg o.size t g.1
  have c := c.grown t (c.apart g.1 zk)
  have b := b.grown t (b.apart g.1 zk)
  have d := j
  have g := NRow.push g t ah b zk
  refine zH (zQ (zJ (zB (zP (xN k 1 (zD (zQ (zB ⟨_, zo, (k + 1), (r ++ [((scanF (((k + 1) : Nat) : Int) (List.drop a.1 (List.take a.2.1 s))).1.1, (scanF (((k + 1) : Nat) : Int) (List.drop a.1 (List.take a.2.1 s))).1.2.1, (scanF (((k + 1) : Nat) : Int) (List.drop a.1 (List.take a.2.1 s))).1.2.2.1, (y, (scanF (((k + 1) : Nat) : Int) (List.drop a.1 (List.take a.2.1 s))).1.2.2.2.1), (scanF (((k + 1) : Nat) : Int) (List.drop a.1 (List.take a.2.1 s))).1.2.2.2.2)]), ai, rfl, ag, zk, c, g, o, zo, ?_, ?_⟩))))))))
  ·simp only [List.length_append, List.length_cons, List.length_nil]; omega
  exact lines_at za i3 rfl
 intro a3
 exact nW (zF (yU (zS (zS (yF (zB (wR (zD (zH (zH (zH (nQ (zR (zZ [z, (I6 0), (I6 0)] (hd := ag) ⟨r, z, rfl, g, (by rw [i3, told_take zo]), (by (have hz := lines_len i3; rw [told_take zo] at hz; have hy := Zm s; omega)), (by (rw [told_take zo] at i3; exact fs_len i3 zo)), o⟩))))))))))))))
theorem c_ref03_Read_bad (s : List UInt8) (w : World) (hs : s.length ≤ 1073741820) (hbad : (badL (toldF s)).2 ≠ 0) :
  Calls Tryz.prog 49 #[(S s)] w (Ret fun v w' => v = (.tuple #[(.slice none 0 0), (I6 ((badL (toldF s)).1)), (I6 ((badL (toldF s)).2))]) ∧ Below w.heap.size w w') := by
 refine wJ 41 func49 rfl ?_
 have l := Below.refl w.heap.size w
 have az := pcsR_len s
 refine wR (zH (zH (zH (nR (zH (nW (wR (zD (zc (c_furrowref03_Pieces s _ zo) ?_)))))))))
 rintro q1 w2 ⟨_, rfl, c, am⟩
 have c := c.base l.size
 refine vY underlying136 (c.rd).len (zD (nQ (zW ?_)))
 have l := l.tr am
 refine xA (fun m s0 w0 => ∃ (k : Nat) (z : List LineV) (aa : Value), (m = (pcsR s).length - k) ∧ (s0.ds = []) ∧ ([0, 11, 12, 5, 13].map s0.f = [(S s), q1, (N6 ((pcsR s).length)), aa, (N6 k)]) ∧ (Row w0 w.heap.size 139 3 encPcN q1 (pcsR s)) ∧ (NRow 9 w0 w.heap.size 72 5 encLine aa z) ∧ (Below w.heap.size w w0) ∧ (k ≤ (pcsR s).length) ∧ (z.length = k) ∧ ((badL ((toldF s).take k)).2 = 0)) _ ⟨0, [], (.slice none 0 0), rfl, zk, zk, c, NRow.nil _ _ _ _ _ _, l, (Nat.zero_le _), rfl, rfl⟩ ?_
 rintro m5 s6 w7 ⟨k, z, aa, hm, af, aj, c, g, l, i1, i2, i3⟩
 refine yX aj (wR (nLt k ((pcsR s).length) ?_ ?_))
 ·intro h8
  refine nW (zT (zK (zB (yA (zW (wR (zD ?_)))))))
  have hz := zX (pcsR s) k zo; obtain ⟨a, ab⟩ := hz
  have an := pcsR_ok ab
  have ak : (List.drop a.1 (List.take a.2.1 s)).length = a.2.1 - a.1 := by simp only [List.length_drop, List.length_take]; omega
  refine zEA c.rd el136 k ab [(N6 a.1), (N6 a.2.1), (N6 a.2.2)] rfl fun _ => (zN [(I6 0), (I6 0), (I6 0)] 139 ?_)
  intro au ax o
  have ae := o.ge l.size
  have n := c.new_ne o
  have q := o.here
  refine zH (qQ [(N6 a.1), (N6 a.2.1), (N6 a.2.2)] q ?_)
  intro ar t
  have g := g.below o.below
  have g := g.wrote t (g.ne q zi)
  have q := t.here
  refine nR (zD (xN k 1 (zD (wB 0 q rfl (wB 1 q rfl (L_sslice s a.1 a.2.1 underlying9 zk ⟨.i64, zk⟩ ⟨.i64, zk⟩ zo zo (zc (c_furrowref03_Scan (((k + 1) : Nat) : Int) (List.drop a.1 (List.take a.2.1 s)) _ zo) ?_)))))))
  rintro _ a2 ⟨u, rfl, b, y⟩
  have l := (l.tr o.below).trans (t.below ae)
  have b := b.base l.size
  have := scan_err (((k + 1) : Nat) : Int) (List.drop a.1 (List.take a.2.1 s))
  refine zD (zr (Value.agg #[(I6 ((scanF (((k + 1) : Nat) : Int) (List.drop a.1 (List.take a.2.1 s))).1.1)), (U8 ((scanF (((k + 1) : Nat) : Int) (List.drop a.1 (List.take a.2.1 s))).1.2.1)), (S ((scanF (((k + 1) : Nat) : Int) (List.drop a.1 (List.take a.2.1 s))).1.2.2.1)), u, (S ((scanF (((k + 1) : Nat) : Int) (List.drop a.1 (List.take a.2.1 s))).1.2.2.2.2))]) (zr (I6 ((scanF (((k + 1) : Nat) : Int) (List.drop a.1 (List.take a.2.1 s))).2)) (zN [(I6 0), (U8 0), (S []), (.slice none 0 0), (S [])] 72 ?_)))
  intro al a1 h
  have l := l.tr y
  have ac := h.ge l.size
  have g := g.below y
  have d := g.new_ne h
  have i := h.here
  have b := b.below h.below
  refine xU al 0 [(I6 ((scanF (((k + 1) : Nat) : Int) (List.drop a.1 (List.take a.2.1 s))).1.1)), (U8 ((scanF (((k + 1) : Nat) : Int) (List.drop a.1 (List.take a.2.1 s))).1.2.1)), (S ((scanF (((k + 1) : Nat) : Int) (List.drop a.1 (List.take a.2.1 s))).1.2.2.1)), u, (S ((scanF (((k + 1) : Nat) : Int) (List.drop a.1 (List.take a.2.1 s))).1.2.2.2.2))] [(I6 0), (U8 0), (S []), (.slice none 0 0), (S [])] [(I6 ((scanF (((k + 1) : Nat) : Int) (List.drop a.1 (List.take a.2.1 s))).1.1)), (U8 ((scanF (((k + 1) : Nat) : Int) (List.drop a.1 (List.take a.2.1 s))).1.2.1)), (S ((scanF (((k + 1) : Nat) : Int) (List.drop a.1 (List.take a.2.1 s))).1.2.2.1)), u, (S ((scanF (((k + 1) : Nat) : Int) (List.drop a.1 (List.take a.2.1 s))).1.2.2.2.2))] 72 zk zk (yZ rfl (yZ rfl (yZ rfl (yZ b.one (yZ rfl rfl))))) zk i zk rfl ?_
  intro a0 p
  have c := (((c.below o.below).wrote t n).below y).below h.below
  have c := c.wrote p (c.ne i zi)
  have b := b.wrote p (b.ne i zi)
  have i := p.here
  refine zH (nW (wR (zD (zNe .i64 ((scanF (((k + 1) : Nat) : Int) (List.drop a.1 (List.take a.2.1 s))).2) 0 ?_ ?_))))
  ·intro aw
   have l := (l.tr h.below).trans (p.below ac)
   exact nQ (zT (wR (zD (xN k 1 (zD (zH (zH (zH (nQ (zR (zG (zL (zG (zG (zL (zG (zZ [(.slice none 0 0), (N6 (k + 1)), (I6 ((scanF (((k + 1) : Nat) : Int) (List.drop a.1 (List.take a.2.1 s))).2))] (hd := af) ⟨Zj rfl (e6 (by (rw [bad_here za i3 zo]; done))) (e6 (by (rw [bad_here za i3 zo]; done))), l⟩)))))))))))))))))
  intro av
  have l := (l.tr h.below).trans (p.below ac)
  have g := (g.below h.below).wrote p d
  refine nQ (zF (zK (zB (zP (zD (vT i (wH el58 w.heap.size aa z ((scanF (((k + 1) : Nat) : Int) (List.drop a.1 (List.take a.2.1 s))).1.1, (scanF (((k + 1) : Nat) : Int) (List.drop a.1 (List.take a.2.1 s))).1.2.1, (scanF (((k + 1) : Nat) : Int) (List.drop a.1 (List.take a.2.1 s))).1.2.2.1, (u, (scanF (((k + 1) : Nat) : Int) (List.drop a.1 (List.take a.2.1 s))).1.2.2.2.1), (scanF (((k + 1) : Nat) : Int) (List.drop a.1 (List.take a.2.1 s))).1.2.2.2.2) l.size g.1 zo zk rfl (yZ rfl (yZ rfl (yZ rfl (yZ b.one (yZ rfl rfl))))) zk rfl zk zk ?_)))))))
  intro ai aq ag r ad
  have j := wZ ad (fun e => d (.inl e)) (yL i)
  have j := nbN_push (x := ((scanF (((k + 1) : Nat) : Int) (List.drop a.1 (List.take a.2.1 s))).1.1, (scanF (((k + 1) : Nat) : Int) (List.drop a.1 (List.take a.2.1 s))).1.2.1, (scanF (((k + 1) : Nat) : Int) (List.drop a.1 (List.take a.2.1 s))).1.2.2.1, (u, (scanF (((k + 1) : Nat) : Int) (List.drop a.1 (List.take a.2.1 s))).1.2.2.2.1), (scanF (((k + 1) : Nat) : Int) (List.drop a.1 (List.take a.2.1 s))).1.2.2.2.2)) d j (b.ne i zi)
  have l := l.tg l.size r g.1
  have c := c.grown r (c.apart g.1 zk)
  have b := b.grown r (b.apart g.1 zk)
  have d := j
  have g := NRow.push g r ag b zk
  refine zH (zQ (zJ (zB (zP (xN k 1 (zD (zQ (zB ⟨_, zo, (k + 1), (z ++ [((scanF (((k + 1) : Nat) : Int) (List.drop a.1 (List.take a.2.1 s))).1.1, (scanF (((k + 1) : Nat) : Int) (List.drop a.1 (List.take a.2.1 s))).1.2.1, (scanF (((k + 1) : Nat) : Int) (List.drop a.1 (List.take a.2.1 s))).1.2.2.1, (u, (scanF (((k + 1) : Nat) : Int) (List.drop a.1 (List.take a.2.1 s))).1.2.2.2.1), (scanF (((k + 1) : Nat) : Int) (List.drop a.1 (List.take a.2.1 s))).1.2.2.2.2)]), ai, rfl, af, zk, c, g, l, zo, ?_, ?_⟩))))))))
  ·simp only [List.length_append, List.length_cons, List.length_nil]; omega
  exact bad_on za i3 zo
 intro ao
 exfalso; exact hbad (by rw [← told_take ao]; exact i3)
theorem c_ref07_plain (x : Int) (w : World) :
  Calls Tryz.prog 53 #[(I3 x)] w (Ret fun v w' => v = (I3 (plainF x)) ∧ Below w.heap.size w w') := by
 refine wJ 10 func53 rfl ?_
 have a := Below.refl w.heap.size w
 refine wR (zH (nW (wR (zD (zLt .i32 x 0 ?_ ?_)))))
 ·intro e
  exact zD (zs (zs (xJ (nQ (zT (wR (zH (nQ (zR (zG (zZ [(I3 65533)] ⟨e3 (by exact plain_y zo), a⟩)))))))))))
 intro d
 refine zD (zw (zD (zw (zGt .i32 x 1114111 ?_ ?_))))
 ·intro c
  exact xF (nQ (zT (wR (zH (nQ (zR (zG (zZ [(I3 65533)] ⟨e3 (by exact plain_y zo), a⟩))))))))
 intro b
 exact xF (nQ (zF (zK (zB (wR (zD (zH (nQ (zR (zZ [(I3 x)] ⟨e3 (by exact plain_n zo zo), a⟩))))))))))
theorem c_ref07_Given (c : Nat) (b : Value) (rows : List (Int × Int × Int × Int × Bool)) (x : Int) (w : World) (d : w.heap[c]? = some (.cells [b].toArray 98 (0, 0))) (a : Rd w encRow7 b rows) (hn : rows.length ≤ 1073741824) :
  Calls Tryz.prog 21 #[(pt c 0), (I3 x)] w (Ret fun v w' => v = (.tuple #[(U8 ((givenF rows (plainF x)).1)), (I6 ((givenF rows (plainF x)).2))]) ∧ Below w.heap.size w w') := by
 refine wJ 69 func21 rfl ?_
 have n := Below.refl w.heap.size w
 refine wR (zH (zH (nR (zD (zc (c_ref07_plain x _ ) ?_)))))
 rintro _ w1 ⟨rfl, u⟩
 refine zH (nW (wR (zH (nQ (zW ?_)))))
 have n := n.tr u
 have d := zC d u
 have a := a.below u
 refine xA (fun m s0 w0 => ∃ (i : Nat), (m = rows.length - i) ∧ (s0.ds = []) ∧ ([0, 1, 6].map s0.f = [(pt c 0), (I3 (plainF x)), (N6 i)]) ∧ (Rd w0 encRow7 b rows) ∧ (w0.heap[c]? = some (.cells [b].toArray 98 (0, 0))) ∧ (Below w.heap.size w w0) ∧ (i ≤ rows.length) ∧ (gvI rows (plainF x) i)) _ ⟨0, rfl, zk, zk, a, d, n, (Nat.zero_le _), (gv_zero _ _)⟩ ?_
 rintro m4 s5 w6 ⟨i, hm, o, aj, a, d, n, i1, z⟩
 refine yX aj (yA (wR (zD (zD (zr (pt c 0) (wB 0 d rfl (vY underlying96 (a).len (nLt i ((rows).length) ?_ ?_))))))))
 ·intro h7
  refine nQ (zT (zK (zB (yA (zW (wR (zD (zr (pt c 0) (wB 0 d rfl (zD ?_))))))))))
  have p := zX rows i zo; obtain ⟨r, l⟩ := p
  refine zE a el96 i l 4 rfl fun _ _ => (yT r.2.2.2.2 ?_ ?_)
  ·intro aq
   refine qO true (zD (zs (zs (zs (zs (zs (zs (zs (zs (zs (zs (zs (xF (zD (zs (zs (zs (zs (zs (zs (zs (zs (zs (zs (zs (xF (nQ (zF (zK (zJ (zB (zP (zD (xN i 1 (zH (zQ (zB ⟨_, zo, (i + 1), rfl, o, zk, a, d, n, zo, ?_⟩)))))))))))))))))))))))))))))))))))))
   exact gv_on z za (.inl za)
  intro ak
  refine qO false (zD (zw (zD (zw (zD (zw (zr (pt c 0) (zw (zr (pt c 0) (zw (zO 0 d rfl (zw (zD (zw ?_))))))))))))))
  have p := (a).at (k := 5) zj l
  obtain ⟨s, g, ai, af⟩ := p
  refine yS (k := .i64) b i _ s g el96 ai zo zk zk (zw (zr (pt s ((g + i * 5) + 1)) (zw (zr (pt s ((g + i * 5) + 1)) (zw (qL s ((g + i * 5) + 1) (I3 r.2.1) zk zk (af 1 _ rfl) (zw (zGe .i32 (plainF x) r.2.1 ?_ ?_))))))))
  ·intro ap
   refine xJ (zD (zw (zD (zw (zD (zw (zr (pt c 0) (zw (zr (pt c 0) (zw (zO 0 d rfl (zw (zD (zw ?_))))))))))))))
   have p := (a).at (k := 5) zj l
   obtain ⟨q, e, ah, ac⟩ := p
   refine yS (k := .i64) b i _ q e el96 ah zo zk zk (zw (zr (pt q ((e + i * 5) + 1)) (zw (zr (pt q (((e + i * 5) + 1) + 1)) (zw (qL q (((e + i * 5) + 1) + 1) (I3 r.2.2.1) zk zk (ac 2 _ rfl) (zw (zLe .i32 (plainF x) r.2.2.1 ?_ ?_))))))))
   ·intro al
    refine xJ (nQ (zT (yA (xX zk zk (zV (yB (pt c 0) zf (yB (pt c 0) zf (yD c 0 b zk zf (yI d rfl) (zV ?_)))))))))
    have p := (a).at (k := 5) zj l
    obtain ⟨y, j, ae, ag⟩ := p
    refine yN (k := .i64) b i _ y j el96 ae zo zk zk (yB (pt y ((j + i * 5) + 3)) zf (yD y ((j + i * 5) + 3) (U8 r.2.2.2.1) zk zf (ag 3 _ rfl) (zV (yB (pt c 0) zf (yB (pt c 0) zf (yD c 0 b zk zf (yI d rfl) (zV ?_)))))))
    have p := (a).at (k := 5) zj l
    obtain ⟨t, h, aa, ab⟩ := p
    refine yN (k := .i64) b i _ t h el96 aa zo zk zk (yB (pt t (h + i * 5)) zf (yD t (h + i * 5) (I6 r.1) zk zf (ab 0 _ rfl) (qZ (qZ (yQ ?_)))))
    intro am ad
    have n := n.tr ad
    exact zB (zR (zL (zG (zG (zL (zG (zZ [(U8 r.2.2.2.1), (I6 r.1)] (hd := o) ⟨yV (eu (by (rw [gv_hit z za za zo zo]; done))) (e6 (by (rw [gv_hit z za za zo zo]; done))), n⟩)))))))
   intro an
   refine xJ (nQ (zF (zK (zJ (zB (zP (zD (xN i 1 (zH (zQ (zB ⟨_, zo, (i + 1), rfl, o, zk, a, d, n, zo, ?_⟩)))))))))))
   exact gv_on z za (.inr zo)
  intro ao
  refine xJ (zD (zs (zs (zs (zs (zs (zs (zs (zs (zs (zs (zs (xF (nQ (zF (zK (zJ (zB (zP (zD (xN i 1 (zH (zQ (zB ⟨_, zo, (i + 1), rfl, o, zk, a, d, n, zo, ?_⟩))))))))))))))))))))))))
  exact gv_on z za (.inr zo)
 intro ar
 exact nQ (zF (yU (zS (zS (yF (zB (wR (zH (zH (nQ (zR (zZ [(U8 0), (I6 0)] (hd := o) ⟨yV (eu (by (rw [gv_end z zo]; done))) (e6 (by (rw [gv_end z zo]; done))), n⟩))))))))))))
theorem c_ref07_Class (d : Nat) (b : Value) (rows : List (Int × Int × Int × Int × Bool)) (x : Int) (w : World) (c : w.heap[d]? = some (.cells [b].toArray 98 (0, 0))) (a : Rd w encRow7 b rows) (hn : rows.length ≤ 1073741824) :
  Calls Tryz.prog 22 #[(pt d 0), (I3 x)] w (Ret fun v w' => v = (U8 (clsR rows (plainF x))) ∧ Below w.heap.size w w') := by
 refine wJ 71 func22 rfl ?_
 have n := Below.refl w.heap.size w
 refine wR (zH (nR (zD (zD (zc (c_ref07_Given d b rows x _ c a zo) ?_)))))
 rintro _ w1 ⟨rfl, p⟩
 refine zD (zr (U8 ((givenF rows (plainF x)).1)) (zr (I6 ((givenF rows (plainF x)).2)) (zH (zH (nW (wR (zD (zNe .u8 ((givenF rows (plainF x)).1) 0 ?_ ?_))))))))
 ·intro h4
  replace n := n.tr p
  exact nQ (zT (wR (zD (zH (nQ (zR (zG (zZ [(U8 ((givenF rows (plainF x)).1))] ⟨eu (by (unfold clsR; rw [if_pos za]; done)), n⟩))))))))
 intro h5
 refine nQ (zF (zK (zB (wR (zD (zc (c_ref07_plain x _ ) ?_))))))
 rintro _ w6 ⟨rfl, u⟩
 replace c := zC (zC c p) u
 replace a := (a.below p).below u
 refine zH (nW (wR (zD (zr (pt d 0) (wB 0 c rfl (vY underlying96 (a).len (yY (((rows).length : Nat) : Int) 1 ((((rows).length : Nat) : Int) - 1) rfl zk zk (yK _ zh zh) (zH (nQ (zW ?_))))))))))
 replace n := (n.tr p).tr u
 refine xA (fun m s0 w0 => ∃ (z : Int), (m = (z + 1).toNat) ∧ (s0.ds = []) ∧ ([0, 1, 7].map s0.f = [(pt d 0), (I3 (plainF x)), (I6 z)]) ∧ (Rd w0 encRow7 b rows) ∧ (w0.heap[d]? = some (.cells [b].toArray 98 (0, 0))) ∧ (Below w.heap.size w w0) ∧ (-1 ≤ z) ∧ (z < rows.length) ∧ (lsI rows (plainF x) (z + 1).toNat)) _ ⟨((((rows).length : Nat) : Int) - 1), rfl, zk, zk, a, c, n, zo, zo, (ls_zero zo)⟩ ?_
 rintro m9 ao ar ⟨z, hm, o, aj, a, c, n, i1, i2, i3⟩
 refine yX aj (yA (wR (zD (zGe .i64 z 0 ?_ ?_))))
 ·intro aq
  refine nQ (zT (zK (zB (yA (zW (wR (zD (zr (pt d 0) (wB 0 c rfl (zD ?_))))))))))
  have q := zX rows z.toNat zo; obtain ⟨h, l⟩ := q
  have q := (a).at (k := 5) zj l
  obtain ⟨y, i, ae, ab⟩ := q
  refine L_ixaddrZ (k := .i64) b z z.toNat _ y i zo el96 ae zo zk zk (zr (pt y ((i + z.toNat * 5) + 4)) (qL y ((i + z.toNat * 5) + 4) (.bool h.2.2.2.2) zk zk (ab 4 _ rfl) (yT h.2.2.2.2 ?_ ?_)))
  ·intro al
   refine zD (zw (zD (zw (zD (zw (zr (pt d 0) (zw (zr (pt d 0) (zw (zO 0 c rfl (zw (zD (zw ?_)))))))))))))
   have q := (a).at (k := 5) zj l
   obtain ⟨r, g, ah, ad⟩ := q
   refine L_ixaddrZ (k := .i64) b z z.toNat _ r g zo el96 ah zo zk zk (zw (zr (pt r ((g + z.toNat * 5) + 1)) (zw (zr (pt r ((g + z.toNat * 5) + 1)) (zw (qL r ((g + z.toNat * 5) + 1) (I3 h.2.1) zk zk (ad 1 _ rfl) (zw (zGe .i32 (plainF x) h.2.1 ?_ ?_))))))))
   ·intro av
    refine xJ (zD (zw (zD (zw (zD (zw (zr (pt d 0) (zw (zr (pt d 0) (zw (zO 0 c rfl (zw (zD (zw ?_))))))))))))))
    have q := (a).at (k := 5) zj l
    obtain ⟨s, e, ac, aa⟩ := q
    refine L_ixaddrZ (k := .i64) b z z.toNat _ s e zo el96 ac zo zk zk (zw (zr (pt s ((e + z.toNat * 5) + 1)) (zw (zr (pt s (((e + z.toNat * 5) + 1) + 1)) (zw (qL s (((e + z.toNat * 5) + 1) + 1) (I3 h.2.2.1) zk zk (aa 2 _ rfl) (zw (zLe .i32 (plainF x) h.2.2.1 ?_ ?_))))))))
    ·intro am
     refine xJ (nQ (zT (wR (zD (zr (pt d 0) (wB 0 c rfl (zD ?_)))))))
     have q := (a).at (k := 5) zj l
     obtain ⟨t, j, ag, ai⟩ := q
     exact L_ixaddrZ (k := .i64) b z z.toNat _ t j zo el96 ag zo zk zk (zr (pt t ((j + z.toNat * 5) + 3)) (qL t ((j + z.toNat * 5) + 3) (U8 h.2.2.2.1) zk zk (ai 3 _ rfl) (zH (nQ (zR (zL (zG (zG (zL (zG (zZ [(U8 h.2.2.2.1)] (hd := o) ⟨eu (by (unfold clsR; rw [if_neg (by simpa using (by assumption : (givenF rows (plainF x)).1 = 0)), ls_hitz i3 zo za za zo zo]; done)), n⟩)))))))))))
    intro ak
    refine xJ (nQ (zF (zK (zJ (zB (zP (zD (yY z 1 (z - 1) rfl zk zk (yK _ zh zh) (zH (zQ (zB ⟨_, zo, (z - 1), rfl, o, zk, a, c, n, zo, zo, ?_⟩)))))))))))
    exact ls_at i3 zo za (.inr zo)
   intro an
   refine xJ (zD (zs (zs (zs (zs (zs (zs (zs (zs (zs (zs (zs (xF (nQ (zF (zK (zJ (zB (zP (zD (yY z 1 (z - 1) rfl zk zk (yK _ zh zh) (zH (zQ (zB ⟨_, zo, (z - 1), rfl, o, zk, a, c, n, zo, zo, ?_⟩))))))))))))))))))))))))
   exact ls_at i3 zo za (.inr zo)
  intro au
  refine zD (zs (zs (zs (zs (zs (zs (zs (zs (zs (zs (zs (xF (zD (zs (zs (zs (zs (zs (zs (zs (zs (zs (zs (zs (xF (nQ (zF (zK (zJ (zB (zP (zD (yY z 1 (z - 1) rfl zk zk (yK _ zh zh) (zH (zQ (zB ⟨_, zo, (z - 1), rfl, o, zk, a, c, n, zo, zo, ?_⟩))))))))))))))))))))))))))))))))))))
  exact ls_at i3 zo za (.inl za)
 intro ap
 exact nQ (zF (yU (zS (zS (yF (zB (wR (zH (nQ (zR (zZ [(U8 1)] (hd := o) ⟨eu (by (unfold clsR; rw [if_neg (by simpa using (by assumption : (givenF rows (plainF x)).1 = 0)), ls_endz i3 zo]; done)), n⟩)))))))))))
theorem c_ref07_Missing (g : Nat) (b : Value) (rows : List (Int × Int × Int × Int × Bool)) (w : World) (c : w.heap[g]? = some (.cells [b].toArray 98 (0, 0))) (a : Rd w encRow7 b rows) (hn : rows.length ≤ 1073741824) :
  Calls Tryz.prog 23 #[(pt g 0)] w (Ret fun v w' => ∃ (q0 : Value), v = q0 ∧ Row w' w.heap.size 45 3 encSpanC q0 (misF rows) ∧ Below w.heap.size w w') := by
 refine wJ 43 func23 rfl ?_
 have p := Below.refl w.heap.size w
 have h := a
 refine wR (zH (nR (zH (nW (wR (zH (nQ (zW (xA (fun m s0 w0 => ∃ (i : Nat) (s : List SpI) (n : Value), (m = rows.length - i) ∧ (s0.ds = []) ∧ ([0, 2, 3, 4].map s0.f = [(pt g 0), (.slice none 0 0), n, (N6 i)]) ∧ (Rd w0 encRow7 b rows) ∧ (Row w0 w.heap.size 45 3 encSpanC n s) ∧ (w0.heap[g]? = some (.cells [b].toArray 98 (0, 0))) ∧ (Below w.heap.size w w0) ∧ (i ≤ rows.length) ∧ (s.length ≤ i) ∧ (s = misF (rows.take i))) _ ⟨0, [], (.slice none 0 0), rfl, zk, zk, a, Row.nil _ _ _ _ _, c, p, (Nat.zero_le _), (Nat.le_refl _), rfl⟩ ?_)))))))))
 rintro m1 s2 w3 ⟨i, s, n, hm, ah, ap, a, e, c, p, i1, i2, i3⟩
 refine yX ap (yA (wR (zD (zD (zr (pt g 0) (wB 0 c rfl (vY underlying96 (a).len (nLt i ((rows).length) ?_ ?_))))))))
 ·intro h4
  refine nQ (zT (zK (zB (yA (zW (wR (zD (zr (pt g 0) (wB 0 c rfl (zD ?_))))))))))
  have hz := zX rows i zo; obtain ⟨d, aa⟩ := hz
  refine zE a el96 i aa 4 rfl fun _ _ => (yT d.2.2.2.2 ?_ ?_)
  ·intro az
   refine nQ (zT (wD 21 zk zk zk ?_))
   intro ax t
   refine ip 0 rfl n ?_
   have c := zC c t
   refine I_pre 1 18 21 3 zk zk zk zk zk zk zk zk zk (zV (yB (pt g 0) zf (yB (pt g 0) zf (yD g 0 b zk zf (yI c rfl) (zV ?_)))))
   have p := p.tr t
   have a := h.below p
   have hz := (a).at (k := 5) zj aa
   obtain ⟨ac, q, aj, am⟩ := hz
   refine yN (k := .i64) b i _ ac q el96 aj zo zk zk (yB (pt ac ((q + i * 5) + 1)) zf (wO ac ((q + i * 5) + 1) [(I3 d.2.1), (I3 d.2.2.1)] zk zf zf (elem_mid [(I6 d.1)] [(U8 d.2.2.2.1), (.bool d.2.2.2.2)] am rfl) (zV (yB (pt g 0) zf (yB (pt g 0) zf (yD g 0 b zk zf (yI c rfl) (zV ?_)))))))
   have hz := (a).at (k := 5) zj aa
   obtain ⟨af, r, an, al⟩ := hz
   refine yN (k := .i64) b i _ af r el96 an zo zk zk (yB (pt af ((r + i * 5) + 3)) zf (yD af ((r + i * 5) + 3) (U8 d.2.2.2.1) zk zf (al 3 _ rfl) (yB (Value.agg #[(I3 d.2.1), (I3 d.2.2.1), (U8 d.2.2.2.1)]) zf (yQ ?_))))
   intro aw y
   refine yC 18 zk (yO 18 rfl ?_ rfl)
   refine zM 1 [(I3 d.2.1), (I3 d.2.2.1), (U8 d.2.2.2.1)] 45 ?_
   intro ae aq o
   have p := p.tr y
   have ag := o.ge p.size
   have e := (e.below t).below y
   have l : Value.ownBlock n = none ∨ Value.ownBlock n ≠ Value.ownBlock (.slice (some ⟨ae, 0, none⟩) 1 1) := .inr (e.new_ne o)
   have j := yW l
   have u : Row aq w.heap.size 45 3 encSpanC (.slice (some ⟨ae, 0, none⟩) 1 1) ([(d.2.1, d.2.2.1, d.2.2.2.1)] : List (Int × Int × Int)) := Row.made ([(d.2.1, d.2.2.1, d.2.2.2.1)] : List (Int × Int × Int)) o ag rfl rfl (by first | decide | (simp; done))
   refine zQ ?_
   refine ⟨rfl, yC 19 zk (yO 19 rfl ?_ rfl)⟩
   have p := p.tr o.below
   have e := e.below o.below
   refine xM el42 w.heap.size n (.slice (some ⟨ae, 0, none⟩) 1 1) s ([(d.2.1, d.2.2.1, d.2.2.2.1)] : List (Int × Int × Int)) p.size e u.rd (by (simp only [List.length_append, List.length_cons, List.length_nil] <;> omega)) zj zj zk zk zk ?_
   intro ai av ao z ad 
   have ab := xD u ad j
   have p := p.tg p.size z e
   have c := zC (zC c y) o.below
   have c := zY c z (e.ne c zi)
   have e := ao
   refine zQ ?_
   refine ⟨rfl, ip 20 rfl ai (yJ zk (zJ (zB (zP (zD (xN i 1 (zH (zQ ?_))))))))⟩
   have a := h.below p
   refine zB ⟨_, zo, (i + 1), (s ++ ([(d.2.1, d.2.2.1, d.2.2.2.1)] : List (Int × Int × Int))), ai, rfl, ah, zk, a, e, c, p, zo, ?_, ?_⟩
   ·(try simp only [List.length_append, List.length_cons, List.length_nil]); omega
   exact mis_yes i3 za za
  intro au
  refine nQ (zF (zK (zJ (zB (zP (zD (xN i 1 (zH (zQ (zB ⟨_, zo, (i + 1), s, n, rfl, ah, zk, a, e, c, p, zo, ?_, ?_⟩))))))))))
  ·(try simp only [List.length_append, List.length_cons, List.length_nil]); omega
  exact mis_no i3 za za
 intro ay
 exact nQ (zF (yU (zS (zS (yF (zB (wR (zD (zH (nQ (zR (zZ [n] (hd := ah) ⟨n, rfl, e.cast (by first | (rw [i3, List.take_of_length_le zo]; done)), p⟩))))))))))))
theorem c_ref07_row (no : Int) (k : Int) (m : List UInt8) (a4 : Value) (f : List (List UInt8)) (t : List UInt8) (w : World) (q : Rd w encStr a4 f) (hf : ∀ x ∈ f, x.length ≤ 1073741824) (hn : f.length ≤ 1073741824) :
  Calls Tryz.prog 50 #[(Value.agg #[(I6 no), (U8 k), (S m), a4, (S t)])] w (Ret fun v w' => v = (.tuple #[(Value.agg #[(I6 ((rowF no k f).1.1)), (I3 ((rowF no k f).1.2.1)), (I3 ((rowF no k f).1.2.2.1)), (U8 ((rowF no k f).1.2.2.2.1)), (.bool ((rowF no k f).1.2.2.2.2))]), (.bool ((rowF no k f).2.1)), (I6 ((rowF no k f).2.2))]) ∧ Below w.heap.size w w') := by
 refine wJ 58 func50 rfl ?_
 have e := Below.refl w.heap.size w
 have p := q
 refine wR (zN [(I6 no), (U8 k), (S m), a4, (S t)] 72 ?_)
 intro b1 w2 a5
 have bd := a5.ge e.size
 have c := a5.here
 refine zN [(I6 0), (I3 0), (I3 0), (U8 0), (.bool false)] 100 ?_
 intro b4 w5 ao
 have e := e.tr a5.below
 have l := ao.ge e.size
 have a := ao.here
 have c := zC c ao.below
 refine zH (zH (nR (wB 0 c rfl (zr (Value.agg #[(I6 no), (I3 0), (I3 0), (U8 0), (.bool false)]) (zN [(I6 0), (I3 0), (I3 0), (U8 0), (.bool false)] 100 ?_)))))
 intro b7 w8 o
 have d := NE_new (yL a) o
 have e := e.tr ao.below
 have n := o.ge e.size
 have b := o.here
 refine qQ [(I6 no), (I3 0), (I3 0), (U8 0), (.bool false)] b ?_
 intro bh j
 have c := zC c o.below
 have c := zI c j (zU c b zi)
 have b := j.here
 refine nW (wR (wB 1 c rfl (nQ (zW (wR (qX .u8 k 2 ?_ ?_))))))
 ·intro b6
  have a := zI (zC a o.below) j d
  refine zH (nQ (zT (wR (zr (Value.agg #[(I6 0), (I3 0), (I3 0), (U8 0), (.bool false)]) (qQ [(I6 0), (I3 0), (I3 0), (U8 0), (.bool false)] a ?_)))))
  intro bv au
  have a := au.here
  refine zH (zH (nQ (zR (zL (zG (yM [.cell 2 100, .tmp 3, .tmp 4] [(Value.agg #[(I6 0), (I3 0), (I3 0), (U8 0), (.bool false)]), (.bool false), (I6 33)] rfl rfl ⟨⟨⟨b4, 0, none⟩, zk, yH [(I6 0), (I3 0), (I3 0), (U8 0), (.bool false)] zk zk (yE a)⟩, zk, zk, trivial⟩ ?_))))))
  have e := ((e.tr o.below).trans (j.below n)).trans (au.below l)
  exact ⟨Zj (by (rw [rw_order zo]; rfl)) (eb (by (rw [rw_order zo]; done))) (e6 (by (rw [rw_order zo]; done))), e⟩
 intro cj
 refine zH (nQ (zF (wR (qX .u8 k 1 ?_ ?_))))
 ·intro bk
  have e := (e.tr o.below).trans (j.below n)
  have q := p.below e
  refine zH (nQ (zT (wR (wB 3 c rfl (vY underlying70 (q).len (nNe ((f).length) 2 ?_ ?_))))))
  ·intro b5
   have a := zI (zC a o.below) j d
   refine nQ (zT (wR (zr (Value.agg #[(I6 0), (I3 0), (I3 0), (U8 0), (.bool false)]) (qQ [(I6 0), (I3 0), (I3 0), (U8 0), (.bool false)] a ?_))))
   intro bf aq
   have a := aq.here
   refine zH (zH (nQ (zR (zL (zG (yM [.cell 2 100, .tmp 3, .tmp 4] [(Value.agg #[(I6 0), (I3 0), (I3 0), (U8 0), (.bool false)]), (.bool false), (I6 70)] rfl rfl ⟨⟨⟨b4, 0, none⟩, zk, yH [(I6 0), (I3 0), (I3 0), (U8 0), (.bool false)] zk zk (yE a)⟩, zk, zk, trivial⟩ ?_))))))
   have e := e.trans (aq.below l)
   exact ⟨Zj (by (rw [rw_cols zo zo]; rfl)) (eb (by (rw [rw_cols zo zo]; done))) (e6 (by (rw [rw_cols zo zo]; done))), e⟩
  intro bz
  refine nQ (zF (zK (zJ (zB (wR (wB 3 c rfl ?_))))))
  have hz := zX f 0 zo; obtain ⟨i, aw⟩ := hz
  have ba := hf _ (List.mem_of_getElem? aw)
  refine zE1 q el70 0 aw rfl fun _ => (zc (c_furrowref04_Span i _ zo) ?_)
  rintro _ br ⟨rfl, ag⟩
  refine zD (zr (Value.agg #[(I3 ((spanF i).1)), (I3 ((spanF i).2.1))]) (zr (I6 ((spanF i).2.2)) (zN [(I3 0), (I3 0)] 32 ?_)))
  intro bw bu s
  have e := e.tr ag
  have ab := s.ge e.size
  have g := s.here
  refine qQ [(I3 ((spanF i).1)), (I3 ((spanF i).2.1))] g ?_
  intro b3 aa
  have c := zC (zC c ag) s.below
  have c := zI c aa (zU c g zi)
  have a := zC (zC (zI (zC a o.below) j d) ag) s.below
  have a := zI a aa (zU a g zi)
  have b := zC (zC b ag) s.below
  have b := zI b aa (zU b g zi)
  have g := aa.here
  refine zH (nW (wR (zD (zNe .i64 ((spanF i).2.2) 0 ?_ ?_))))
  ·intro b2
   refine nQ (zT (wR (zr (Value.agg #[(I6 0), (I3 0), (I3 0), (U8 0), (.bool false)]) (zD (qQ [(I6 0), (I3 0), (I3 0), (U8 0), (.bool false)] a ?_)))))
   intro cf ax
   have a := ax.here
   refine zH (zH (nQ (zR (zG (yM [.cell 2 100, .tmp 3, .tmp 4] [(Value.agg #[(I6 0), (I3 0), (I3 0), (U8 0), (.bool false)]), (.bool false), (I6 ((spanF i).2.2))] rfl rfl ⟨⟨⟨b4, 0, none⟩, zk, yH [(I6 0), (I3 0), (I3 0), (U8 0), (.bool false)] zk zk (yE a)⟩, zk, zk, trivial⟩ ?_)))))
   have e := ((e.tr s.below).trans (aa.below ab)).trans (ax.below l)
   exact ⟨Zj (by (rw [rw_span zo zo za za]; rfl)) (eb (by (rw [rw_span zo zo za za]; done))) (e6 (by (rw [rw_span zo zo za za]; done))), e⟩
  intro bt
  refine nQ (zF (zK (zB (wR (wB 3 c rfl ?_)))))
  have hz := zX f 1 zo; obtain ⟨ae, a1⟩ := hz
  have a6 := hf _ (List.mem_of_getElem? a1)
  have e := (e.tr s.below).trans (aa.below ab)
  have q := p.below e
  refine zE1 q el70 1 a1 rfl fun _ => (zc (c_furrowref05_Class ae _ zo) ?_)
  rintro _ cl ⟨rfl, z⟩
  refine zH (nW (wR (zD (qX .u8 ((classF ae).1) 0 ?_ ?_))))
  ·intro bo
   have a := zC a z
   refine nQ (zT (wR (zr (Value.agg #[(I6 0), (I3 0), (I3 0), (U8 0), (.bool false)]) (qQ [(I6 0), (I3 0), (I3 0), (U8 0), (.bool false)] a ?_))))
   intro bs a0
   have a := a0.here
   refine zH (zH (nQ (zR (zG (yM [.cell 2 100, .tmp 3, .tmp 4] [(Value.agg #[(I6 0), (I3 0), (I3 0), (U8 0), (.bool false)]), (.bool false), (I6 50)] rfl rfl ⟨⟨⟨b4, 0, none⟩, zk, yH [(I6 0), (I3 0), (I3 0), (U8 0), (.bool false)] zk zk (yE a)⟩, zk, zk, trivial⟩ ?_)))))
   have e := (e.tr z).trans (a0.below l)
   exact ⟨Zj (by (rw [rw_class zo zo za za zo zo]; rfl)) (eb (by (rw [rw_class zo zo za za zo zo]; done))) (e6 (by (rw [rw_class zo zo za za zo zo]; done))), e⟩
  intro b9
  have b := zC b z
  have g := zC g z
  refine nQ (zF (zK (zB (wR (vT g (zr (pt b7 1) (zA 1 [(I3 ((spanF i).1)), (I3 ((spanF i).2.1))] [(I6 no), (I3 ((spanF i).1)), (I3 ((spanF i).2.1)), (U8 0), (.bool false)] b ?_)))))))
  intro bx al
  have b := al.here
  refine nR (zD (zr (pt b7 3) (z1 3 (U8 ((classF ae).1)) [(I6 no), (I3 ((spanF i).1)), (I3 ((spanF i).2.1)), (U8 ((classF ae).1)), (.bool false)] b ?_)))
  intro ca am
  have b := am.here
  have a := zI (zI (zC a z) al d) am d
  refine nR (vT b (qQ [(I6 no), (I3 ((spanF i).1)), (I3 ((spanF i).2.1)), (U8 ((classF ae).1)), (.bool false)] a ?_))
  intro cc a2
  have a := a2.here
  refine zH (zH (nQ (zR (yM [.cell 2 100, .tmp 3, .tmp 4] [(Value.agg #[(I6 no), (I3 ((spanF i).1)), (I3 ((spanF i).2.1)), (U8 ((classF ae).1)), (.bool false)]), (.bool true), (I6 0)] rfl rfl ⟨⟨⟨b4, 0, none⟩, zk, yH [(I6 no), (I3 ((spanF i).1)), (I3 ((spanF i).2.1)), (U8 ((classF ae).1)), (.bool false)] zk zk (yE a)⟩, zk, zk, trivial⟩ ?_))))
  have e := (((e.tr z).trans (al.below n)).trans (am.below n)).trans (a2.below l)
  exact ⟨Zj (by (rw [rw_ok1 zo zo za za zo zo]; done)) (eb (by (rw [rw_ok1 zo zo za za zo zo]; done))) (e6 (by (rw [rw_ok1 zo zo za za zo zo]; done))), e⟩
 intro b0
 refine zH (nQ (zF (wR (qX .u8 k 3 ?_ ?_))))
 ·intro bi
  have e := (e.tr o.below).trans (j.below n)
  have q := p.below e
  refine zH (nQ (zT (yA (wR (wB 3 c rfl (vY underlying70 (q).len (nNe ((f).length) 2 ?_ ?_)))))))
  ·intro bg
   have a := zI (zC a o.below) j d
   refine nQ (zT (wR (zr (Value.agg #[(I6 0), (I3 0), (I3 0), (U8 0), (.bool false)]) (qQ [(I6 0), (I3 0), (I3 0), (U8 0), (.bool false)] a ?_))))
   intro cd az
   have a := az.here
   refine zH (zH (nQ (zR (zG (zL (zG (yM [.cell 2 100, .tmp 3, .tmp 4] [(Value.agg #[(I6 0), (I3 0), (I3 0), (U8 0), (.bool false)]), (.bool false), (I6 71)] rfl rfl ⟨⟨⟨b4, 0, none⟩, zk, yH [(I6 0), (I3 0), (I3 0), (U8 0), (.bool false)] zk zk (yE a)⟩, zk, zk, trivial⟩ ?_)))))))
   have e := e.trans (az.below l)
   exact ⟨Zj (by (rw [rw_miss zo zo]; rfl)) (eb (by (rw [rw_miss zo zo]; done))) (e6 (by (rw [rw_miss zo zo]; done))), e⟩
  intro bl
  refine nQ (zF (zK (zB (zP (zr (pt b7 4) (z1 4 (.bool true) [(I6 no), (I3 0), (I3 0), (U8 0), (.bool true)] b ?_))))))
  intro cb af
  have c := zI c af (zU c b zi)
  have b := af.here
  refine zQ (zJ (zB (wR (wB 3 c rfl ?_))))
  have hz := zX f 0 zo; obtain ⟨h, ay⟩ := hz
  have a7 := hf _ (List.mem_of_getElem? ay)
  have e := e.trans (af.below n)
  have q := p.below e
  refine zE1 q el70 0 ay rfl fun _ => (zc (c_furrowref04_Span h _ zo) ?_)
  rintro _ bn ⟨rfl, ah⟩
  refine zD (zr (Value.agg #[(I3 ((spanF h).1)), (I3 ((spanF h).2.1))]) (zr (I6 ((spanF h).2.2)) (zN [(I3 0), (I3 0)] 32 ?_)))
  intro b8 cg r
  have e := e.tr ah
  have ab := r.ge e.size
  have g := r.here
  refine qQ [(I3 ((spanF h).1)), (I3 ((spanF h).2.1))] g ?_
  intro ck y
  have c := zC (zC c ah) r.below
  have c := zI c y (zU c g zi)
  have a := zC (zC (zI (zI (zC a o.below) j d) af d) ah) r.below
  have a := zI a y (zU a g zi)
  have b := zC (zC b ah) r.below
  have b := zI b y (zU b g zi)
  have g := y.here
  refine zH (nW (wR (zD (zNe .i64 ((spanF h).2.2) 0 ?_ ?_))))
  ·intro bj
   refine nQ (zT (wR (zr (Value.agg #[(I6 0), (I3 0), (I3 0), (U8 0), (.bool false)]) (zD (qQ [(I6 0), (I3 0), (I3 0), (U8 0), (.bool false)] a ?_)))))
   intro ci ap
   have a := ap.here
   refine zH (zH (nQ (zR (zG (yM [.cell 2 100, .tmp 3, .tmp 4] [(Value.agg #[(I6 0), (I3 0), (I3 0), (U8 0), (.bool false)]), (.bool false), (I6 ((spanF h).2.2))] rfl rfl ⟨⟨⟨b4, 0, none⟩, zk, yH [(I6 0), (I3 0), (I3 0), (U8 0), (.bool false)] zk zk (yE a)⟩, zk, zk, trivial⟩ ?_)))))
   have e := ((e.tr r.below).trans (y.below ab)).trans (ap.below l)
   exact ⟨Zj (by (rw [rw_span zo zo za za]; rfl)) (eb (by (rw [rw_span zo zo za za]; done))) (e6 (by (rw [rw_span zo zo za za]; done))), e⟩
  intro bq
  refine nQ (zF (zK (zB (wR (wB 3 c rfl ?_)))))
  have hz := zX f 1 zo; obtain ⟨ad, av⟩ := hz
  have a8 := hf _ (List.mem_of_getElem? av)
  have e := (e.tr r.below).trans (y.below ab)
  have q := p.below e
  refine zE1 q el70 1 av rfl fun _ => (zc (c_furrowref05_Class ad _ zo) ?_)
  rintro _ cm ⟨rfl, u⟩
  refine zH (nW (wR (zD (qX .u8 ((classF ad).1) 0 ?_ ?_))))
  ·intro ce
   have a := zC a u
   refine nQ (zT (wR (zr (Value.agg #[(I6 0), (I3 0), (I3 0), (U8 0), (.bool false)]) (qQ [(I6 0), (I3 0), (I3 0), (U8 0), (.bool false)] a ?_))))
   intro bp ar
   have a := ar.here
   refine zH (zH (nQ (zR (zG (yM [.cell 2 100, .tmp 3, .tmp 4] [(Value.agg #[(I6 0), (I3 0), (I3 0), (U8 0), (.bool false)]), (.bool false), (I6 50)] rfl rfl ⟨⟨⟨b4, 0, none⟩, zk, yH [(I6 0), (I3 0), (I3 0), (U8 0), (.bool false)] zk zk (yE a)⟩, zk, zk, trivial⟩ ?_)))))
   have e := (e.tr u).trans (ar.below l)
   exact ⟨Zj (by (rw [rw_class zo zo za za zo zo]; rfl)) (eb (by (rw [rw_class zo zo za za zo zo]; done))) (e6 (by (rw [rw_class zo zo za za zo zo]; done))), e⟩
  intro cn
  have b := zC b u
  have g := zC g u
  refine nQ (zF (zK (zB (wR (vT g (zr (pt b7 1) (zA 1 [(I3 ((spanF h).1)), (I3 ((spanF h).2.1))] [(I6 no), (I3 ((spanF h).1)), (I3 ((spanF h).2.1)), (U8 0), (.bool true)] b ?_)))))))
  intro bm ai
  have b := ai.here
  refine nR (zD (zr (pt b7 3) (z1 3 (U8 ((classF ad).1)) [(I6 no), (I3 ((spanF h).1)), (I3 ((spanF h).2.1)), (U8 ((classF ad).1)), (.bool true)] b ?_)))
  intro ch ac
  have b := ac.here
  have a := zI (zI (zC a u) ai d) ac d
  refine nR (vT b (qQ [(I6 no), (I3 ((spanF h).1)), (I3 ((spanF h).2.1)), (U8 ((classF ad).1)), (.bool true)] a ?_))
  intro bb ak
  have a := ak.here
  refine zH (zH (nQ (zR (yM [.cell 2 100, .tmp 3, .tmp 4] [(Value.agg #[(I6 no), (I3 ((spanF h).1)), (I3 ((spanF h).2.1)), (U8 ((classF ad).1)), (.bool true)]), (.bool true), (I6 0)] rfl rfl ⟨⟨⟨b4, 0, none⟩, zk, yH [(I6 no), (I3 ((spanF h).1)), (I3 ((spanF h).2.1)), (U8 ((classF ad).1)), (.bool true)] zk zk (yE a)⟩, zk, zk, trivial⟩ ?_))))
  have e := (((e.tr u).trans (ai.below n)).trans (ac.below n)).trans (ak.below l)
  exact ⟨Zj (by (rw [rw_ok3 zo zo za za zo zo]; done)) (eb (by (rw [rw_ok3 zo zo za za zo zo]; done))) (e6 (by (rw [rw_ok3 zo zo za za zo zo]; done))), e⟩
 intro be
 have a := zI (zC a o.below) j d
 refine zH (nQ (zF (wR (zr (Value.agg #[(I6 0), (I3 0), (I3 0), (U8 0), (.bool false)]) (qQ [(I6 0), (I3 0), (I3 0), (U8 0), (.bool false)] a ?_)))))
 intro bc aj
 have a := aj.here
 refine zH (zH (nQ (zR (zL (zG (yM [.cell 2 100, .tmp 3, .tmp 4] [(Value.agg #[(I6 0), (I3 0), (I3 0), (U8 0), (.bool false)]), (.bool false), (I6 0)] rfl rfl ⟨⟨⟨b4, 0, none⟩, zk, yH [(I6 0), (I3 0), (I3 0), (U8 0), (.bool false)] zk zk (yE a)⟩, zk, zk, trivial⟩ ?_))))))
 have e := ((e.tr o.below).trans (j.below n)).trans (aj.below l)
 exact ⟨Zj (by (rw [rw_none zo zo zo]; rfl)) (eb (by (rw [rw_none zo zo zo]; done))) (e6 (by (rw [rw_none zo zo zo]; done))), e⟩
theorem c_ref07_Read_ok (s : List UInt8) (w : World) (hs : s.length ≤ 33554432) (hok : (clsF s).2.2 = 0) :
  Calls Tryz.prog 19 #[(S s)] w (Ret fun v w' => ∃ (q0 : Value) (cb0 : Nat), v = (.tuple #[(pt cb0 0), (I6 0), (I6 0)]) ∧ Row w' w.heap.size 100 5 encRow7 q0 ((refF s).1) ∧ w'.heap[cb0]? = some (.cells [q0].toArray 98 (0, 0)) ∧ w.heap.size ≤ cb0 ∧ Below w.heap.size w w') := by
 refine wJ 120 func19 rfl ?_
 have n := Below.refl w.heap.size w
 refine wR (zH (zH (zH (nR (zD ?_)))))
 by_cases cy : (badL (toldF s)).2 = 0
 ·skip
  refine zc (c_ref03_Read_ok s _ zo zo) ?_
  rintro _ w3 ⟨l6, q2, rfl, d, cx, dr, dl, c0⟩
  have d := d.base n.size
  refine zD (zr q2 (zr (I6 0) (zr (I6 0) (zH (zH (zH (nW (wR (zD (zr (.bool false) (nQ (zF (zK (zB (wR (zr (Value.agg #[(.slice none 0 0)]) (zN [(.slice none 0 0)] 98 ?_)))))))))))))))))
  intro o d0 a5
  have n := n.tr c0
  have av := a5.ge n.size
  have c := a5.here
  refine zH (nW (wR (zH (nQ (zW ?_)))))
  have hl := cx
  have df := lines_len hl
  have dc := Zm s
  have n := n.tr a5.below
  have d := d.below a5.below
  refine xA (fun m s0 w0 => ∃ (i : Nat) (t : List RowC) (g : Value), (m = l6.length - i) ∧ (s0.ds = []) ∧ ([5, 8, 9].map s0.f = [q2, (pt o 0), (N6 i)]) ∧ (NRow 9 w0 w.heap.size 72 5 encLine q2 l6) ∧ (Row w0 w.heap.size 100 5 encRow7 g t) ∧ (w0.heap[o]? = some (.cells [g].toArray 98 (0, 0))) ∧ (Below w.heap.size w w0) ∧ (i ≤ l6.length) ∧ (invR s l6 i t) ∧ (t.length ≤ i)) _ ⟨0, [], (.slice none 0 0), rfl, zk, zk, d, Row.nil _ _ _ _ _, c, n, (Nat.zero_le _), (invR_zero (by first | assumption | exact cls_ok1 hok) hl), (Nat.le_refl _)⟩ ?_
  rintro dx d8 ct ⟨i, t, g, hm, aj, bt, d, b, c, n, i1, i3, i4⟩
  refine yX bt (yA (wR (zD (zD (vY underlying58 (d.rd).len (nLt i ((l6).length) ?_ ?_))))))
  ·intro de
   refine nQ (zT (zK (zB (yA (zW (wR (zD (zD ?_))))))))
   have hz := zX l6 i zo; obtain ⟨a, ay⟩ := hz
   have hz := (d.rd).at (k := 5) zj ay
   obtain ⟨cp, bd, cc, cn⟩ := hz
   have ce := scan_ok zo hl ay
   first | (have bs := Option.some.inj (ay.symm.trans bx); subst bs) | have bx := ay
   refine yS (k := .i64) q2 i _ cp bd el58 cc zo zk zk ?_
   have l : Row ct w.heap.size 9 1 encStr (LineV.v a) (LineV.fs a) := d.inner (List.mem_of_getElem? ay)
   refine xB cp (bd + i * 5) [(I6 a.1), (U8 a.2.1), (S a.2.2.1), (LineV.v a), (S a.2.2.2.2)] zk zk zk cn (zc (c_ref07_row a.1 a.2.1 a.2.2.1 (LineV.v a) (LineV.fs a) a.2.2.2.2 _ l.rd (by exact (by assumption : _ ∧ _ ∧ _).1) (by exact (by assumption : _ ∧ _ ∧ _).2.2)) ?_)
   rintro _ dp ⟨rfl, ab⟩
   refine zD (zr (Value.agg #[(I6 ((rowF a.1 a.2.1 (LineV.fs a)).1.1)), (I3 ((rowF a.1 a.2.1 (LineV.fs a)).1.2.1)), (I3 ((rowF a.1 a.2.1 (LineV.fs a)).1.2.2.1)), (U8 ((rowF a.1 a.2.1 (LineV.fs a)).1.2.2.2.1)), (.bool ((rowF a.1 a.2.1 (LineV.fs a)).1.2.2.2.2))]) (zr (.bool ((rowF a.1 a.2.1 (LineV.fs a)).2.1)) (yT ((rowF a.1 a.2.1 (LineV.fs a)).2.1) ?_ ?_)))
   ·intro du
    refine zr (I6 ((rowF a.1 a.2.1 (LineV.fs a)).2.2)) (zN [(I6 0), (I3 0), (I3 0), (U8 0), (.bool false)] 100 ?_)
    intro ak d7 ag
    have n := n.tr ab
    have az := ag.ge n.size
    have b := b.below ab
    have h := b.new_ne ag
    have e := ag.here
    refine qQ [(I6 ((rowF a.1 a.2.1 (LineV.fs a)).1.1)), (I3 ((rowF a.1 a.2.1 (LineV.fs a)).1.2.1)), (I3 ((rowF a.1 a.2.1 (LineV.fs a)).1.2.2.1)), (U8 ((rowF a.1 a.2.1 (LineV.fs a)).1.2.2.2.1)), (.bool ((rowF a.1 a.2.1 (LineV.fs a)).1.2.2.2.2))] e ?_
    intro di an
    have c := zC (zC c ab) ag.below
    have c := zI c an (zU c e zi)
    have d := (d.below ab).below ag.below
    have d := d.wrote an (d.ne e zi)
    have l := (l.below ab).below ag.below
    have l := l.wrote an (l.ne e zi)
    have e := an.here
    refine zH (zH (nW (wR (zD (zNe .i64 ((rowF a.1 a.2.1 (LineV.fs a)).2.2) 0 ?_ ?_)))))
    ·intro b0
     exfalso; exact ref_dead hok (Zl i3 za (sR_bad b0) b0) b0
    intro dw
    refine nQ (zF (zK (zB (yA (wR (zD (qO true (nQ (zF (zK (zB (yA (wR (zH (nQ (zW ?_))))))))))))))))
    have n := (n.tr ag.below).trans (an.below az)
    have b := (b.below ag.below).wrote an h
    refine xA (fun m s0 w0 => ∃ (j : Nat), (m = t.length - j) ∧ (s0.ds = []) ∧ ([5, 8, 9, 10, 13].map s0.f = [q2, (pt o 0), (N6 i), (pt ak 0), (N6 j)]) ∧ (NRow 9 w0 w.heap.size 72 5 encLine q2 l6) ∧ (Row w0 w.heap.size 100 5 encRow7 g t) ∧ (Row w0 w.heap.size 9 1 encStr (LineV.v a) (LineV.fs a)) ∧ (w0.heap[o]? = some (.cells [g].toArray 98 (0, 0))) ∧ (w0.heap[ak]? = some (.cells [(I6 ((rowF a.1 a.2.1 (LineV.fs a)).1.1)), (I3 ((rowF a.1 a.2.1 (LineV.fs a)).1.2.1)), (I3 ((rowF a.1 a.2.1 (LineV.fs a)).1.2.2.1)), (U8 ((rowF a.1 a.2.1 (LineV.fs a)).1.2.2.2.1)), (.bool ((rowF a.1 a.2.1 (LineV.fs a)).1.2.2.2.2))].toArray 100 (0, 0))) ∧ (Below w.heap.size w w0) ∧ (j ≤ t.length) ∧ (noMeet t ((rowF a.1 a.2.1 (LineV.fs a)).1) j)) _ ⟨0, rfl, aj, zk, d, b, l, c, e, n, (Nat.zero_le _), (noMeet_zero _ _)⟩ ?_
    rintro d6 dd d4 ⟨j, hm, aj, bt, d, b, l, c, e, n, j1, j3⟩
    refine yX bt (yA (wR (zD (zD (zr (pt o 0) (wB 0 c rfl (vY underlying96 (b.rd).len (nLt j ((t).length) ?_ ?_))))))))
    ·intro d1
     refine nQ (zT (zK (zB (yA (zW (yA (xX zk zk (yB (pt ak 4) zf (yD ak 4 (.bool ((rowF a.1 a.2.1 (LineV.fs a)).1.2.2.2.2)) zk zf (yI e rfl) (Lq_put_split ((rowF a.1 a.2.1 (LineV.fs a)).1.2.2.2.2) ?_ ?_))))))))))
     ·intro dj
      refine Lq_not true zk (zV (qs (qs (qs (qs (qs (qs (qs (qs (qs (qF (zV (qs (qs (qs (qs (qs (qs (qs (qs (qs (qs (qs (qs (qs (qF (zV (qs (qs (qs (qs (qs (qs (qs (qs (qs (qs (qs (qs (qs (qF (yQ ?_))))))))))))))))))))))))))))))))))))))))))
      intro dg al
      refine zB (zF (zK (zJ (zB (zP (zD (xN j 1 (zH (zQ ?_)))))))))
      have n := n.tr al
      have e := zC e al
      have c := zC c al
      have l := l.below al
      have d := d.below al
      have b := b.below al
      exact zB ⟨_, zo, (j + 1), rfl, aj, zk, d, b, l, c, e, n, zo, noMeet_m za⟩
     intro dz
     refine Lq_not false zk (zV (qw (zV (qw (yB (pt o 0) zf (qw (yB (pt o 0) zf (qw (yD o 0 g zk zf (yI c rfl) (qw (zV (qw ?_))))))))))))
     have hz := zX t j zo; obtain ⟨ae, bj⟩ := hz
     have hz := (b.rd).at (k := 5) zj bj
     obtain ⟨bu, a4, b9, cm⟩ := hz
     refine yN (k := .i64) g j _ bu a4 el96 b9 zo zk zk (qw (yB (pt bu ((a4 + j * 5) + 4)) zf (qw (yD bu ((a4 + j * 5) + 4) (.bool ae.2.2.2.2) zk zf (cm 4 _ rfl) (Lq_put_split ae.2.2.2.2 ?_ ?_)))))
     ·intro dt
      refine qw (Lq_not true zk (qT (zV (qs (qs (qs (qs (qs (qs (qs (qs (qs (qs (qs (qs (qs (qF (zV (qs (qs (qs (qs (qs (qs (qs (qs (qs (qs (qs (qs (qs (qF (yQ ?_)))))))))))))))))))))))))))))))))
      intro d3 ap
      refine zB (zF (zK (zJ (zB (zP (zD (xN j 1 (zH (zQ ?_)))))))))
      have n := n.tr ap
      have e := zC e ap
      have c := zC c ap
      have l := l.below ap
      have d := d.below ap
      have b := b.below ap
      exact zB ⟨_, zo, (j + 1), rfl, aj, zk, d, b, l, c, e, n, zo, noMeet_on j3 za (.inr (.inl za))⟩
     intro dv
     refine qw (Lq_not false zk (qT (zV (qw (zV (qw (yB (pt o 0) zf (qw (yB (pt o 0) zf (qw (yD o 0 g zk zf (yI c rfl) (qw (zV (qw ?_))))))))))))))
     have hz := (b.rd).at (k := 5) zj bj
     obtain ⟨bl, aq, cj, cl⟩ := hz
     refine yN (k := .i64) g j _ bl aq el96 cj zo zk zk (qw (yB (pt bl ((aq + j * 5) + 1)) zf (qw (yB (pt bl ((aq + j * 5) + 1)) zf (qw (yD bl ((aq + j * 5) + 1) (I3 ae.2.1) zk zf (cl 1 _ rfl) (qw (yB (pt ak 1) zf (qw (yB (pt ak 2) zf (qw (yD ak 2 (I3 ((rowF a.1 a.2.1 (LineV.fs a)).1.2.2.1)) zk zf (yI e rfl) (qw (xV .i32 ae.2.1 ((rowF a.1 a.2.1 (LineV.fs a)).1.2.2.1) (ae.2.1 ≤ (rowF a.1 a.2.1 (LineV.fs a)).1.2.2.1) rfl (cmp_le ae.2.1 ((rowF a.1 a.2.1 (LineV.fs a)).1.2.2.1)) zk zk ?_ ?_))))))))))))))
     ·intro cr
      replace cr : ae.2.1 ≤ (rowF a.1 a.2.1 (LineV.fs a)).1.2.2.1 := by omega
      refine qT (zV (qw (yB (pt ak 1) zf (qw (yB (pt ak 1) zf (qw (yD ak 1 (I3 ((rowF a.1 a.2.1 (LineV.fs a)).1.2.1)) zk zf (yI e rfl) (qw (zV (qw (yB (pt o 0) zf (qw (yB (pt o 0) zf (qw (yD o 0 g zk zf (yI c rfl) (qw (zV (qw ?_))))))))))))))))))
      have hz := (b.rd).at (k := 5) zj bj
      obtain ⟨bn, ax, cf, ca⟩ := hz
      refine yN (k := .i64) g j _ bn ax el96 cf zo zk zk (qw (yB (pt bn ((ax + j * 5) + 1)) zf (qw (yB (pt bn (((ax + j * 5) + 1) + 1)) zf (qw (yD bn (((ax + j * 5) + 1) + 1) (I3 ae.2.2.1) zk zf (ca 2 _ rfl) (qw (xV .i32 ((rowF a.1 a.2.1 (LineV.fs a)).1.2.1) ae.2.2.1 ((rowF a.1 a.2.1 (LineV.fs a)).1.2.1 ≤ ae.2.2.1) rfl (cmp_le ((rowF a.1 a.2.1 (LineV.fs a)).1.2.1) ae.2.2.1) zk zk ?_ ?_))))))))
      ·intro cz
       replace cz : (rowF a.1 a.2.1 (LineV.fs a)).1.2.1 ≤ ae.2.2.1 := by omega
       refine qT (yQ ?_)
       intro d9 cb
       refine zB (zT (yA (xX zk zk (zV (zV ?_)))))
       have hz := zX l6 i zo; obtain ⟨ch, a9⟩ := hz
       have d := d.below cb
       have hz := (d.rd).at (k := 5) zj a9
       obtain ⟨bw, a1, ci, co⟩ := hz
       have ck := scan_ok zo hl a9
       first | (have bs := Option.some.inj (a9.symm.trans bx); subst bs) | have bx := a9
       refine yN (k := .i64) q2 i _ bw a1 el58 ci zo zk zk (yB (pt bw (a1 + i * 5)) zf (yD bw (a1 + i * 5) (I6 ch.1) zk zf (co 0 _ rfl) (qZ (qZ (qZ (yQ ?_))))))
       intro d2 c8
       refine zB (zR (zL (zG (zG (zL (zG (zL (zG (zG (zL (zG (zZ [(.pointer none), (I6 ch.1), (I6 42)] (hd := aj) ?_))))))))))))
       exfalso; exact ref_dead hok (Zl i3 za (sR_meet zo za za za za zo zo) (by decide)) (by decide)
      intro cu
      replace cu : ae.2.2.1 < (rowF a.1 a.2.1 (LineV.fs a)).1.2.1 := by omega
      refine qT (yQ ?_)
      intro dm am
      refine zB (zF (zK (zJ (zB (zP (zD (xN j 1 (zH (zQ ?_)))))))))
      have n := n.tr am
      have e := zC e am
      have c := zC c am
      have l := l.below am
      have d := d.below am
      have b := b.below am
      exact zB ⟨_, zo, (j + 1), rfl, aj, zk, d, b, l, c, e, n, zo, noMeet_on j3 za (.inr (.inr (.inr zo)))⟩
     intro cw
     replace cw : (rowF a.1 a.2.1 (LineV.fs a)).1.2.2.1 < ae.2.1 := by omega
     refine qT (zV (qs (qs (qs (qs (qs (qs (qs (qs (qs (qs (qs (qs (qs (qF (yQ ?_))))))))))))))))
     intro dh ao
     refine zB (zF (zK (zJ (zB (zP (zD (xN j 1 (zH (zQ ?_)))))))))
     have n := n.tr ao
     have e := zC e ao
     have c := zC c ao
     have l := l.below ao
     have d := d.below ao
     have b := b.below ao
     exact zB ⟨_, zo, (j + 1), rfl, aj, zk, d, b, l, c, e, n, zo, noMeet_on j3 za (.inr (.inr (.inl zo)))⟩
    intro dy
    refine nQ (zF (yU (zS (zS (yF (zB (wD 11 zk zk zk ?_)))))))
    intro dn p
    refine ip 0 rfl (pt o 0) (ip 1 rfl (pt o 0) (ip 2 rfl (pt o 0) (ip 3 rfl (pt o 0) (qD 4 5 zk ?_ ?_))))
    ·skip
     refine yO 4 rfl ?_ rfl
     have c := zC c p
     refine zO 0 c rfl (zQ ?_)
     refine ⟨rfl, yC 5 zk (yO 5 rfl ?_ rfl)⟩
     have e := zC e p
     refine vT e (zQ ?_)
     refine ⟨rfl, yC 6 zk (yO 6 rfl ?_ rfl)⟩
     refine zM 1 [(I6 ((rowF a.1 a.2.1 (LineV.fs a)).1.1)), (I3 ((rowF a.1 a.2.1 (LineV.fs a)).1.2.1)), (I3 ((rowF a.1 a.2.1 (LineV.fs a)).1.2.2.1)), (U8 ((rowF a.1 a.2.1 (LineV.fs a)).1.2.2.2.1)), (.bool ((rowF a.1 a.2.1 (LineV.fs a)).1.2.2.2.2))] 100 ?_
     intro b1 cv ai
     have n := n.tr p
     have bz := ai.ge n.size
     have b := b.below p
     have ad : Value.ownBlock g = none ∨ Value.ownBlock g ≠ Value.ownBlock (.slice (some ⟨b1, 0, none⟩) 1 1) := .inr (b.new_ne ai)
     have ac := yW ad
     have bk : Row cv w.heap.size 100 5 encRow7 (.slice (some ⟨b1, 0, none⟩) 1 1) ([((rowF a.1 a.2.1 (LineV.fs a)).1.1, (rowF a.1 a.2.1 (LineV.fs a)).1.2.1, (rowF a.1 a.2.1 (LineV.fs a)).1.2.2.1, (rowF a.1 a.2.1 (LineV.fs a)).1.2.2.2.1, (rowF a.1 a.2.1 (LineV.fs a)).1.2.2.2.2)] : List (Int × Int × Int × Int × Bool)) := Row.made ([((rowF a.1 a.2.1 (LineV.fs a)).1.1, (rowF a.1 a.2.1 (LineV.fs a)).1.2.1, (rowF a.1 a.2.1 (LineV.fs a)).1.2.2.1, (rowF a.1 a.2.1 (LineV.fs a)).1.2.2.2.1, (rowF a.1 a.2.1 (LineV.fs a)).1.2.2.2.2)] : List (Int × Int × Int × Int × Bool)) ai bz rfl rfl (by first | decide | (simp; done))
     refine zQ ?_
     refine ⟨rfl, yC 7 zk (yO 7 rfl ?_ rfl)⟩
     have n := n.tr ai.below
     have b := b.below ai.below
     refine xM el96 w.heap.size g (.slice (some ⟨b1, 0, none⟩) 1 1) t ([((rowF a.1 a.2.1 (LineV.fs a)).1.1, (rowF a.1 a.2.1 (LineV.fs a)).1.2.1, (rowF a.1 a.2.1 (LineV.fs a)).1.2.2.1, (rowF a.1 a.2.1 (LineV.fs a)).1.2.2.2.1, (rowF a.1 a.2.1 (LineV.fs a)).1.2.2.2.2)] : List (Int × Int × Int × Int × Bool)) n.size b bk.rd (by (simp only [List.length_append, List.length_cons, List.length_nil] <;> omega)) zj zj zk zk zk ?_
     intro b2 dk cg bg bc 
     have e := zC e ai.below
     have q := ownb_app2 bc h (yL e)
     have b6 := xD bk bc ac
     have n := n.tg n.size bg b
     have c := zC c ai.below
     have c := zY c bg (b.ne c zi)
     have d := (d.below p).below ai.below
     have d := d.grown bg (d.apart b zk)
     have h := q
     have b := cg
     refine zQ ?_
     refine ⟨rfl, ip 8 rfl (pt o 0) (ip 9 rfl (pt o 0) (yC 10 zk (yO 10 rfl ?_ rfl)))⟩
     refine xC o 0 b2 [g] [b2] 98 zk zk b.one zk c zi rfl ?_
     intro d5 ba
     have d := d.wrote ba (d.ne c zi)
     have b := b.wrote ba (b.ne c zi)
     have c := ba.here
     refine zQ ?_
     refine ⟨rfl, yJ zk (zJ (zB (zP (zD (xN i 1 (zH (zQ ?_)))))))⟩
     have n := n.trans (ba.below av)
     refine zB ⟨_, zo, (i + 1), (t ++ ([((rowF a.1 a.2.1 (LineV.fs a)).1.1, (rowF a.1 a.2.1 (LineV.fs a)).1.2.1, (rowF a.1 a.2.1 (LineV.fs a)).1.2.2.1, (rowF a.1 a.2.1 (LineV.fs a)).1.2.2.2.1, (rowF a.1 a.2.1 (LineV.fs a)).1.2.2.2.2)] : List (Int × Int × Int × Int × Bool))), b2, rfl, aj, zk, d, b, c, n, zo, ?_, ?_⟩
     ·exact invR_on i3 za (sR_take zo za j3 zo)
     (simp only [List.length_append, List.length_cons, List.length_nil]; omega)
    skip
    refine yO 5 rfl ?_ rfl
    have e := zC e p
    refine vT e (zQ ?_)
    refine ⟨rfl, qD 4 6 zk ?_ ?_⟩
    ·skip
     refine yO 4 rfl ?_ rfl
     have c := zC c p
     refine zO 0 c rfl (zQ ?_)
     refine ⟨rfl, yC 6 zk (yO 6 rfl ?_ rfl)⟩
     refine zM 1 [(I6 ((rowF a.1 a.2.1 (LineV.fs a)).1.1)), (I3 ((rowF a.1 a.2.1 (LineV.fs a)).1.2.1)), (I3 ((rowF a.1 a.2.1 (LineV.fs a)).1.2.2.1)), (U8 ((rowF a.1 a.2.1 (LineV.fs a)).1.2.2.2.1)), (.bool ((rowF a.1 a.2.1 (LineV.fs a)).1.2.2.2.2))] 100 ?_
     intro b5 cs ah
     have n := n.tr p
     have bv := ah.ge n.size
     have b := b.below p
     have af : Value.ownBlock g = none ∨ Value.ownBlock g ≠ Value.ownBlock (.slice (some ⟨b5, 0, none⟩) 1 1) := .inr (b.new_ne ah)
     have aa := yW af
     have bb : Row cs w.heap.size 100 5 encRow7 (.slice (some ⟨b5, 0, none⟩) 1 1) ([((rowF a.1 a.2.1 (LineV.fs a)).1.1, (rowF a.1 a.2.1 (LineV.fs a)).1.2.1, (rowF a.1 a.2.1 (LineV.fs a)).1.2.2.1, (rowF a.1 a.2.1 (LineV.fs a)).1.2.2.2.1, (rowF a.1 a.2.1 (LineV.fs a)).1.2.2.2.2)] : List (Int × Int × Int × Int × Bool)) := Row.made ([((rowF a.1 a.2.1 (LineV.fs a)).1.1, (rowF a.1 a.2.1 (LineV.fs a)).1.2.1, (rowF a.1 a.2.1 (LineV.fs a)).1.2.2.1, (rowF a.1 a.2.1 (LineV.fs a)).1.2.2.2.1, (rowF a.1 a.2.1 (LineV.fs a)).1.2.2.2.2)] : List (Int × Int × Int × Int × Bool)) ah bv rfl rfl (by first | decide | (simp; done))
     refine zQ ?_
     refine ⟨rfl, yC 7 zk (yO 7 rfl ?_ rfl)⟩
     have n := n.tr ah.below
     have b := b.below ah.below
     refine xM el96 w.heap.size g (.slice (some ⟨b5, 0, none⟩) 1 1) t ([((rowF a.1 a.2.1 (LineV.fs a)).1.1, (rowF a.1 a.2.1 (LineV.fs a)).1.2.1, (rowF a.1 a.2.1 (LineV.fs a)).1.2.2.1, (rowF a.1 a.2.1 (LineV.fs a)).1.2.2.2.1, (rowF a.1 a.2.1 (LineV.fs a)).1.2.2.2.2)] : List (Int × Int × Int × Int × Bool)) n.size b bb.rd (by (simp only [List.length_append, List.length_cons, List.length_nil] <;> omega)) zj zj zk zk zk ?_
     intro be c3 br a3 a8 
     have e := zC e ah.below
     have q := ownb_app2 a8 h (yL e)
     have b3 := xD bb a8 aa
     have n := n.tg n.size a3 b
     have c := zC c ah.below
     have c := zY c a3 (b.ne c zi)
     have d := (d.below p).below ah.below
     have d := d.grown a3 (d.apart b zk)
     have h := q
     have b := br
     refine zQ ?_
     refine ⟨rfl, ip 8 rfl (pt o 0) (ip 9 rfl (pt o 0) (yC 10 zk (yO 10 rfl ?_ rfl)))⟩
     refine xC o 0 be [g] [be] 98 zk zk b.one zk c zi rfl ?_
     intro c5 au
     have d := d.wrote au (d.ne c zi)
     have b := b.wrote au (b.ne c zi)
     have c := au.here
     refine zQ ?_
     refine ⟨rfl, yJ zk (zJ (zB (zP (zD (xN i 1 (zH (zQ ?_)))))))⟩
     have n := n.trans (au.below av)
     refine zB ⟨_, zo, (i + 1), (t ++ ([((rowF a.1 a.2.1 (LineV.fs a)).1.1, (rowF a.1 a.2.1 (LineV.fs a)).1.2.1, (rowF a.1 a.2.1 (LineV.fs a)).1.2.2.1, (rowF a.1 a.2.1 (LineV.fs a)).1.2.2.2.1, (rowF a.1 a.2.1 (LineV.fs a)).1.2.2.2.2)] : List (Int × Int × Int × Int × Bool))), be, rfl, aj, zk, d, b, c, n, zo, ?_, ?_⟩
     ·exact invR_on i3 za (sR_take zo za j3 zo)
     (simp only [List.length_append, List.length_cons, List.length_nil]; omega)
    skip
    refine yO 6 rfl ?_ rfl
    refine zM 1 [(I6 ((rowF a.1 a.2.1 (LineV.fs a)).1.1)), (I3 ((rowF a.1 a.2.1 (LineV.fs a)).1.2.1)), (I3 ((rowF a.1 a.2.1 (LineV.fs a)).1.2.2.1)), (U8 ((rowF a.1 a.2.1 (LineV.fs a)).1.2.2.2.1)), (.bool ((rowF a.1 a.2.1 (LineV.fs a)).1.2.2.2.2))] 100 ?_
    intro bi cd r
    have n := n.tr p
    have bm := r.ge n.size
    have b := b.below p
    have z : Value.ownBlock g = none ∨ Value.ownBlock g ≠ Value.ownBlock (.slice (some ⟨bi, 0, none⟩) 1 1) := .inr (b.new_ne r)
    have y := yW z
    have a6 : Row cd w.heap.size 100 5 encRow7 (.slice (some ⟨bi, 0, none⟩) 1 1) ([((rowF a.1 a.2.1 (LineV.fs a)).1.1, (rowF a.1 a.2.1 (LineV.fs a)).1.2.1, (rowF a.1 a.2.1 (LineV.fs a)).1.2.2.1, (rowF a.1 a.2.1 (LineV.fs a)).1.2.2.2.1, (rowF a.1 a.2.1 (LineV.fs a)).1.2.2.2.2)] : List (Int × Int × Int × Int × Bool)) := Row.made ([((rowF a.1 a.2.1 (LineV.fs a)).1.1, (rowF a.1 a.2.1 (LineV.fs a)).1.2.1, (rowF a.1 a.2.1 (LineV.fs a)).1.2.2.1, (rowF a.1 a.2.1 (LineV.fs a)).1.2.2.2.1, (rowF a.1 a.2.1 (LineV.fs a)).1.2.2.2.2)] : List (Int × Int × Int × Int × Bool)) r bm rfl rfl (by first | decide | (simp; done))
    refine zQ ?_
    refine ⟨rfl, yC 4 zk (yO 4 rfl ?_ rfl)⟩
    have c := zC (zC c p) r.below
    refine zO 0 c rfl (zQ ?_)
    refine ⟨rfl, yC 7 zk (yO 7 rfl ?_ rfl)⟩
    have n := n.tr r.below
    have b := b.below r.below
    refine xM el96 w.heap.size g (.slice (some ⟨bi, 0, none⟩) 1 1) t ([((rowF a.1 a.2.1 (LineV.fs a)).1.1, (rowF a.1 a.2.1 (LineV.fs a)).1.2.1, (rowF a.1 a.2.1 (LineV.fs a)).1.2.2.1, (rowF a.1 a.2.1 (LineV.fs a)).1.2.2.2.1, (rowF a.1 a.2.1 (LineV.fs a)).1.2.2.2.2)] : List (Int × Int × Int × Int × Bool)) n.size b a6.rd (by (simp only [List.length_append, List.length_cons, List.length_nil] <;> omega)) zj zj zk zk zk ?_
    intro bf db b4 a0 a7 
    have e := zC e r.below
    have q := ownb_app2 a7 h (yL e)
    have bq := xD a6 a7 y
    have n := n.tg n.size a0 b
    have c := zY c a0 (b.ne c zi)
    have d := (d.below p).below r.below
    have d := d.grown a0 (d.apart b zk)
    have h := q
    have b := b4
    refine zQ ?_
    refine ⟨rfl, ip 8 rfl (pt o 0) (ip 9 rfl (pt o 0) (yC 10 zk (yO 10 rfl ?_ rfl)))⟩
    refine xC o 0 bf [g] [bf] 98 zk zk b.one zk c zi rfl ?_
    intro c6 ar
    have d := d.wrote ar (d.ne c zi)
    have b := b.wrote ar (b.ne c zi)
    have c := ar.here
    refine zQ ?_
    refine ⟨rfl, yJ zk (zJ (zB (zP (zD (xN i 1 (zH (zQ ?_)))))))⟩
    have n := n.trans (ar.below av)
    refine zB ⟨_, zo, (i + 1), (t ++ ([((rowF a.1 a.2.1 (LineV.fs a)).1.1, (rowF a.1 a.2.1 (LineV.fs a)).1.2.1, (rowF a.1 a.2.1 (LineV.fs a)).1.2.2.1, (rowF a.1 a.2.1 (LineV.fs a)).1.2.2.2.1, (rowF a.1 a.2.1 (LineV.fs a)).1.2.2.2.2)] : List (Int × Int × Int × Int × Bool))), bf, rfl, aj, zk, d, b, c, n, zo, ?_, ?_⟩
    ·exact invR_on i3 za (sR_take zo za j3 zo)
    (simp only [List.length_append, List.length_cons, List.length_nil]; omega)
   intro c7
   refine zr (I6 ((rowF a.1 a.2.1 (LineV.fs a)).2.2)) (zN [(I6 0), (I3 0), (I3 0), (U8 0), (.bool false)] 100 ?_)
   intro c2 c9 u
   have n := n.tr ab
   have az := u.ge n.size
   have b := b.below ab
   have h := b.new_ne u
   have e := u.here
   refine qQ [(I6 ((rowF a.1 a.2.1 (LineV.fs a)).1.1)), (I3 ((rowF a.1 a.2.1 (LineV.fs a)).1.2.1)), (I3 ((rowF a.1 a.2.1 (LineV.fs a)).1.2.2.1)), (U8 ((rowF a.1 a.2.1 (LineV.fs a)).1.2.2.2.1)), (.bool ((rowF a.1 a.2.1 (LineV.fs a)).1.2.2.2.2))] e ?_
   intro c1 aw
   have c := zC (zC c ab) u.below
   have c := zI c aw (zU c e zi)
   have d := (d.below ab).below u.below
   have d := d.wrote aw (d.ne e zi)
   refine zH (zH (nW (wR (zD (zNe .i64 ((rowF a.1 a.2.1 (LineV.fs a)).2.2) 0 ?_ ?_)))))
   ·intro bh
    exfalso; exact ref_dead hok (Zl i3 za (sR_bad bh) bh) bh
   intro da
   refine nQ (zF (zK (zB (yA (wR (zD (qO false (nQ (zT (yU (zS (yF (zB (zP (zD (xN i 1 (zH (zQ ?_))))))))))))))))))
   have n := (n.tr u.below).trans (aw.below az)
   have b := (b.below u.below).wrote aw h
   exact zB ⟨_, zo, (i + 1), t, g, rfl, aj, zk, d, b, c, n, zo, invR_on i3 za (sR_skip zo za), zo⟩
  intro c4
  exact nQ (zF (yU (zS (zS (yF (zB (wR (zD (zH (zH (zH (nQ (zR (zZ [(pt o 0), (I6 0), (I6 0)] (hd := aj) ⟨g, o, rfl, b.cast (by (rw [invR_end i3 zo]; done)), c, av, n⟩))))))))))))))
 skip
 exfalso; exact cy (cls_ok1 hok)
theorem c_ref07_Read_bad (s : List UInt8) (w : World) (hs : s.length ≤ 33554432) (hbad : (clsF s).2.2 ≠ 0) :
  Calls Tryz.prog 19 #[(S s)] w (Ret fun v w' => v = (.tuple #[(.pointer none), (I6 ((clsF s).2.1)), (I6 ((clsF s).2.2))]) ∧ Below w.heap.size w w') := by
 refine wJ 120 func19 rfl ?_
 have n := Below.refl w.heap.size w
 refine wR (zH (zH (zH (nR (zD ?_)))))
 by_cases ei : (badL (toldF s)).2 = 0
 ·skip
  refine zc (c_ref03_Read_ok s _ zo zo) ?_
  rintro _ w3 ⟨l6, q2, rfl, d, c6, d7, d3, c9⟩
  have d := d.base n.size
  refine zD (zr q2 (zr (I6 0) (zr (I6 0) (zH (zH (zH (nW (wR (zD (zr (.bool false) (nQ (zF (zK (zB (wR (zr (Value.agg #[(.slice none 0 0)]) (zN [(.slice none 0 0)] 98 ?_)))))))))))))))))
  intro o eg a9
  have n := n.tr c9
  have a2 := a9.ge n.size
  have c := a9.here
  refine zH (nW (wR (zH (nQ (zW ?_)))))
  have hl := c6
  have dx := lines_len hl
  have du := Zm s
  have n := n.tr a9.below
  have d := d.below a9.below
  refine xA (fun m s0 w0 => ∃ (i : Nat) (y : List RowC) (g : Value), (m = l6.length - i) ∧ (s0.ds = []) ∧ ([5, 8, 9].map s0.f = [q2, (pt o 0), (N6 i)]) ∧ (NRow 9 w0 w.heap.size 72 5 encLine q2 l6) ∧ (Row w0 w.heap.size 100 5 encRow7 g y) ∧ (w0.heap[o]? = some (.cells [g].toArray 98 (0, 0))) ∧ (Below w.heap.size w w0) ∧ (i ≤ l6.length) ∧ (invR s l6 i y) ∧ (y.length ≤ i)) _ ⟨0, [], (.slice none 0 0), rfl, zk, zk, d, Row.nil _ _ _ _ _, c, n, (Nat.zero_le _), (invR_zero (by first | assumption | exact cls_ok1 hok) hl), (Nat.le_refl _)⟩ ?_
  rintro ee eo c5 ⟨i, y, g, hm, ai, b5, d, b, c, n, i1, i3, i4⟩
  refine yX b5 (yA (wR (zD (zD (vY underlying58 (d.rd).len (nLt i ((l6).length) ?_ ?_))))))
  ·intro dw
   refine nQ (zT (zK (zB (yA (zW (wR (zD (zD ?_))))))))
   have hz := zX l6 i zo; obtain ⟨a, am⟩ := hz
   have hz := (d.rd).at (k := 5) zj am
   obtain ⟨c1, bh, cp, c0⟩ := hz
   have cs := scan_ok zo hl am
   first | (have b2 := Option.some.inj (am.symm.trans b9); subst b2) | have b9 := am
   refine yS (k := .i64) q2 i _ c1 bh el58 cp zo zk zk ?_
   have l : Row c5 w.heap.size 9 1 encStr (LineV.v a) (LineV.fs a) := d.inner (List.mem_of_getElem? am)
   refine xB c1 (bh + i * 5) [(I6 a.1), (U8 a.2.1), (S a.2.2.1), (LineV.v a), (S a.2.2.2.2)] zk zk zk c0 (zc (c_ref07_row a.1 a.2.1 a.2.2.1 (LineV.v a) (LineV.fs a) a.2.2.2.2 _ l.rd (by exact (by assumption : _ ∧ _ ∧ _).1) (by exact (by assumption : _ ∧ _ ∧ _).2.2)) ?_)
   rintro _ d5 ⟨rfl, ae⟩
   refine zD (zr (Value.agg #[(I6 ((rowF a.1 a.2.1 (LineV.fs a)).1.1)), (I3 ((rowF a.1 a.2.1 (LineV.fs a)).1.2.1)), (I3 ((rowF a.1 a.2.1 (LineV.fs a)).1.2.2.1)), (U8 ((rowF a.1 a.2.1 (LineV.fs a)).1.2.2.2.1)), (.bool ((rowF a.1 a.2.1 (LineV.fs a)).1.2.2.2.2))]) (zr (.bool ((rowF a.1 a.2.1 (LineV.fs a)).2.1)) (yT ((rowF a.1 a.2.1 (LineV.fs a)).2.1) ?_ ?_)))
   ·intro ea
    refine zr (I6 ((rowF a.1 a.2.1 (LineV.fs a)).2.2)) (zN [(I6 0), (I3 0), (I3 0), (U8 0), (.bool false)] 100 ?_)
    intro ao en ad
    have n := n.tr ae
    have al := ad.ge n.size
    have b := b.below ae
    have h := b.new_ne ad
    have e := ad.here
    refine qQ [(I6 ((rowF a.1 a.2.1 (LineV.fs a)).1.1)), (I3 ((rowF a.1 a.2.1 (LineV.fs a)).1.2.1)), (I3 ((rowF a.1 a.2.1 (LineV.fs a)).1.2.2.1)), (U8 ((rowF a.1 a.2.1 (LineV.fs a)).1.2.2.2.1)), (.bool ((rowF a.1 a.2.1 (LineV.fs a)).1.2.2.2.2))] e ?_
    intro d0 an
    have c := zC (zC c ae) ad.below
    have c := zI c an (zU c e zi)
    have d := (d.below ae).below ad.below
    have d := d.wrote an (d.ne e zi)
    have l := (l.below ae).below ad.below
    have l := l.wrote an (l.ne e zi)
    have e := an.here
    refine zH (zH (nW (wR (zD (zNe .i64 ((rowF a.1 a.2.1 (LineV.fs a)).2.2) 0 ?_ ?_)))))
    ·intro d9
     refine nQ (zT (yA (xX zk zk (zV (zV ?_)))))
     have hz := (d.rd).at (k := 5) zj am
     obtain ⟨bz, a7, cq, cw⟩ := hz
     refine yN (k := .i64) q2 i _ bz a7 el58 cq zo zk zk (yB (pt bz (a7 + i * 5)) zf (yD bz (a7 + i * 5) (I6 a.1) zk zf (cw 0 _ rfl) (zV (qZ (qZ (qZ (yQ ?_)))))))
     intro dz cm
     have n := ((n.tr ad.below).trans (an.below al)).tr cm
     exact zB (zR (zG (zL (zG (zG (zL (zG (zZ [(.pointer none), (I6 a.1), (I6 ((rowF a.1 a.2.1 (LineV.fs a)).2.2))] (hd := ai) ⟨Zj rfl (e6 (by exact (ref_line (Zl i3 za (sR_bad za) za)).1)) (e6 (by exact (ref_line (Zl i3 za (sR_bad za) za)).2)), n⟩))))))))
    intro ef
    refine nQ (zF (zK (zB (yA (wR (zD (qO true (nQ (zF (zK (zB (yA (wR (zH (nQ (zW ?_))))))))))))))))
    have n := (n.tr ad.below).trans (an.below al)
    have b := (b.below ad.below).wrote an h
    refine xA (fun m s0 w0 => ∃ (j : Nat), (m = y.length - j) ∧ (s0.ds = []) ∧ ([5, 8, 9, 10, 13].map s0.f = [q2, (pt o 0), (N6 i), (pt ao 0), (N6 j)]) ∧ (NRow 9 w0 w.heap.size 72 5 encLine q2 l6) ∧ (Row w0 w.heap.size 100 5 encRow7 g y) ∧ (Row w0 w.heap.size 9 1 encStr (LineV.v a) (LineV.fs a)) ∧ (w0.heap[o]? = some (.cells [g].toArray 98 (0, 0))) ∧ (w0.heap[ao]? = some (.cells [(I6 ((rowF a.1 a.2.1 (LineV.fs a)).1.1)), (I3 ((rowF a.1 a.2.1 (LineV.fs a)).1.2.1)), (I3 ((rowF a.1 a.2.1 (LineV.fs a)).1.2.2.1)), (U8 ((rowF a.1 a.2.1 (LineV.fs a)).1.2.2.2.1)), (.bool ((rowF a.1 a.2.1 (LineV.fs a)).1.2.2.2.2))].toArray 100 (0, 0))) ∧ (Below w.heap.size w w0) ∧ (j ≤ y.length) ∧ (noMeet y ((rowF a.1 a.2.1 (LineV.fs a)).1) j)) _ ⟨0, rfl, ai, zk, d, b, l, c, e, n, (Nat.zero_le _), (noMeet_zero _ _)⟩ ?_
    rintro em eb dv ⟨j, hm, ai, b5, d, b, l, c, e, n, j1, j3⟩
    refine yX b5 (yA (wR (zD (zD (zr (pt o 0) (wB 0 c rfl (vY underlying96 (b.rd).len (nLt j ((y).length) ?_ ?_))))))))
    ·intro d2
     refine nQ (zT (zK (zB (yA (zW (yA (xX zk zk (yB (pt ao 4) zf (yD ao 4 (.bool ((rowF a.1 a.2.1 (LineV.fs a)).1.2.2.2.2)) zk zf (yI e rfl) (Lq_put_split ((rowF a.1 a.2.1 (LineV.fs a)).1.2.2.2.2) ?_ ?_))))))))))
     ·intro d1
      refine Lq_not true zk (zV (qs (qs (qs (qs (qs (qs (qs (qs (qs (qF (zV (qs (qs (qs (qs (qs (qs (qs (qs (qs (qs (qs (qs (qs (qF (zV (qs (qs (qs (qs (qs (qs (qs (qs (qs (qs (qs (qs (qs (qF (yQ ?_))))))))))))))))))))))))))))))))))))))))))
      intro d4 au
      refine zB (zF (zK (zJ (zB (zP (zD (xN j 1 (zH (zQ ?_)))))))))
      have n := n.tr au
      have e := zC e au
      have c := zC c au
      have l := l.below au
      have d := d.below au
      have b := b.below au
      exact zB ⟨_, zo, (j + 1), rfl, ai, zk, d, b, l, c, e, n, zo, noMeet_m za⟩
     intro eh
     refine Lq_not false zk (zV (qw (zV (qw (yB (pt o 0) zf (qw (yB (pt o 0) zf (qw (yD o 0 g zk zf (yI c rfl) (qw (zV (qw ?_))))))))))))
     have hz := zX y j zo; obtain ⟨af, bn⟩ := hz
     have hz := (b.rd).at (k := 5) zj bn
     obtain ⟨b1, a8, cz, ci⟩ := hz
     refine yN (k := .i64) g j _ b1 a8 el96 cz zo zk zk (qw (yB (pt b1 ((a8 + j * 5) + 4)) zf (qw (yD b1 ((a8 + j * 5) + 4) (.bool af.2.2.2.2) zk zf (ci 4 _ rfl) (Lq_put_split af.2.2.2.2 ?_ ?_)))))
     ·intro ec
      refine qw (Lq_not true zk (qT (zV (qs (qs (qs (qs (qs (qs (qs (qs (qs (qs (qs (qs (qs (qF (zV (qs (qs (qs (qs (qs (qs (qs (qs (qs (qs (qs (qs (qs (qF (yQ ?_)))))))))))))))))))))))))))))))))
      intro ed aq
      refine zB (zF (zK (zJ (zB (zP (zD (xN j 1 (zH (zQ ?_)))))))))
      have n := n.tr aq
      have e := zC e aq
      have c := zC c aq
      have l := l.below aq
      have d := d.below aq
      have b := b.below aq
      exact zB ⟨_, zo, (j + 1), rfl, ai, zk, d, b, l, c, e, n, zo, noMeet_on j3 za (.inr (.inl za))⟩
     intro dr
     refine qw (Lq_not false zk (qT (zV (qw (zV (qw (yB (pt o 0) zf (qw (yB (pt o 0) zf (qw (yD o 0 g zk zf (yI c rfl) (qw (zV (qw ?_))))))))))))))
     have hz := (b.rd).at (k := 5) zj bn
     obtain ⟨bp, aw, cr, cj⟩ := hz
     refine yN (k := .i64) g j _ bp aw el96 cr zo zk zk (qw (yB (pt bp ((aw + j * 5) + 1)) zf (qw (yB (pt bp ((aw + j * 5) + 1)) zf (qw (yD bp ((aw + j * 5) + 1) (I3 af.2.1) zk zf (cj 1 _ rfl) (qw (yB (pt ao 1) zf (qw (yB (pt ao 2) zf (qw (yD ao 2 (I3 ((rowF a.1 a.2.1 (LineV.fs a)).1.2.2.1)) zk zf (yI e rfl) (qw (xV .i32 af.2.1 ((rowF a.1 a.2.1 (LineV.fs a)).1.2.2.1) (af.2.1 ≤ (rowF a.1 a.2.1 (LineV.fs a)).1.2.2.1) rfl (cmp_le af.2.1 ((rowF a.1 a.2.1 (LineV.fs a)).1.2.2.1)) zk zk ?_ ?_))))))))))))))
     ·intro c8
      replace c8 : af.2.1 ≤ (rowF a.1 a.2.1 (LineV.fs a)).1.2.2.1 := by omega
      refine qT (zV (qw (yB (pt ao 1) zf (qw (yB (pt ao 1) zf (qw (yD ao 1 (I3 ((rowF a.1 a.2.1 (LineV.fs a)).1.2.1)) zk zf (yI e rfl) (qw (zV (qw (yB (pt o 0) zf (qw (yB (pt o 0) zf (qw (yD o 0 g zk zf (yI c rfl) (qw (zV (qw ?_))))))))))))))))))
      have hz := (b.rd).at (k := 5) zj bn
      obtain ⟨bq, az, ct, ck⟩ := hz
      refine yN (k := .i64) g j _ bq az el96 ct zo zk zk (qw (yB (pt bq ((az + j * 5) + 1)) zf (qw (yB (pt bq (((az + j * 5) + 1) + 1)) zf (qw (yD bq (((az + j * 5) + 1) + 1) (I3 af.2.2.1) zk zf (ck 2 _ rfl) (qw (xV .i32 ((rowF a.1 a.2.1 (LineV.fs a)).1.2.1) af.2.2.1 ((rowF a.1 a.2.1 (LineV.fs a)).1.2.1 ≤ af.2.2.1) rfl (cmp_le ((rowF a.1 a.2.1 (LineV.fs a)).1.2.1) af.2.2.1) zk zk ?_ ?_))))))))
      ·intro c3
       replace c3 : (rowF a.1 a.2.1 (LineV.fs a)).1.2.1 ≤ af.2.2.1 := by omega
       refine qT (yQ ?_)
       intro ej bw
       refine zB (zT (yA (xX zk zk (zV (zV ?_)))))
       have hz := zX l6 i zo; obtain ⟨ch, bc⟩ := hz
       have d := d.below bw
       have hz := (d.rd).at (k := 5) zj bc
       obtain ⟨b6, a6, cv, co⟩ := hz
       have cn := scan_ok zo hl bc
       first | (have b2 := Option.some.inj (bc.symm.trans b9); subst b2) | have b9 := bc
       refine yN (k := .i64) q2 i _ b6 a6 el58 cv zo zk zk (yB (pt b6 (a6 + i * 5)) zf (yD b6 (a6 + i * 5) (I6 ch.1) zk zf (co 0 _ rfl) (qZ (qZ (qZ (yQ ?_))))))
       intro dt cy
       have n := (n.tr bw).tr cy
       exact zB (zR (zL (zG (zG (zL (zG (zL (zG (zG (zL (zG (zZ [(.pointer none), (I6 ch.1), (I6 42)] (hd := ai) ⟨Zj rfl (e6 (by exact (ref_line (Zl i3 za (sR_meet zo za za za za zo zo) (by decide))).1)) (e6 (by exact (ref_line (Zl i3 za (sR_meet zo za za za za zo zo) (by decide))).2)), n⟩))))))))))))
      intro da
      replace da : af.2.2.1 < (rowF a.1 a.2.1 (LineV.fs a)).1.2.1 := by omega
      refine qT (yQ ?_)
      intro d8 ar
      refine zB (zF (zK (zJ (zB (zP (zD (xN j 1 (zH (zQ ?_)))))))))
      have n := n.tr ar
      have e := zC e ar
      have c := zC c ar
      have l := l.below ar
      have d := d.below ar
      have b := b.below ar
      exact zB ⟨_, zo, (j + 1), rfl, ai, zk, d, b, l, c, e, n, zo, noMeet_on j3 za (.inr (.inr (.inr zo)))⟩
     intro c7
     replace c7 : (rowF a.1 a.2.1 (LineV.fs a)).1.2.2.1 < af.2.1 := by omega
     refine qT (zV (qs (qs (qs (qs (qs (qs (qs (qs (qs (qs (qs (qs (qs (qF (yQ ?_))))))))))))))))
     intro ep ap
     refine zB (zF (zK (zJ (zB (zP (zD (xN j 1 (zH (zQ ?_)))))))))
     have n := n.tr ap
     have e := zC e ap
     have c := zC c ap
     have l := l.below ap
     have d := d.below ap
     have b := b.below ap
     exact zB ⟨_, zo, (j + 1), rfl, ai, zk, d, b, l, c, e, n, zo, noMeet_on j3 za (.inr (.inr (.inl zo)))⟩
    intro el
    refine nQ (zF (yU (zS (zS (yF (zB (wD 11 zk zk zk ?_)))))))
    intro dy p
    refine ip 0 rfl (pt o 0) (ip 1 rfl (pt o 0) (ip 2 rfl (pt o 0) (ip 3 rfl (pt o 0) (qD 4 5 zk ?_ ?_))))
    ·skip
     refine yO 4 rfl ?_ rfl
     have c := zC c p
     refine zO 0 c rfl (zQ ?_)
     refine ⟨rfl, yC 5 zk (yO 5 rfl ?_ rfl)⟩
     have e := zC e p
     refine vT e (zQ ?_)
     refine ⟨rfl, yC 6 zk (yO 6 rfl ?_ rfl)⟩
     refine zM 1 [(I6 ((rowF a.1 a.2.1 (LineV.fs a)).1.1)), (I3 ((rowF a.1 a.2.1 (LineV.fs a)).1.2.1)), (I3 ((rowF a.1 a.2.1 (LineV.fs a)).1.2.2.1)), (U8 ((rowF a.1 a.2.1 (LineV.fs a)).1.2.2.2.1)), (.bool ((rowF a.1 a.2.1 (LineV.fs a)).1.2.2.2.2))] 100 ?_
     intro b0 c4 aj
     have n := n.tr p
     have b8 := aj.ge n.size
     have b := b.below p
     have ag : Value.ownBlock g = none ∨ Value.ownBlock g ≠ Value.ownBlock (.slice (some ⟨b0, 0, none⟩) 1 1) := .inr (b.new_ne aj)
     have ah := yW ag
     have bl : Row c4 w.heap.size 100 5 encRow7 (.slice (some ⟨b0, 0, none⟩) 1 1) ([((rowF a.1 a.2.1 (LineV.fs a)).1.1, (rowF a.1 a.2.1 (LineV.fs a)).1.2.1, (rowF a.1 a.2.1 (LineV.fs a)).1.2.2.1, (rowF a.1 a.2.1 (LineV.fs a)).1.2.2.2.1, (rowF a.1 a.2.1 (LineV.fs a)).1.2.2.2.2)] : List (Int × Int × Int × Int × Bool)) := Row.made ([((rowF a.1 a.2.1 (LineV.fs a)).1.1, (rowF a.1 a.2.1 (LineV.fs a)).1.2.1, (rowF a.1 a.2.1 (LineV.fs a)).1.2.2.1, (rowF a.1 a.2.1 (LineV.fs a)).1.2.2.2.1, (rowF a.1 a.2.1 (LineV.fs a)).1.2.2.2.2)] : List (Int × Int × Int × Int × Bool)) aj b8 rfl rfl (by first | decide | (simp; done))
     refine zQ ?_
     refine ⟨rfl, yC 7 zk (yO 7 rfl ?_ rfl)⟩
     have n := n.tr aj.below
     have b := b.below aj.below
     refine xM el96 w.heap.size g (.slice (some ⟨b0, 0, none⟩) 1 1) y ([((rowF a.1 a.2.1 (LineV.fs a)).1.1, (rowF a.1 a.2.1 (LineV.fs a)).1.2.1, (rowF a.1 a.2.1 (LineV.fs a)).1.2.2.1, (rowF a.1 a.2.1 (LineV.fs a)).1.2.2.2.1, (rowF a.1 a.2.1 (LineV.fs a)).1.2.2.2.2)] : List (Int × Int × Int × Int × Bool)) n.size b bl.rd (by (simp only [List.length_append, List.length_cons, List.length_nil] <;> omega)) zj zj zk zk zk ?_
     intro cc ek b4 a5 bb 
     have e := zC e aj.below
     have q := ownb_app2 bb h (yL e)
     have ca := xD bl bb ah
     have n := n.tg n.size a5 b
     have c := zC c aj.below
     have c := zY c a5 (b.ne c zi)
     have d := (d.below p).below aj.below
     have d := d.grown a5 (d.apart b zk)
     have h := q
     have b := b4
     refine zQ ?_
     refine ⟨rfl, ip 8 rfl (pt o 0) (ip 9 rfl (pt o 0) (yC 10 zk (yO 10 rfl ?_ rfl)))⟩
     refine xC o 0 cc [g] [cc] 98 zk zk b.one zk c zi rfl ?_
     intro di av
     have d := d.wrote av (d.ne c zi)
     have b := b.wrote av (b.ne c zi)
     have c := av.here
     refine zQ ?_
     refine ⟨rfl, yJ zk (zJ (zB (zP (zD (xN i 1 (zH (zQ ?_)))))))⟩
     have n := n.trans (av.below a2)
     refine zB ⟨_, zo, (i + 1), (y ++ ([((rowF a.1 a.2.1 (LineV.fs a)).1.1, (rowF a.1 a.2.1 (LineV.fs a)).1.2.1, (rowF a.1 a.2.1 (LineV.fs a)).1.2.2.1, (rowF a.1 a.2.1 (LineV.fs a)).1.2.2.2.1, (rowF a.1 a.2.1 (LineV.fs a)).1.2.2.2.2)] : List (Int × Int × Int × Int × Bool))), cc, rfl, ai, zk, d, b, c, n, zo, ?_, ?_⟩
     ·exact invR_on i3 za (sR_take zo za j3 zo)
     (simp only [List.length_append, List.length_cons, List.length_nil]; omega)
    skip
    refine yO 5 rfl ?_ rfl
    have e := zC e p
    refine vT e (zQ ?_)
    refine ⟨rfl, qD 4 6 zk ?_ ?_⟩
    ·skip
     refine yO 4 rfl ?_ rfl
     have c := zC c p
     refine zO 0 c rfl (zQ ?_)
     refine ⟨rfl, yC 6 zk (yO 6 rfl ?_ rfl)⟩
     refine zM 1 [(I6 ((rowF a.1 a.2.1 (LineV.fs a)).1.1)), (I3 ((rowF a.1 a.2.1 (LineV.fs a)).1.2.1)), (I3 ((rowF a.1 a.2.1 (LineV.fs a)).1.2.2.1)), (U8 ((rowF a.1 a.2.1 (LineV.fs a)).1.2.2.2.1)), (.bool ((rowF a.1 a.2.1 (LineV.fs a)).1.2.2.2.2))] 100 ?_
     intro bj cl r
     have n := n.tr p
     have br := r.ge n.size
     have b := b.below p
     have aa : Value.ownBlock g = none ∨ Value.ownBlock g ≠ Value.ownBlock (.slice (some ⟨bj, 0, none⟩) 1 1) := .inr (b.new_ne r)
     have ac := yW aa
     have ba : Row cl w.heap.size 100 5 encRow7 (.slice (some ⟨bj, 0, none⟩) 1 1) ([((rowF a.1 a.2.1 (LineV.fs a)).1.1, (rowF a.1 a.2.1 (LineV.fs a)).1.2.1, (rowF a.1 a.2.1 (LineV.fs a)).1.2.2.1, (rowF a.1 a.2.1 (LineV.fs a)).1.2.2.2.1, (rowF a.1 a.2.1 (LineV.fs a)).1.2.2.2.2)] : List (Int × Int × Int × Int × Bool)) := Row.made ([((rowF a.1 a.2.1 (LineV.fs a)).1.1, (rowF a.1 a.2.1 (LineV.fs a)).1.2.1, (rowF a.1 a.2.1 (LineV.fs a)).1.2.2.1, (rowF a.1 a.2.1 (LineV.fs a)).1.2.2.2.1, (rowF a.1 a.2.1 (LineV.fs a)).1.2.2.2.2)] : List (Int × Int × Int × Int × Bool)) r br rfl rfl (by first | decide | (simp; done))
     refine zQ ?_
     refine ⟨rfl, yC 7 zk (yO 7 rfl ?_ rfl)⟩
     have n := n.tr r.below
     have b := b.below r.below
     refine xM el96 w.heap.size g (.slice (some ⟨bj, 0, none⟩) 1 1) y ([((rowF a.1 a.2.1 (LineV.fs a)).1.1, (rowF a.1 a.2.1 (LineV.fs a)).1.2.1, (rowF a.1 a.2.1 (LineV.fs a)).1.2.2.1, (rowF a.1 a.2.1 (LineV.fs a)).1.2.2.2.1, (rowF a.1 a.2.1 (LineV.fs a)).1.2.2.2.2)] : List (Int × Int × Int × Int × Bool)) n.size b ba.rd (by (simp only [List.length_append, List.length_cons, List.length_nil] <;> omega)) zj zj zk zk zk ?_
     intro bk dh b3 a3 bd 
     have e := zC e r.below
     have q := ownb_app2 bd h (yL e)
     have bx := xD ba bd ac
     have n := n.tg n.size a3 b
     have c := zC c r.below
     have c := zY c a3 (b.ne c zi)
     have d := (d.below p).below r.below
     have d := d.grown a3 (d.apart b zk)
     have h := q
     have b := b3
     refine zQ ?_
     refine ⟨rfl, ip 8 rfl (pt o 0) (ip 9 rfl (pt o 0) (yC 10 zk (yO 10 rfl ?_ rfl)))⟩
     refine xC o 0 bk [g] [bk] 98 zk zk b.one zk c zi rfl ?_
     intro dg a1
     have d := d.wrote a1 (d.ne c zi)
     have b := b.wrote a1 (b.ne c zi)
     have c := a1.here
     refine zQ ?_
     refine ⟨rfl, yJ zk (zJ (zB (zP (zD (xN i 1 (zH (zQ ?_)))))))⟩
     have n := n.trans (a1.below a2)
     refine zB ⟨_, zo, (i + 1), (y ++ ([((rowF a.1 a.2.1 (LineV.fs a)).1.1, (rowF a.1 a.2.1 (LineV.fs a)).1.2.1, (rowF a.1 a.2.1 (LineV.fs a)).1.2.2.1, (rowF a.1 a.2.1 (LineV.fs a)).1.2.2.2.1, (rowF a.1 a.2.1 (LineV.fs a)).1.2.2.2.2)] : List (Int × Int × Int × Int × Bool))), bk, rfl, ai, zk, d, b, c, n, zo, ?_, ?_⟩
     ·exact invR_on i3 za (sR_take zo za j3 zo)
     (simp only [List.length_append, List.length_cons, List.length_nil]; omega)
    skip
    refine yO 6 rfl ?_ rfl
    refine zM 1 [(I6 ((rowF a.1 a.2.1 (LineV.fs a)).1.1)), (I3 ((rowF a.1 a.2.1 (LineV.fs a)).1.2.1)), (I3 ((rowF a.1 a.2.1 (LineV.fs a)).1.2.2.1)), (U8 ((rowF a.1 a.2.1 (LineV.fs a)).1.2.2.2.1)), (.bool ((rowF a.1 a.2.1 (LineV.fs a)).1.2.2.2.2))] 100 ?_
    intro bo cu u
    have n := n.tr p
    have bs := u.ge n.size
    have b := b.below p
    have ab : Value.ownBlock g = none ∨ Value.ownBlock g ≠ Value.ownBlock (.slice (some ⟨bo, 0, none⟩) 1 1) := .inr (b.new_ne u)
    have z := yW ab
    have be : Row cu w.heap.size 100 5 encRow7 (.slice (some ⟨bo, 0, none⟩) 1 1) ([((rowF a.1 a.2.1 (LineV.fs a)).1.1, (rowF a.1 a.2.1 (LineV.fs a)).1.2.1, (rowF a.1 a.2.1 (LineV.fs a)).1.2.2.1, (rowF a.1 a.2.1 (LineV.fs a)).1.2.2.2.1, (rowF a.1 a.2.1 (LineV.fs a)).1.2.2.2.2)] : List (Int × Int × Int × Int × Bool)) := Row.made ([((rowF a.1 a.2.1 (LineV.fs a)).1.1, (rowF a.1 a.2.1 (LineV.fs a)).1.2.1, (rowF a.1 a.2.1 (LineV.fs a)).1.2.2.1, (rowF a.1 a.2.1 (LineV.fs a)).1.2.2.2.1, (rowF a.1 a.2.1 (LineV.fs a)).1.2.2.2.2)] : List (Int × Int × Int × Int × Bool)) u bs rfl rfl (by first | decide | (simp; done))
    refine zQ ?_
    refine ⟨rfl, yC 4 zk (yO 4 rfl ?_ rfl)⟩
    have c := zC (zC c p) u.below
    refine zO 0 c rfl (zQ ?_)
    refine ⟨rfl, yC 7 zk (yO 7 rfl ?_ rfl)⟩
    have n := n.tr u.below
    have b := b.below u.below
    refine xM el96 w.heap.size g (.slice (some ⟨bo, 0, none⟩) 1 1) y ([((rowF a.1 a.2.1 (LineV.fs a)).1.1, (rowF a.1 a.2.1 (LineV.fs a)).1.2.1, (rowF a.1 a.2.1 (LineV.fs a)).1.2.2.1, (rowF a.1 a.2.1 (LineV.fs a)).1.2.2.2.1, (rowF a.1 a.2.1 (LineV.fs a)).1.2.2.2.2)] : List (Int × Int × Int × Int × Bool)) n.size b be.rd (by (simp only [List.length_append, List.length_cons, List.length_nil] <;> omega)) zj zj zk zk zk ?_
    intro bg dj cd a4 bf 
    have e := zC e u.below
    have q := ownb_app2 bf h (yL e)
    have bu := xD be bf z
    have n := n.tg n.size a4 b
    have c := zY c a4 (b.ne c zi)
    have d := (d.below p).below u.below
    have d := d.grown a4 (d.apart b zk)
    have h := q
    have b := cd
    refine zQ ?_
    refine ⟨rfl, ip 8 rfl (pt o 0) (ip 9 rfl (pt o 0) (yC 10 zk (yO 10 rfl ?_ rfl)))⟩
    refine xC o 0 bg [g] [bg] 98 zk zk b.one zk c zi rfl ?_
    intro dn ax
    have d := d.wrote ax (d.ne c zi)
    have b := b.wrote ax (b.ne c zi)
    have c := ax.here
    refine zQ ?_
    refine ⟨rfl, yJ zk (zJ (zB (zP (zD (xN i 1 (zH (zQ ?_)))))))⟩
    have n := n.trans (ax.below a2)
    refine zB ⟨_, zo, (i + 1), (y ++ ([((rowF a.1 a.2.1 (LineV.fs a)).1.1, (rowF a.1 a.2.1 (LineV.fs a)).1.2.1, (rowF a.1 a.2.1 (LineV.fs a)).1.2.2.1, (rowF a.1 a.2.1 (LineV.fs a)).1.2.2.2.1, (rowF a.1 a.2.1 (LineV.fs a)).1.2.2.2.2)] : List (Int × Int × Int × Int × Bool))), bg, rfl, ai, zk, d, b, c, n, zo, ?_, ?_⟩
    ·exact invR_on i3 za (sR_take zo za j3 zo)
    (simp only [List.length_append, List.length_cons, List.length_nil]; omega)
   intro de
   refine zr (I6 ((rowF a.1 a.2.1 (LineV.fs a)).2.2)) (zN [(I6 0), (I3 0), (I3 0), (U8 0), (.bool false)] 100 ?_)
   intro dk dm t
   have n := n.tr ae
   have al := t.ge n.size
   have b := b.below ae
   have h := b.new_ne t
   have e := t.here
   refine qQ [(I6 ((rowF a.1 a.2.1 (LineV.fs a)).1.1)), (I3 ((rowF a.1 a.2.1 (LineV.fs a)).1.2.1)), (I3 ((rowF a.1 a.2.1 (LineV.fs a)).1.2.2.1)), (U8 ((rowF a.1 a.2.1 (LineV.fs a)).1.2.2.2.1)), (.bool ((rowF a.1 a.2.1 (LineV.fs a)).1.2.2.2.2))] e ?_
   intro dl ak
   have c := zC (zC c ae) t.below
   have c := zI c ak (zU c e zi)
   have d := (d.below ae).below t.below
   have d := d.wrote ak (d.ne e zi)
   refine zH (zH (nW (wR (zD (zNe .i64 ((rowF a.1 a.2.1 (LineV.fs a)).2.2) 0 ?_ ?_)))))
   ·intro df
    refine nQ (zT (yA (xX zk zk (zV (zV ?_)))))
    have hz := (d.rd).at (k := 5) zj am
    obtain ⟨bi, a0, cf, ce⟩ := hz
    refine yN (k := .i64) q2 i _ bi a0 el58 cf zo zk zk (yB (pt bi (a0 + i * 5)) zf (yD bi (a0 + i * 5) (I6 a.1) zk zf (ce 0 _ rfl) (zV (qZ (qZ (qZ (yQ ?_)))))))
    intro dc cb
    have n := ((n.tr t.below).trans (ak.below al)).tr cb
    exact zB (zR (zG (zL (zG (zG (zL (zG (zZ [(.pointer none), (I6 a.1), (I6 ((rowF a.1 a.2.1 (LineV.fs a)).2.2))] (hd := ai) ⟨Zj rfl (e6 (by exact (ref_line (Zl i3 za (sR_bad za) za)).1)) (e6 (by exact (ref_line (Zl i3 za (sR_bad za) za)).2)), n⟩))))))))
   intro dq
   refine nQ (zF (zK (zB (yA (wR (zD (qO false (nQ (zT (yU (zS (yF (zB (zP (zD (xN i 1 (zH (zQ ?_))))))))))))))))))
   have n := (n.tr t.below).trans (ak.below al)
   have b := (b.below t.below).wrote ak h
   exact zB ⟨_, zo, (i + 1), y, g, rfl, ai, zk, d, b, c, n, zo, invR_on i3 za (sR_skip zo za), zo⟩
  intro cx
  exfalso; exact ref_live hbad (invR_end i3 cx)
 skip
 refine zc (c_ref03_Read_bad s _ zo zo) ?_
 rintro _ dp ⟨rfl, b7⟩
 refine zD (zr (.slice none 0 0) (zr (I6 ((badL (toldF s)).1)) (zr (I6 ((badL (toldF s)).2)) (zH (zH (zH (nW (wR (zD (zNe .i64 ((badL (toldF s)).2) 0 ?_ ?_))))))))))
 ·intro db
  have n := n.tr b7
  exact nQ (zT (wR (zD (zD (zH (zH (zH (nQ (zR (zG (zZ [(.pointer none), (I6 ((badL (toldF s)).1)), (I6 ((badL (toldF s)).2))] ⟨Zj rfl (e6 (by (rw [cls_bad za]; done))) (e6 (by (rw [cls_bad za]; done))), n⟩)))))))))))
 intro dd
 exfalso; omega
theorem c_ref07_add {B_ : Nat} (o : Value) (l : List (Int)) (x : Int) (w : World) (hB_ : B_ ≤ w.heap.size) (i : Row w B_ 21 1 encI32 o l) (hl : l.length ≤ 1073741824) :
  Calls Tryz.prog 126 #[o, (I3 x)] w (Ret fun v w' => ∃ q0 : Value, v = q0 ∧ Row w' B_ 21 1 encI32 q0 (insF l x) ∧ (∀ g, Value.ownBlock q0 = some g → w.heap.size ≤ g ∨ Value.ownBlock o = some g) ∧ Below w.heap.size w w') := by
 refine wJ 48 func126 rfl ?_
 have n := Below.refl w.heap.size w
 refine wR (zH (nR (zH (nW (zW (xA (fun m s0 w0 => ∃ (a : Nat), (m = l.length - a) ∧ (s0.ds = []) ∧ ([0, 1, 4, 5].map s0.f = [o, (I3 x), (.slice none 0 0), (N6 a)]) ∧ (Row w0 B_ 21 1 encI32 o l) ∧ (Below w.heap.size w w0) ∧ (a ≤ l.length) ∧ (lowE l x a)) _ ⟨0, rfl, zk, zk, i, n, (Nat.zero_le _), (lowE_zero _ _)⟩ ?_))))))
 rintro m1 s2 w3 ⟨a, hm, p, b4, i, n, a1, a3⟩
 refine yX b4 (yA (wR (zD (zD (vY underlying47 (i.rd).len (nLt a ((l).length) ?_ ?_))))))
 ·intro h4
  refine zD (zw (zD (zw (zD (zw ?_)))))
  have z := zX l a zo; obtain ⟨x5, ba⟩ := z
  have z := (i.rd).at (k := 1) zj ba
  obtain ⟨g7, ac, bz, bg⟩ := z
  refine yS (k := .i64) o a _ g7 ac wP bz zo zk zk (zw (qL g7 (ac + a * 1) (I3 x5) zk zk (bg 0 _ rfl) (zw (zD (zw (zLt .i32 x5 x ?_ ?_))))))
  ·intro cn
   refine xJ (nQ (zT (zK (zB (zW (zP (zD (xN a 1 (zH (zQ (zJ (zB ⟨_, zo, (a + 1), rfl, p, zk, i, n, zo, ?_⟩))))))))))))
   exact lowE_on a3 za zo
  intro cy
  refine xJ (nQ (zF (yU (zS (zS (yF (zB (yA (wR (zD (zD (vY underlying47 (i.rd).len (nLt a ((l).length) ?_ ?_)))))))))))))
  ·intro c3
   refine zD (zw (zD (zw (zD (zw ?_)))))
   have z := (i.rd).at (k := 1) zj ba
   obtain ⟨bb, q, bq, bt⟩ := z
   refine yS (k := .i64) o a _ bb q wP bq zo zk zk (zw (qL bb (q + a * 1) (I3 x5) zk zk (bt 0 _ rfl) (zw (zD (zw (qX .i32 x5 x ?_ ?_))))))
   ·intro cw
    exact xJ (nQ (zT (wR (zD (zH (nQ (zR (zG (zZ [o] (hd := p) ⟨_, rfl, i.cast (by exact (ins_here a3 za zo)), fun g e => .inr e, n⟩)))))))))
   intro cs
   refine xJ (nQ (zF (zK (zB (wR (zH (nR (zD (zD (zD (L_slto wP o l a i zj zo zk ⟨.i64, zk⟩ ?_)))))))))))
   intro b1 au
   refine xM wP w.heap.size (.slice none 0 0) b1 ([] : List (Int)) (List.take a l) n.size (Row.nil _ w.heap.size 21 1 encI32) au (by (simp only [List.length_append, List.length_take, List.length_drop, List.length_cons, List.length_nil] <;> omega)) zj zj zk zk zk ?_
   intro ch cu be ag ar 
   have c := xD i ar (qI _)
   have n := n.grown ag n.size (fun k hk => by simp [Value.ownBlock] at hk)
   have i := i.grown ag (by cases h : Value.ownBlock _ <;> simp [Value.ownBlock])
   have b := c
   have j := yW c
   have d := be
   refine zH (nR (zD (zD (wH wP w.heap.size ch (([] : List (Int)) ++ (List.take a l)) x n.size d (by (simp only [List.length_append, List.length_take, List.length_drop, List.length_cons, List.length_nil] <;> omega)) zk rfl rfl zk rfl zk zk ?_))))
   intro b5 c2 a9 ad aj
   have c := ap_app i aj b
   have n := n.tg n.size ad d
   have i := i.grown ad b
   have b := c; have j := yW c
   have d := a9
   refine zH (nR (zD (zD (zD (L_slfromV wP o l a i zj zo zk ⟨.i64, zk⟩ ?_)))))
   intro cg a5
   refine xM wP w.heap.size b5 cg ((([] : List (Int)) ++ (List.take a l)) ++ [x]) (List.drop a l) n.size d a5 (by (simp only [List.length_append, List.length_take, List.length_drop, List.length_cons, List.length_nil] <;> omega)) zj zj zk zk zk ?_
   intro bx c4 bc bi ao 
   have c := xD i ao b
   have n := n.tg n.size bi d
   have d := bc
   exact zH (nQ (zR (zZ [bx] (hd := p) ⟨_, rfl, (d.base hB_).cast (by exact (ins_new a3 za zo)), fun g e => .inl (World.ownsRow.lt d g e).1, n⟩)))
  intro c1
  refine zD (zs (zs (zs (zs (zs (zs (xF (nQ (zF (zK (zB (wR (zH (nR (zD (zD (zD (L_slto wP o l a i zj zo zk ⟨.i64, zk⟩ ?_))))))))))))))))))
  intro ce a0
  refine xM wP w.heap.size (.slice none 0 0) ce ([] : List (Int)) (List.take a l) n.size (Row.nil _ w.heap.size 21 1 encI32) a0 zo zj zj zk zk zk ?_
  intro b0 c5 bf ab ak 
  have c := xD i ak (qI _)
  have n := n.grown ab n.size (fun k hk => by simp [Value.ownBlock] at hk)
  have i := i.grown ab (by cases h : Value.ownBlock _ <;> simp [Value.ownBlock])
  have b := c
  have j := yW c
  have d := bf
  refine zH (nR (zD (zD (wH wP w.heap.size b0 (([] : List (Int)) ++ (List.take a l)) x n.size d zo zk rfl rfl zk rfl zk zk ?_))))
  intro b7 cx bp af ap
  have c := ap_app i ap b
  have n := n.tg n.size af d
  have i := i.grown af b
  have b := c; have j := yW c
  have d := bp
  refine zH (nR (zD (zD (zD (L_slfromV wP o l a i zj zo zk ⟨.i64, zk⟩ ?_)))))
  intro cf ai
  refine xM wP w.heap.size b7 cf ((([] : List (Int)) ++ (List.take a l)) ++ [x]) (List.drop a l) n.size d ai zo zj zj zk zk zk ?_
  intro b3 cp bv a8 aw 
  have c := xD i aw b
  have n := n.tg n.size a8 d
  have d := bv
  exact zH (nQ (zR (zZ [b3] (hd := p) ⟨_, rfl, (d.base hB_).cast (by exact (ins_new a3 za zo)), fun g e => .inl (World.ownsRow.lt d g e).1, n⟩)))
 intro cl
 refine zD (zs (zs (zs (zs (zs (zs (xF (nQ (zF (yU (zS (zS (yF (zB (yA (wR (zD (zD (vY underlying47 (i.rd).len (nLt a ((l).length) ?_ ?_))))))))))))))))))))
 ·intro cv
  refine zD (zw (zD (zw (zD (zw ?_)))))
  have z := zX l a zo; obtain ⟨bj, br⟩ := z
  have z := (i.rd).at (k := 1) zj br
  obtain ⟨bl, s, bs, bk⟩ := z
  refine yS (k := .i64) o a _ bl s wP bs zo zk zk (zw (qL bl (s + a * 1) (I3 bj) zk zk (bk 0 _ rfl) (zw (zD (zw (qX .i32 bj x ?_ ?_))))))
  ·intro ct
   exact xJ (nQ (zT (wR (zD (zH (nQ (zR (zG (zZ [o] (hd := p) ⟨_, rfl, i.cast (by exact (ins_here a3 za zo)), fun g e => .inr e, n⟩)))))))))
  intro ck
  refine xJ (nQ (zF (zK (zB (wR (zH (nR (zD (zD (zD (L_slto wP o l a i zj zo zk ⟨.i64, zk⟩ ?_)))))))))))
  intro b6 an
  refine xM wP w.heap.size (.slice none 0 0) b6 ([] : List (Int)) (List.take a l) n.size (Row.nil _ w.heap.size 21 1 encI32) an zo zj zj zk zk zk ?_
  intro cc cz bd ah ay 
  have c := xD i ay (qI _)
  have n := n.grown ah n.size (fun k hk => by simp [Value.ownBlock] at hk)
  have i := i.grown ah (by cases h : Value.ownBlock _ <;> simp [Value.ownBlock])
  have b := c
  have j := yW c
  have d := bd
  refine zH (nR (zD (zD (wH wP w.heap.size cc (([] : List (Int)) ++ (List.take a l)) x n.size d zo zk rfl rfl zk rfl zk zk ?_))))
  intro ca cr bn aa a4
  have c := ap_app i a4 b
  have n := n.tg n.size aa d
  have i := i.grown aa b
  have b := c; have j := yW c
  have d := bn
  refine zH (nR (zD (zD (zD (L_slfromV wP o l a i zj zo zk ⟨.i64, zk⟩ ?_)))))
  intro b2 az
  refine xM wP w.heap.size ca b2 ((([] : List (Int)) ++ (List.take a l)) ++ [x]) (List.drop a l) n.size d az zo zj zj zk zk zk ?_
  intro cd co bo bh av 
  have c := xD i av b
  have n := n.tg n.size bh d
  have d := bo
  exact zH (nQ (zR (zZ [cd] (hd := p) ⟨_, rfl, (d.base hB_).cast (by exact (ins_new a3 za zo)), fun g e => .inl (World.ownsRow.lt d g e).1, n⟩)))
 intro cm
 refine zD (zs (zs (zs (zs (zs (zs (xF (nQ (zF (zK (zB (wR (zH (nR (zD (zD (zD (L_slto wP o l a i zj zo zk ⟨.i64, zk⟩ ?_))))))))))))))))))
 intro b8 am
 refine xM wP w.heap.size (.slice none 0 0) b8 ([] : List (Int)) (List.take a l) n.size (Row.nil _ w.heap.size 21 1 encI32) am (by (simp only [List.length_append, List.length_take, List.length_drop, List.length_cons, List.length_nil] <;> omega)) zj zj zk zk zk ?_
 intro cb cq bm ae ax 
 have c := xD i ax (qI _)
 have n := n.grown ae n.size (fun k hk => by simp [Value.ownBlock] at hk)
 have i := i.grown ae (by cases h : Value.ownBlock _ <;> simp [Value.ownBlock])
 have b := c
 have j := yW c
 have d := bm
 refine zH (nR (zD (zD (wH wP w.heap.size cb (([] : List (Int)) ++ (List.take a l)) x n.size d (by (simp only [List.length_append, List.length_take, List.length_drop, List.length_cons, List.length_nil] <;> omega)) zk rfl rfl zk rfl zk zk ?_))))
 intro b9 c0 al r u
 have c := ap_app i u b
 have n := n.tg n.size r d
 have i := i.grown r b
 have b := c; have j := yW c
 have d := al
 refine zH (nR (zD (zD (zD (L_slfromV wP o l a i zj zo zk ⟨.i64, zk⟩ ?_)))))
 intro bu y
 refine xM wP w.heap.size b9 bu ((([] : List (Int)) ++ (List.take a l)) ++ [x]) (List.drop a l) n.size d y (by (simp only [List.length_append, List.length_take, List.length_drop, List.length_cons, List.length_nil] <;> omega)) zj zj zk zk zk ?_
 intro a7 cj a6 a2 t 
 have c := xD i t b
 have n := n.tg n.size a2 d
 have d := a6
 exact zH (nQ (zR (zZ [a7] (hd := p) ⟨_, rfl, (d.base hB_).cast (by exact (ins_past a3 zo)), fun g e => .inl (World.ownsRow.lt d g e).1, n⟩)))
theorem c_ref07_edges (g : Nat) (b : Value) (rows : List (Int × Int × Int × Int × Bool)) (w : World) (c : w.heap[g]? = some (.cells [b].toArray 98 (0, 0))) (a : Rd w encRow7 b rows) (hn : rows.length ≤ 1048576) (hg : ∀ r ∈ rows, 0 ≤ r.2.1 ∧ r.2.1 ≤ r.2.2.1 ∧ r.2.2.1 ≤ 1114111) :
  Calls Tryz.prog 87 #[(pt g 0)] w (Ret fun v w' => ∃ (q0 : Value), v = q0 ∧ Row w' w.heap.size 21 1 encI32 q0 (edgesF rows) ∧ Below w.heap.size w w') := by
 refine wJ 39 func87 rfl ?_
 have j := Below.refl w.heap.size w
 refine wR (zH (nR (zM 2 [(I3 0), (I3 1114112)] 21 ?_)))
 intro b1 w2 n
 have ab := n.ge j.size
 have aa : Row w2 w.heap.size 21 1 encI32 (.slice (some ⟨b1, 0, none⟩) 2 2) ([0, 1114112] : List (Int)) := Row.made ([0, 1114112] : List (Int)) n ab rfl rfl (by first | decide | (simp; done))
 refine zH (nW (wR (zH (nQ (zW ?_)))))
 have j := j.tr n.below
 have c := zC c n.below
 have a := a.below n.below
 refine xA (fun m s0 w0 => ∃ (i : Nat) (u : List Int) (h : Value), (m = rows.length - i) ∧ (s0.ds = []) ∧ ([0, 2, 3, 4].map s0.f = [(pt g 0), (.slice none 0 0), h, (N6 i)]) ∧ (Rd w0 encRow7 b rows) ∧ (Row w0 w.heap.size 21 1 encI32 h u) ∧ (w0.heap[g]? = some (.cells [b].toArray 98 (0, 0))) ∧ (Below w.heap.size w w0) ∧ (i ≤ rows.length) ∧ (u.length ≤ 2 * i + 2) ∧ (u = edgesF (rows.take i))) _ ⟨0, ([0, 1114112] : List (Int)), (.slice (some ⟨b1, 0, none⟩) 2 2), rfl, zk, zk, a, aa, c, j, (Nat.zero_le _), zi, rfl⟩ ?_
 rintro m4 s5 w6 ⟨i, u, h, hm, ag, ak, a, ae, c, j, i1, i2, i3⟩
 refine yX ak (yA (wR (zD (zD (zr (pt g 0) (wB 0 c rfl (vY underlying96 (a).len (nLt i ((rows).length) ?_ ?_))))))))
 ·intro h7
  refine nQ (zT (zK (zB (yA (zW (wR (zD (zD (zr (pt g 0) (wB 0 c rfl (zD ?_)))))))))))
  have hz := zX rows i zo; obtain ⟨q, t⟩ := hz
  have hz := (a).at (k := 5) zj t
  obtain ⟨s, d, ac, af⟩ := hz
  have aj := hg _ (List.mem_of_getElem? t)
  refine yS (k := .i64) b i _ s d el96 ac zo zk zk (zr (pt s ((d + i * 5) + 1)) (zr (pt s ((d + i * 5) + 1)) (qL s ((d + i * 5) + 1) (I3 q.2.1) zk zk (af 1 _ rfl) (zc (c_ref07_add h u q.2.1 _ j.size ae zo) ?_))))
  rintro am aw ⟨_, rfl, z, an, l⟩
  have c := zC c l
  refine zH (nQ (zP (zD (zD (zr (pt g 0) (wB 0 c rfl (zD ?_)))))))
  have a := a.below l
  have hz := (a).at (k := 5) zj t
  obtain ⟨p, e, ai, ah⟩ := hz
  have j := j.tr l
  refine yS (k := .i64) b i _ p e el96 ai zo zk zk (zr (pt p ((e + i * 5) + 1)) (zr (pt p (((e + i * 5) + 1) + 1)) (qL p (((e + i * 5) + 1) + 1) (I3 q.2.2.1) zk zk (ah 2 _ rfl) (yY q.2.2.1 1 (q.2.2.1 + 1) rfl zk zk (xE _ zh zh) (zc (c_ref07_add am (insF u q.2.1) (q.2.2.1 + 1) _ j.size z (by exact Nat.le_trans (ins_len _ _) zo)) ?_)))))
  rintro al av ⟨_, rfl, y, aq, o⟩
  refine zH (zQ (zJ (zB (zP (zD (xN i 1 (zH (zQ ?_))))))))
  have j := j.tr o
  have c := zC c o
  have a := a.below o
  refine zB ⟨_, zo, (i + 1), (insF (insF u q.2.1) (q.2.2.1 + 1)), al, rfl, ag, zk, a, y, c, j, zo, ?_, ?_⟩
  ·(refine Nat.le_trans (ins_len _ _) ?_; refine Nat.le_trans (Nat.succ_le_succ (ins_len _ _)) ?_; omega)
  rw [i3]; exact (edges_take za).symm
 intro ar
 exact nQ (zF (yU (zS (zS (yF (zB (wR (zD (zH (nQ (zR (zZ [h] (hd := ag) ⟨h, rfl, ae.cast (by (rw [i3, List.take_of_length_le zo]; done)), j⟩))))))))))))
theorem c_ref07_strN (a9 : Nat) (q : Value) (rows : List (Int × Int × Int × Int × Bool)) (w : World) (e : w.heap[a9]? = some (.cells [q].toArray 98 (0, 0))) (c : Rd w encRow7 q rows) (hn : rows.length ≤ 1048576) (hg : ∀ r ∈ rows, 0 ≤ r.2.1 ∧ r.2.1 ≤ r.2.2.1 ∧ r.2.2.1 ≤ 1114111) :
  Calls Tryz.prog 54 #[(pt a9 0), (.bool false)] w (Ret fun v w' => ∃ (q0 : Value), v = q0 ∧ Row w' w.heap.size 34 3 encSpanC q0 (strF (fun x => (givenF rows (plainF x)).1) (edgesF rows) []) ∧ Below w.heap.size w w') := by
 refine wJ 96 func54 rfl ?_
 have l := Below.refl w.heap.size w
 have j := c
 have dz := edges_len rows
 have bi := (edges_ok hg).rng
 refine wR (zH (nR (zD (zc (c_ref07_edges a9 q rows _ e c zo zo) ?_))))
 rintro q1 w2 ⟨_, rfl, a, c5⟩
 have a := a.base l.size
 refine zH (nR (zH (nW (wR (zH (nQ (zW ?_)))))))
 have l := l.tr c5
 have e := zC e c5
 have c := j.below l
 refine xA (fun m s0 w0 => ∃ (i : Nat) (d : List SpI) (p : Value), (m = (edgesF rows).length - i) ∧ (s0.ds = []) ∧ ([0, 1, 4, 5, 6, 7].map s0.f = [(pt a9 0), (.bool false), (.slice none 0 0), q1, p, (N6 i)]) ∧ (Rd w0 encRow7 q rows) ∧ (Row w0 w.heap.size 21 1 encI32 q1 (edgesF rows)) ∧ (Row w0 w.heap.size 34 3 encSpanC p d) ∧ (w0.heap[a9]? = some (.cells [q].toArray 98 (0, 0))) ∧ (Below w.heap.size w w0) ∧ (i ≤ (edgesF rows).length) ∧ (d.length ≤ i) ∧ (strF (fun x => (givenF rows (plainF x)).1) ((edgesF rows).drop i) d = strF (fun x => (givenF rows (plainF x)).1) (edgesF rows) []) ∧ (∀ s ∈ d, -1 ≤ s.2.1 ∧ s.2.1 ≤ 1114111)) _ ⟨0, [], (.slice none 0 0), rfl, zk, zk, c, a, Row.nil _ _ _ _ _, e, l, (Nat.zero_le _), (Nat.le_refl _), rfl, (fun s h => by cases h)⟩ ?_
 rintro m5 s6 w7 ⟨i, d, p, hm, a8, dd, c, a, b, e, l, i1, i2, i3, i4⟩
 refine yX dd (yA (wR (zD (xN i 1 (zD (vY underlying47 (a.rd).len (nLt (i + 1) (((edgesF rows)).length) ?_ ?_)))))))
 ·intro h8
  refine nQ (zT (zK (zB (yA (zW (wR (zD (zD (zD ?_)))))))))
  have y := zX (edgesF rows) i zo; obtain ⟨g, aj⟩ := y
  have df := bi _ (List.mem_of_getElem? aj)
  refine zE1 a.rd wP i aj rfl fun _ => (zc (c_ref07_Given a9 q rows g _ e c zo) ?_)
  rintro _ dx ⟨rfl, n⟩
  refine zD (zr (U8 ((givenF rows (plainF g)).1)) (zr (I6 ((givenF rows (plainF g)).2)) (zH (zH (nW (wR (zD (nQ (zF (zK (zB (yA (wR (zD (qX .u8 ((givenF rows (plainF g)).1) 0 ?_ ?_)))))))))))))))
  ·intro d0
   refine nQ (zT (yU (zS (yF (zB (zP (zD (xN i 1 (zH (zQ ?_))))))))))
   have l := l.tr n
   have e := zC e n
   have c := j.below l
   have b := b.below n
   have a := a.below n
   refine zB ⟨_, zo, (i + 1), d, p, rfl, a8, zk, c, a, b, e, l, zo, zo, ?_, ?_⟩
   ·exact str_skip i3 za zo za
   exact i4
  intro du
  have b := b.below n
  refine nQ (zF (zK (zB (wR (zD (vY underlying29 (b.rd).len (zH (nW (yA (xX zk zk (zV (xV .i64 (((d).length : Nat) : Int) ((0 : Nat) : Int) (0 < (d).length) rfl (cmpN_gt ((d).length) 0) zk zk ?_ ?_))))))))))))
  ·intro dh
   replace dh : 0 < (d).length := by omega
   refine zV (qw (zV (qw (zV (qw (Lq_subN ((d).length) 1 zo zo zk zk (qw ?_)))))))
   have y := zX d ((d).length - 1) zo; obtain ⟨o, ak⟩ := y
   have y := (b.rd).at (k := 3) zj ak
   obtain ⟨bp, al, cy, cp⟩ := y
   have c9 := i4 _ (List.mem_of_getElem? ak)
   refine yN (k := .i64) p ((d).length - 1) _ bp al uH cy zo zk zk (qw (yB (pt bp (al + ((d).length - 1) * 3)) zf (qw (yB (pt bp ((al + ((d).length - 1) * 3) + 1)) zf (qw (yD bp ((al + ((d).length - 1) * 3) + 1) (I3 o.2.1) zk zf (cp 1 _ rfl) (qw (qP o.2.1 1 (o.2.1 + 1) rfl zk zk (xE _ zh zh) (qw (zV (qw (zV (qw ?_)))))))))))))
   have a := a.below n
   have y := (a.rd).at (k := 1) zj aj
   obtain ⟨c6, ba, cj, cu⟩ := y
   refine yN (k := .i64) q1 i _ c6 ba wP cj zo zk zk (qw (yD c6 (ba + i * 1) (I3 g) zk zf (cu 0 _ rfl) (qw (xV .i32 (o.2.1 + 1) g ((o.2.1 + 1) = g) rfl (Zq (o.2.1 + 1) g) zk zk ?_ ?_))))
   ·intro di
    replace di : (o.2.1 + 1) = g := by omega
    refine qT (zV (qw (zV (qw (zV (qw (Lq_subN ((d).length) 1 zo zo zk zk (qw ?_))))))))
    have y := (b.rd).at (k := 3) zj ak
    obtain ⟨b3, av, cw, ct⟩ := y
    refine yN (k := .i64) p ((d).length - 1) _ b3 av uH cw zo zk zk (qw (yB (pt b3 ((av + ((d).length - 1) * 3) + 2)) zf (qw (yD b3 ((av + ((d).length - 1) * 3) + 2) (U8 o.2.2) zk zf (ct 2 _ rfl) (qw (zV (qw (xV .u8 o.2.2 ((givenF rows (plainF g)).1) (o.2.2 = (givenF rows (plainF g)).1) rfl (Zq o.2.2 ((givenF rows (plainF g)).1)) zk zk ?_ ?_))))))))
    ·intro dc
     replace dc : o.2.2 = (givenF rows (plainF g)).1 := by omega
     refine qT (yQ ?_)
     intro dw az
     refine zB (zT (wR (zD (zD (zsb ((d).length) 1 (zD (zD (xN i 1 ?_))))))))
     have y := zX (edgesF rows) (i + 1) zo; obtain ⟨ar, bz⟩ := y
     have c8 := bi _ (List.mem_of_getElem? bz)
     have a := a.below az
     refine zE1 a.rd wP (i + 1) bz rfl fun _ => (yY ar 1 (ar - 1) rfl zk zk (xE _ zh zh) ?_)
     have b := b.below az
     have y := (b.rd).at (k := 3) zj ak
     obtain ⟨bl, ap, bv, dj⟩ := y
     refine yS (k := .i64) p ((d).length - 1) _ bl ap uH bv zo zk zk (zr (pt bl (ap + ((d).length - 1) * 3)) (zr (pt bl ((ap + ((d).length - 1) * 3) + 1)) (vC ((d).length - 1) 1 bl ap o (o.1, (ar - 1), o.2.2) (I3 (ar - 1)) b zj ak bv zk zk rfl zk zk rfl ?_)))
     intro dv co bd
     have l := (l.tr n).tr az
     have l := l.tg l.size bd b
     have e := zC (zC e n) az
     have e := zY e bd (b.ne e zi)
     have a := a.grown bd (a.apart b zk)
     have b := co
     have dq : (List.set d ((d).length - 1) (o.1, (ar - 1), o.2.2))[((d).length - 1)]? = some (o.1, (ar - 1), o.2.2) := uB ak
     refine nQ (yU (zS (yF (zB (zP (zD (xN i 1 (zH (zQ ?_)))))))))
     have c := j.below l
     refine zB ⟨_, zo, (i + 1), (List.set d ((d).length - 1) (o.1, (ar - 1), o.2.2)), p, rfl, a8, zk, c, a, b, e, l, zo, ?_, ?_, ?_⟩
     ·(simp only [List.length_append, List.length_cons, List.length_nil, List.length_set]; omega)
     ·exact str_put i3 za za za (str_one za zo za)
     exact hi_set i4 (by dsimp only; omega)
    intro db
    replace db : o.2.2 ≠ (givenF rows (plainF g)).1 := by omega
    refine qT (yQ ?_)
    intro d3 a2
    refine zB (zF (zK (zB (wD 17 zk zk zk ?_))))
    intro d1 a4
    refine ip 0 rfl p (I_pre 1 14 17 3 zk zk zk zk zk zk zk zk zk (zV (zV ?_)))
    have a := (a.below a2).below a4
    have y := (a.rd).at (k := 1) zj aj
    obtain ⟨cl, bb, cv, ck⟩ := y
    refine yN (k := .i64) q1 i _ cl bb wP cv zo zk zk (yD cl (bb + i * 1) (I3 g) zk zf (ck 0 _ rfl) (zV (zV (wW i 1 zo zk zk ?_))))
    have y := zX (edgesF rows) (i + 1) zo; obtain ⟨ah, b2⟩ := y
    have y := (a.rd).at (k := 1) zj b2
    obtain ⟨cs, bg, cz, c2⟩ := y
    have da := bi _ (List.mem_of_getElem? b2)
    refine yN (k := .i64) q1 (i + 1) _ cs bg wP cz zo zk zk (yD cs (bg + (i + 1) * 1) (I3 ah) zk zf (c2 0 _ rfl) (qP ah 1 (ah - 1) rfl zk zk (xE _ zh zh) (yB (Value.agg #[(I3 g), (I3 (ah - 1))]) zf (zV (yB (Value.agg #[(I3 g), (I3 (ah - 1)), (U8 ((givenF rows (plainF g)).1))]) zf (yQ ?_))))))
    intro d4 a3
    refine yC 14 zk (yO 14 rfl ?_ rfl)
    refine zM 1 [(I3 g), (I3 (ah - 1)), (U8 ((givenF rows (plainF g)).1))] 34 ?_
    intro cb de ab
    have l := (((l.tr n).tr a2).tr a4).tr a3
    have b6 := ab.ge l.size
    have b := ((b.below a2).below a4).below a3
    have af : Value.ownBlock p = none ∨ Value.ownBlock p ≠ Value.ownBlock (.slice (some ⟨cb, 0, none⟩) 1 1) := .inr (b.new_ne ab)
    have ag := yW af
    have bh : Row de w.heap.size 34 3 encSpanC (.slice (some ⟨cb, 0, none⟩) 1 1) ([(g, (ah - 1), (givenF rows (plainF g)).1)] : List (Int × Int × Int)) := Row.made ([(g, (ah - 1), (givenF rows (plainF g)).1)] : List (Int × Int × Int)) ab b6 rfl rfl (by first | decide | (simp; done))
    refine zQ ?_
    refine ⟨rfl, yC 15 zk (yO 15 rfl ?_ rfl)⟩
    have l := l.tr ab.below
    have b := b.below ab.below
    refine xM uH w.heap.size p (.slice (some ⟨cb, 0, none⟩) 1 1) d ([(g, (ah - 1), (givenF rows (plainF g)).1)] : List (Int × Int × Int)) l.size b bh.rd (by (simp only [List.length_append, List.length_cons, List.length_nil] <;> omega)) zj zj zk zk zk ?_
    intro cx dy c1 bj b7 
    have ce := xD bh b7 ag
    have l := l.tg l.size bj b
    have e := zC (zC (zC (zC (zC e n) a2) a4) a3) ab.below
    have e := zY e bj (b.ne e zi)
    have a := (a.below a3).below ab.below
    have a := a.grown bj (a.apart b zk)
    have b := c1
    refine zQ ?_
    refine ⟨rfl, ip 16 rfl cx (yJ zk (zJ (zB (zP (zD (xN i 1 (zH (zQ ?_))))))))⟩
    have c := j.below l
    refine zB ⟨_, zo, (i + 1), (d ++ ([(g, (ah - 1), (givenF rows (plainF g)).1)] : List (Int × Int × Int))), cx, rfl, a8, zk, c, a, b, e, l, zo, ?_, ?_, ?_⟩
    ·(simp only [List.length_append, List.length_cons, List.length_nil, List.length_set]; omega)
    ·exact str_put i3 za za za (str_two za (.inr za))
    exact hi_snoc i4 (by dsimp only; omega)
   intro dg
   replace dg : (o.2.1 + 1) ≠ g := by omega
   refine qT (zV (qs (qs (qs (qs (qs (qs (qs (qs (qF (yQ ?_)))))))))))
   intro d2 a0
   refine zB (zF (zK (zB (wD 17 zk zk zk ?_))))
   intro d5 ax
   refine ip 0 rfl p (I_pre 1 14 17 3 zk zk zk zk zk zk zk zk zk (zV (zV ?_)))
   have a := (a.below a0).below ax
   have y := (a.rd).at (k := 1) zj aj
   obtain ⟨cq, bf, c4, c0⟩ := y
   refine yN (k := .i64) q1 i _ cq bf wP c4 zo zk zk (yD cq (bf + i * 1) (I3 g) zk zf (c0 0 _ rfl) (zV (zV (wW i 1 zo zk zk ?_))))
   have y := zX (edgesF rows) (i + 1) zo; obtain ⟨ai, bx⟩ := y
   have y := (a.rd).at (k := 1) zj bx
   obtain ⟨cn, a6, b9, ca⟩ := y
   have c7 := bi _ (List.mem_of_getElem? bx)
   refine yN (k := .i64) q1 (i + 1) _ cn a6 wP b9 zo zk zk (yD cn (a6 + (i + 1) * 1) (I3 ai) zk zf (ca 0 _ rfl) (qP ai 1 (ai - 1) rfl zk zk (xE _ zh zh) (yB (Value.agg #[(I3 g), (I3 (ai - 1))]) zf (zV (yB (Value.agg #[(I3 g), (I3 (ai - 1)), (U8 ((givenF rows (plainF g)).1))]) zf (yQ ?_))))))
   intro dp am
   refine yC 14 zk (yO 14 rfl ?_ rfl)
   refine zM 1 [(I3 g), (I3 (ai - 1)), (U8 ((givenF rows (plainF g)).1))] 34 ?_
   intro be cm u
   have l := (((l.tr n).tr a0).tr ax).tr am
   have bm := u.ge l.size
   have b := ((b.below a0).below ax).below am
   have ae : Value.ownBlock p = none ∨ Value.ownBlock p ≠ Value.ownBlock (.slice (some ⟨be, 0, none⟩) 1 1) := .inr (b.new_ne u)
   have aa := yW ae
   have ay : Row cm w.heap.size 34 3 encSpanC (.slice (some ⟨be, 0, none⟩) 1 1) ([(g, (ai - 1), (givenF rows (plainF g)).1)] : List (Int × Int × Int)) := Row.made ([(g, (ai - 1), (givenF rows (plainF g)).1)] : List (Int × Int × Int)) u bm rfl rfl (by first | decide | (simp; done))
   refine zQ ?_
   refine ⟨rfl, yC 15 zk (yO 15 rfl ?_ rfl)⟩
   have l := l.tr u.below
   have b := b.below u.below
   refine xM uH w.heap.size p (.slice (some ⟨be, 0, none⟩) 1 1) d ([(g, (ai - 1), (givenF rows (plainF g)).1)] : List (Int × Int × Int)) l.size b ay.rd (by (simp only [List.length_append, List.length_cons, List.length_nil] <;> omega)) zj zj zk zk zk ?_
   intro bu dl b4 aw bo 
   have b1 := xD ay bo aa
   have l := l.tg l.size aw b
   have e := zC (zC (zC (zC (zC e n) a0) ax) am) u.below
   have e := zY e aw (b.ne e zi)
   have a := (a.below am).below u.below
   have a := a.grown aw (a.apart b zk)
   have b := b4
   refine zQ ?_
   refine ⟨rfl, ip 16 rfl bu (yJ zk (zJ (zB (zP (zD (xN i 1 (zH (zQ ?_))))))))⟩
   have c := j.below l
   refine zB ⟨_, zo, (i + 1), (d ++ ([(g, (ai - 1), (givenF rows (plainF g)).1)] : List (Int × Int × Int))), bu, rfl, a8, zk, c, a, b, e, l, zo, ?_, ?_, ?_⟩
   ·(simp only [List.length_append, List.length_cons, List.length_nil, List.length_set]; omega)
   ·exact str_put i3 za za za (str_two za (.inl zo))
   exact hi_snoc i4 (by dsimp only; omega)
  intro cr
  replace cr : (d).length ≤ 0 := by omega
  refine zV (qs (qs (qs (qs (qs (qs (qs (qs (qs (qs (qs (qs (qs (qF (zV (qs (qs (qs (qs (qs (qs (qs (qs (qF (yQ ?_)))))))))))))))))))))))))
  intro dm aq
  refine zB (zF (zK (zB (wD 17 zk zk zk ?_))))
  intro dn an
  refine ip 0 rfl p (I_pre 1 14 17 3 zk zk zk zk zk zk zk zk zk (zV (zV ?_)))
  have a := ((a.below n).below aq).below an
  have y := (a.rd).at (k := 1) zj aj
  obtain ⟨bs, a7, cd, cf⟩ := y
  refine yN (k := .i64) q1 i _ bs a7 wP cd zo zk zk (yD bs (a7 + i * 1) (I3 g) zk zf (cf 0 _ rfl) (zV (zV (wW i 1 zo zk zk ?_))))
  have y := zX (edgesF rows) (i + 1) zo; obtain ⟨t, bk⟩ := y
  have y := (a.rd).at (k := 1) zj bk
  obtain ⟨bt, a5, cc, b5⟩ := y
  have c3 := bi _ (List.mem_of_getElem? bk)
  refine yN (k := .i64) q1 (i + 1) _ bt a5 wP cc zo zk zk (yD bt (a5 + (i + 1) * 1) (I3 t) zk zf (b5 0 _ rfl) (qP t 1 (t - 1) rfl zk zk (xE _ zh zh) (yB (Value.agg #[(I3 g), (I3 (t - 1))]) zf (zV (yB (Value.agg #[(I3 g), (I3 (t - 1)), (U8 ((givenF rows (plainF g)).1))]) zf (yQ ?_))))))
  intro dt ao
  refine yC 14 zk (yO 14 rfl ?_ rfl)
  refine zM 1 [(I3 g), (I3 (t - 1)), (U8 ((givenF rows (plainF g)).1))] 34 ?_
  intro bc ci z
  have l := (((l.tr n).tr aq).tr an).tr ao
  have bq := z.ge l.size
  have b := ((b.below aq).below an).below ao
  have ac : Value.ownBlock p = none ∨ Value.ownBlock p ≠ Value.ownBlock (.slice (some ⟨bc, 0, none⟩) 1 1) := .inr (b.new_ne z)
  have ad := yW ac
  have a1 : Row ci w.heap.size 34 3 encSpanC (.slice (some ⟨bc, 0, none⟩) 1 1) ([(g, (t - 1), (givenF rows (plainF g)).1)] : List (Int × Int × Int)) := Row.made ([(g, (t - 1), (givenF rows (plainF g)).1)] : List (Int × Int × Int)) z bq rfl rfl (by first | decide | (simp; done))
  refine zQ ?_
  refine ⟨rfl, yC 15 zk (yO 15 rfl ?_ rfl)⟩
  have l := l.tr z.below
  have b := b.below z.below
  refine xM uH w.heap.size p (.slice (some ⟨bc, 0, none⟩) 1 1) d ([(g, (t - 1), (givenF rows (plainF g)).1)] : List (Int × Int × Int)) l.size b a1.rd (by (simp only [List.length_append, List.length_cons, List.length_nil] <;> omega)) zj zj zk zk zk ?_
  intro bw dk b8 au bn 
  have b0 := xD a1 bn ad
  have l := l.tg l.size au b
  have e := zC (zC (zC (zC (zC e n) aq) an) ao) z.below
  have e := zY e au (b.ne e zi)
  have a := (a.below ao).below z.below
  have a := a.grown au (a.apart b zk)
  have b := b8
  refine zQ ?_
  refine ⟨rfl, ip 16 rfl bw (yJ zk (zJ (zB (zP (zD (xN i 1 (zH (zQ ?_))))))))⟩
  have c := j.below l
  refine zB ⟨_, zo, (i + 1), (d ++ ([(g, (t - 1), (givenF rows (plainF g)).1)] : List (Int × Int × Int))), bw, rfl, a8, zk, c, a, b, e, l, zo, ?_, ?_, ?_⟩
  ·(simp only [List.length_append, List.length_cons, List.length_nil, List.length_set]; omega)
  ·exact str_put i3 za za za (str_none zo)
  exact hi_snoc i4 (by dsimp only; omega)
 intro dr
 exact nQ (zF (yU (zS (zS (yF (zB (wR (zD (zH (nQ (zR (zZ [p] (hd := a8) ⟨p, rfl, b.cast (by exact str_fin i3 zo), l⟩))))))))))))
theorem c_ref07_strW (ay : Nat) (q : Value) (rows : List (Int × Int × Int × Int × Bool)) (w : World) (e : w.heap[ay]? = some (.cells [q].toArray 98 (0, 0))) (c : Rd w encRow7 q rows) (hn : rows.length ≤ 1048576) (hg : ∀ r ∈ rows, 0 ≤ r.2.1 ∧ r.2.1 ≤ r.2.2.1 ∧ r.2.2.1 ≤ 1114111) :
  Calls Tryz.prog 54 #[(pt ay 0), (.bool true)] w (Ret fun v w' => ∃ (q0 : Value), v = q0 ∧ Row w' w.heap.size 34 3 encSpanC q0 (strF (fun x => clsR rows (plainF x)) (edgesF rows) []) ∧ Below w.heap.size w w') := by
 refine wJ 96 func54 rfl ?_
 have l := Below.refl w.heap.size w
 have g := c
 have d0 := edges_len rows
 have bk := (edges_ok hg).rng
 refine wR (zH (nR (zD (zc (c_ref07_edges ay q rows _ e c zo zo) ?_))))
 rintro q1 w2 ⟨_, rfl, a, c8⟩
 have a := a.base l.size
 refine zH (nR (zH (nW (wR (zH (nQ (zW ?_)))))))
 have l := l.tr c8
 have e := zC e c8
 have c := g.below l
 refine xA (fun m s0 w0 => ∃ (i : Nat) (d : List SpI) (p : Value), (m = (edgesF rows).length - i) ∧ (s0.ds = []) ∧ ([0, 1, 4, 5, 6, 7].map s0.f = [(pt ay 0), (.bool true), (.slice none 0 0), q1, p, (N6 i)]) ∧ (Rd w0 encRow7 q rows) ∧ (Row w0 w.heap.size 21 1 encI32 q1 (edgesF rows)) ∧ (Row w0 w.heap.size 34 3 encSpanC p d) ∧ (w0.heap[ay]? = some (.cells [q].toArray 98 (0, 0))) ∧ (Below w.heap.size w w0) ∧ (i ≤ (edgesF rows).length) ∧ (d.length ≤ i) ∧ (strF (fun x => clsR rows (plainF x)) ((edgesF rows).drop i) d = strF (fun x => clsR rows (plainF x)) (edgesF rows) []) ∧ (∀ s ∈ d, -1 ≤ s.2.1 ∧ s.2.1 ≤ 1114111)) _ ⟨0, [], (.slice none 0 0), rfl, zk, zk, c, a, Row.nil _ _ _ _ _, e, l, (Nat.zero_le _), (Nat.le_refl _), rfl, (fun s h => by cases h)⟩ ?_
 rintro m5 s6 w7 ⟨i, d, p, hm, bb, dc, c, a, b, e, l, i1, i2, i3, i4⟩
 refine yX dc (yA (wR (zD (xN i 1 (zD (vY underlying47 (a.rd).len (nLt (i + 1) (((edgesF rows)).length) ?_ ?_)))))))
 ·intro h8
  refine nQ (zT (zK (zB (yA (zW (wR (zD (zD (zD ?_)))))))))
  have z := zX (edgesF rows) i zo; obtain ⟨j, ac⟩ := z
  have df := bk _ (List.mem_of_getElem? ac)
  refine zE1 a.rd wP i ac rfl fun _ => (zc (c_ref07_Given ay q rows j _ e c zo) ?_)
  rintro _ dx ⟨rfl, ar⟩
  refine zD (zr (U8 ((givenF rows (plainF j)).1)) (zr (I6 ((givenF rows (plainF j)).2)) (zH (zH (nW (wR (zD (nQ (zT (zP (zD (zD (zD ?_)))))))))))))
  have l := l.tr ar
  have e := zC e ar
  have c := g.below l
  have a := a.below ar
  refine zE1 a.rd wP i ac rfl fun _ => (zc (c_ref07_Class ay q rows j _ e c zo) ?_)
  rintro _ dy ⟨rfl, n⟩
  refine zH (nW (wR (zD (qX .u8 (clsR rows (plainF j)) 0 ?_ ?_))))
  ·intro d7
   refine nQ (zT (yU (zS (yF (zB (zP (zD (xN i 1 (zH (zQ ?_))))))))))
   have l := l.tr n
   have e := zC e n
   have c := g.below l
   have b := (b.below ar).below n
   have a := a.below n
   refine zB ⟨_, zo, (i + 1), d, p, rfl, bb, zk, c, a, b, e, l, zo, zo, ?_, ?_⟩
   ·exact str_skip i3 za zo za
   exact i4
  intro d3
  have b := (b.below ar).below n
  refine nQ (zF (zK (zB (wR (zD (vY underlying29 (b.rd).len (zH (nW (yA (xX zk zk (zV (xV .i64 (((d).length : Nat) : Int) ((0 : Nat) : Int) (0 < (d).length) rfl (cmpN_gt ((d).length) 0) zk zk ?_ ?_))))))))))))
  ·intro dd
   replace dd : 0 < (d).length := by omega
   refine zV (qw (zV (qw (zV (qw (Lq_subN ((d).length) 1 zo zo zk zk (qw ?_)))))))
   have z := zX d ((d).length - 1) zo; obtain ⟨o, ak⟩ := z
   have z := (b.rd).at (k := 3) zj ak
   obtain ⟨bo, am, co, c0⟩ := z
   have db := i4 _ (List.mem_of_getElem? ak)
   refine yN (k := .i64) p ((d).length - 1) _ bo am uH co zo zk zk (qw (yB (pt bo (am + ((d).length - 1) * 3)) zf (qw (yB (pt bo ((am + ((d).length - 1) * 3) + 1)) zf (qw (yD bo ((am + ((d).length - 1) * 3) + 1) (I3 o.2.1) zk zf (c0 1 _ rfl) (qw (qP o.2.1 1 (o.2.1 + 1) rfl zk zk (xE _ zh zh) (qw (zV (qw (zV (qw ?_)))))))))))))
   have a := a.below n
   have z := (a.rd).at (k := 1) zj ac
   obtain ⟨c4, bd, c3, cn⟩ := z
   refine yN (k := .i64) q1 i _ c4 bd wP c3 zo zk zk (qw (yD c4 (bd + i * 1) (I3 j) zk zf (cn 0 _ rfl) (qw (xV .i32 (o.2.1 + 1) j ((o.2.1 + 1) = j) rfl (Zq (o.2.1 + 1) j) zk zk ?_ ?_))))
   ·intro dh
    replace dh : (o.2.1 + 1) = j := by omega
    refine qT (zV (qw (zV (qw (zV (qw (Lq_subN ((d).length) 1 zo zo zk zk (qw ?_))))))))
    have z := (b.rd).at (k := 3) zj ak
    obtain ⟨b9, ax, cw, cy⟩ := z
    refine yN (k := .i64) p ((d).length - 1) _ b9 ax uH cw zo zk zk (qw (yB (pt b9 ((ax + ((d).length - 1) * 3) + 2)) zf (qw (yD b9 ((ax + ((d).length - 1) * 3) + 2) (U8 o.2.2) zk zf (cy 2 _ rfl) (qw (zV (qw (xV .u8 o.2.2 (clsR rows (plainF j)) (o.2.2 = (clsR rows (plainF j))) rfl (Zq o.2.2 (clsR rows (plainF j))) zk zk ?_ ?_))))))))
    ·intro di
     replace di : o.2.2 = (clsR rows (plainF j)) := by omega
     refine qT (yQ ?_)
     intro d4 a4
     refine zB (zT (wR (zD (zD (zsb ((d).length) 1 (zD (zD (xN i 1 ?_))))))))
     have z := zX (edgesF rows) (i + 1) zo; obtain ⟨av, b4⟩ := z
     have c9 := bk _ (List.mem_of_getElem? b4)
     have a := a.below a4
     refine zE1 a.rd wP (i + 1) b4 rfl fun _ => (yY av 1 (av - 1) rfl zk zk (xE _ zh zh) ?_)
     have b := b.below a4
     have z := (b.rd).at (k := 3) zj ak
     obtain ⟨bt, aq, bv, dl⟩ := z
     refine yS (k := .i64) p ((d).length - 1) _ bt aq uH bv zo zk zk (zr (pt bt (aq + ((d).length - 1) * 3)) (zr (pt bt ((aq + ((d).length - 1) * 3) + 1)) (vC ((d).length - 1) 1 bt aq o (o.1, (av - 1), o.2.2) (I3 (av - 1)) b zj ak bv zk zk rfl zk zk rfl ?_)))
     intro d5 c5 bc
     have l := (l.tr n).tr a4
     have l := l.tg l.size bc b
     have e := zC (zC e n) a4
     have e := zY e bc (b.ne e zi)
     have a := a.grown bc (a.apart b zk)
     have b := c5
     have du : (List.set d ((d).length - 1) (o.1, (av - 1), o.2.2))[((d).length - 1)]? = some (o.1, (av - 1), o.2.2) := uB ak
     refine nQ (yU (zS (yF (zB (zP (zD (xN i 1 (zH (zQ ?_)))))))))
     have c := g.below l
     refine zB ⟨_, zo, (i + 1), (List.set d ((d).length - 1) (o.1, (av - 1), o.2.2)), p, rfl, bb, zk, c, a, b, e, l, zo, ?_, ?_, ?_⟩
     ·(simp only [List.length_append, List.length_cons, List.length_nil, List.length_set]; omega)
     ·exact str_put i3 za za za (str_one za zo za)
     exact hi_set i4 (by dsimp only; omega)
    intro dj
    replace dj : o.2.2 ≠ (clsR rows (plainF j)) := by omega
    refine qT (yQ ?_)
    intro d2 a0
    refine zB (zF (zK (zB (wD 17 zk zk zk ?_))))
    intro d6 a9
    refine ip 0 rfl p (I_pre 1 14 17 3 zk zk zk zk zk zk zk zk zk (zV (zV ?_)))
    have a := (a.below a0).below a9
    have z := (a.rd).at (k := 1) zj ac
    obtain ⟨cr, bf, c1, c6⟩ := z
    refine yN (k := .i64) q1 i _ cr bf wP c1 zo zk zk (yD cr (bf + i * 1) (I3 j) zk zf (c6 0 _ rfl) (zV (zV (wW i 1 zo zk zk ?_))))
    have z := zX (edgesF rows) (i + 1) zo; obtain ⟨aj, bx⟩ := z
    have z := (a.rd).at (k := 1) zj bx
    obtain ⟨cq, bi, cp, cx⟩ := z
    have da := bk _ (List.mem_of_getElem? bx)
    refine yN (k := .i64) q1 (i + 1) _ cq bi wP cp zo zk zk (yD cq (bi + (i + 1) * 1) (I3 aj) zk zf (cx 0 _ rfl) (qP aj 1 (aj - 1) rfl zk zk (xE _ zh zh) (yB (Value.agg #[(I3 j), (I3 (aj - 1))]) zf (zV (yB (Value.agg #[(I3 j), (I3 (aj - 1)), (U8 (clsR rows (plainF j)))]) zf (yQ ?_))))))
    intro d1 az
    refine yC 14 zk (yO 14 rfl ?_ rfl)
    refine zM 1 [(I3 j), (I3 (aj - 1)), (U8 (clsR rows (plainF j)))] 34 ?_
    intro cd dg af
    have l := (((l.tr n).tr a0).tr a9).tr az
    have ck := af.ge l.size
    have b := ((b.below a0).below a9).below az
    have ah : Value.ownBlock p = none ∨ Value.ownBlock p ≠ Value.ownBlock (.slice (some ⟨cd, 0, none⟩) 1 1) := .inr (b.new_ne af)
    have ai := yW ah
    have bm : Row dg w.heap.size 34 3 encSpanC (.slice (some ⟨cd, 0, none⟩) 1 1) ([(j, (aj - 1), (clsR rows (plainF j)))] : List (Int × Int × Int)) := Row.made ([(j, (aj - 1), (clsR rows (plainF j)))] : List (Int × Int × Int)) af ck rfl rfl (by first | decide | (simp; done))
    refine zQ ?_
    refine ⟨rfl, yC 15 zk (yO 15 rfl ?_ rfl)⟩
    have l := l.tr af.below
    have b := b.below af.below
    refine xM uH w.heap.size p (.slice (some ⟨cd, 0, none⟩) 1 1) d ([(j, (aj - 1), (clsR rows (plainF j)))] : List (Int × Int × Int)) l.size b bm.rd (by (simp only [List.length_append, List.length_cons, List.length_nil] <;> omega)) zj zj zk zk zk ?_
    intro c2 dz ct bj b8 
    have cg := xD bm b8 ai
    have l := l.tg l.size bj b
    have e := zC (zC (zC (zC (zC e n) a0) a9) az) af.below
    have e := zY e bj (b.ne e zi)
    have a := (a.below az).below af.below
    have a := a.grown bj (a.apart b zk)
    have b := ct
    refine zQ ?_
    refine ⟨rfl, ip 16 rfl c2 (yJ zk (zJ (zB (zP (zD (xN i 1 (zH (zQ ?_))))))))⟩
    have c := g.below l
    refine zB ⟨_, zo, (i + 1), (d ++ ([(j, (aj - 1), (clsR rows (plainF j)))] : List (Int × Int × Int))), c2, rfl, bb, zk, c, a, b, e, l, zo, ?_, ?_, ?_⟩
    ·(simp only [List.length_append, List.length_cons, List.length_nil, List.length_set]; omega)
    ·exact str_put i3 za za za (str_two za (.inr za))
    exact hi_snoc i4 (by dsimp only; omega)
   intro de
   replace de : (o.2.1 + 1) ≠ j := by omega
   refine qT (zV (qs (qs (qs (qs (qs (qs (qs (qs (qF (yQ ?_)))))))))))
   intro dv a7
   refine zB (zF (zK (zB (wD 17 zk zk zk ?_))))
   intro dw a8
   refine ip 0 rfl p (I_pre 1 14 17 3 zk zk zk zk zk zk zk zk zk (zV (zV ?_)))
   have a := (a.below a7).below a8
   have z := (a.rd).at (k := 1) zj ac
   obtain ⟨bz, a5, b6, ci⟩ := z
   refine yN (k := .i64) q1 i _ bz a5 wP b6 zo zk zk (yD bz (a5 + i * 1) (I3 j) zk zf (ci 0 _ rfl) (zV (zV (wW i 1 zo zk zk ?_))))
   have z := zX (edgesF rows) (i + 1) zo; obtain ⟨t, bg⟩ := z
   have z := (a.rd).at (k := 1) zj bg
   obtain ⟨b3, a3, b7, cc⟩ := z
   have cz := bk _ (List.mem_of_getElem? bg)
   refine yN (k := .i64) q1 (i + 1) _ b3 a3 wP b7 zo zk zk (yD b3 (a3 + (i + 1) * 1) (I3 t) zk zf (cc 0 _ rfl) (qP t 1 (t - 1) rfl zk zk (xE _ zh zh) (yB (Value.agg #[(I3 j), (I3 (t - 1))]) zf (zV (yB (Value.agg #[(I3 j), (I3 (t - 1)), (U8 (clsR rows (plainF j)))]) zf (yQ ?_))))))
   intro dm al
   refine yC 14 zk (yO 14 rfl ?_ rfl)
   refine zM 1 [(I3 j), (I3 (t - 1)), (U8 (clsR rows (plainF j)))] 34 ?_
   intro bh cs y
   have l := (((l.tr n).tr a7).tr a8).tr al
   have bp := y.ge l.size
   have b := ((b.below a7).below a8).below al
   have ad : Value.ownBlock p = none ∨ Value.ownBlock p ≠ Value.ownBlock (.slice (some ⟨bh, 0, none⟩) 1 1) := .inr (b.new_ne y)
   have ab := yW ad
   have ba : Row cs w.heap.size 34 3 encSpanC (.slice (some ⟨bh, 0, none⟩) 1 1) ([(j, (t - 1), (clsR rows (plainF j)))] : List (Int × Int × Int)) := Row.made ([(j, (t - 1), (clsR rows (plainF j)))] : List (Int × Int × Int)) y bp rfl rfl (by first | decide | (simp; done))
   refine zQ ?_
   refine ⟨rfl, yC 15 zk (yO 15 rfl ?_ rfl)⟩
   have l := l.tr y.below
   have b := b.below y.below
   refine xM uH w.heap.size p (.slice (some ⟨bh, 0, none⟩) 1 1) d ([(j, (t - 1), (clsR rows (plainF j)))] : List (Int × Int × Int)) l.size b ba.rd (by (simp only [List.length_append, List.length_cons, List.length_nil] <;> omega)) zj zj zk zk zk ?_
   intro bw dk cj aw br 
   have b5 := xD ba br ab
   have l := l.tg l.size aw b
   have e := zC (zC (zC (zC (zC e n) a7) a8) al) y.below
   have e := zY e aw (b.ne e zi)
   have a := (a.below al).below y.below
   have a := a.grown aw (a.apart b zk)
   have b := cj
   refine zQ ?_
   refine ⟨rfl, ip 16 rfl bw (yJ zk (zJ (zB (zP (zD (xN i 1 (zH (zQ ?_))))))))⟩
   have c := g.below l
   refine zB ⟨_, zo, (i + 1), (d ++ ([(j, (t - 1), (clsR rows (plainF j)))] : List (Int × Int × Int))), bw, rfl, bb, zk, c, a, b, e, l, zo, ?_, ?_, ?_⟩
   ·(simp only [List.length_append, List.length_cons, List.length_nil, List.length_set]; omega)
   ·exact str_put i3 za za za (str_two za (.inl zo))
   exact hi_snoc i4 (by dsimp only; omega)
  intro cv
  replace cv : (d).length ≤ 0 := by omega
  refine zV (qs (qs (qs (qs (qs (qs (qs (qs (qs (qs (qs (qs (qs (qF (zV (qs (qs (qs (qs (qs (qs (qs (qs (qF (yQ ?_)))))))))))))))))))))))))
  intro dt ap
  refine zB (zF (zK (zB (wD 17 zk zk zk ?_))))
  intro dp an
  refine ip 0 rfl p (I_pre 1 14 17 3 zk zk zk zk zk zk zk zk zk (zV (zV ?_)))
  have a := ((a.below n).below ap).below an
  have z := (a.rd).at (k := 1) zj ac
  obtain ⟨b1, a2, cf, ca⟩ := z
  refine yN (k := .i64) q1 i _ b1 a2 wP cf zo zk zk (yD b1 (a2 + i * 1) (I3 j) zk zf (ca 0 _ rfl) (zV (zV (wW i 1 zo zk zk ?_))))
  have z := zX (edgesF rows) (i + 1) zo; obtain ⟨u, be⟩ := z
  have z := (a.rd).at (k := 1) zj be
  obtain ⟨bu, a6, cb, ch⟩ := z
  have cu := bk _ (List.mem_of_getElem? be)
  refine yN (k := .i64) q1 (i + 1) _ bu a6 wP cb zo zk zk (yD bu (a6 + (i + 1) * 1) (I3 u) zk zf (ch 0 _ rfl) (qP u 1 (u - 1) rfl zk zk (xE _ zh zh) (yB (Value.agg #[(I3 j), (I3 (u - 1))]) zf (zV (yB (Value.agg #[(I3 j), (I3 (u - 1)), (U8 (clsR rows (plainF j)))]) zf (yQ ?_))))))
  intro dq ao
  refine yC 14 zk (yO 14 rfl ?_ rfl)
  refine zM 1 [(I3 j), (I3 (u - 1)), (U8 (clsR rows (plainF j)))] 34 ?_
  intro bl c7 aa
  have l := (((l.tr n).tr ap).tr an).tr ao
  have bn := aa.ge l.size
  have b := ((b.below ap).below an).below ao
  have ag : Value.ownBlock p = none ∨ Value.ownBlock p ≠ Value.ownBlock (.slice (some ⟨bl, 0, none⟩) 1 1) := .inr (b.new_ne aa)
  have ae := yW ag
  have a1 : Row c7 w.heap.size 34 3 encSpanC (.slice (some ⟨bl, 0, none⟩) 1 1) ([(j, (u - 1), (clsR rows (plainF j)))] : List (Int × Int × Int)) := Row.made ([(j, (u - 1), (clsR rows (plainF j)))] : List (Int × Int × Int)) aa bn rfl rfl (by first | decide | (simp; done))
  refine zQ ?_
  refine ⟨rfl, yC 15 zk (yO 15 rfl ?_ rfl)⟩
  have l := l.tr aa.below
  have b := b.below aa.below
  refine xM uH w.heap.size p (.slice (some ⟨bl, 0, none⟩) 1 1) d ([(j, (u - 1), (clsR rows (plainF j)))] : List (Int × Int × Int)) l.size b a1.rd (by (simp only [List.length_append, List.length_cons, List.length_nil] <;> omega)) zj zj zk zk zk ?_
  intro b0 dn ce au bq 
  have b2 := xD a1 bq ae
  have l := l.tg l.size au b
  have e := zC (zC (zC (zC (zC e n) ap) an) ao) aa.below
  have e := zY e au (b.ne e zi)
  have a := (a.below ao).below aa.below
  have a := a.grown au (a.apart b zk)
  have b := ce
  refine zQ ?_
  refine ⟨rfl, ip 16 rfl b0 (yJ zk (zJ (zB (zP (zD (xN i 1 (zH (zQ ?_))))))))⟩
  have c := g.below l
  refine zB ⟨_, zo, (i + 1), (d ++ ([(j, (u - 1), (clsR rows (plainF j)))] : List (Int × Int × Int))), b0, rfl, bb, zk, c, a, b, e, l, zo, ?_, ?_, ?_⟩
  ·(simp only [List.length_append, List.length_cons, List.length_nil, List.length_set]; omega)
  ·exact str_put i3 za za za (str_none zo)
  exact hi_snoc i4 (by dsimp only; omega)
 intro dr
 exact nQ (zF (yU (zS (zS (yF (zB (wR (zD (zH (nQ (zR (zZ [p] (hd := bb) ⟨p, rfl, b.cast (by exact str_fin i3 zo), l⟩))))))))))))
theorem c_ref07_Named (d : Nat) (a : Value) (rows : List (Int × Int × Int × Int × Bool)) (w : World) (g : w.heap[d]? = some (.cells [a].toArray 98 (0, 0))) (c : Rd w encRow7 a rows) (hn : rows.length ≤ 1048576) (hg : ∀ r ∈ rows, 0 ≤ r.2.1 ∧ r.2.1 ≤ r.2.2.1 ∧ r.2.2.1 ≤ 1114111) :
  Calls Tryz.prog 24 #[(pt d 0)] w (Ret fun v w' => ∃ (q0 : Value), v = q0 ∧ Row w' w.heap.size 34 3 encSpanC q0 (strF (fun x => (givenF rows (plainF x)).1) (edgesF rows) []) ∧ Below w.heap.size w w') := by
 refine wJ 5 func24 rfl ?_
 have e := Below.refl w.heap.size w
 refine wR (zH (nR (zD (zc (c_ref07_strN d a rows _ g c zo (by exact hg)) ?_))))
 rintro h i ⟨_, rfl, b, f⟩
 have b := b.base e.size
 have e := e.tr f
 exact zH (nQ (zR (zZ [h] ⟨h, rfl, b, e⟩)))
theorem c_ref07_Whole (d : Nat) (a : Value) (rows : List (Int × Int × Int × Int × Bool)) (w : World) (g : w.heap[d]? = some (.cells [a].toArray 98 (0, 0))) (c : Rd w encRow7 a rows) (hn : rows.length ≤ 1048576) (hg : ∀ r ∈ rows, 0 ≤ r.2.1 ∧ r.2.1 ≤ r.2.2.1 ∧ r.2.2.1 ≤ 1114111) :
  Calls Tryz.prog 25 #[(pt d 0)] w (Ret fun v w' => ∃ (q0 : Value), v = q0 ∧ Row w' w.heap.size 34 3 encSpanC q0 (strF (fun x => clsR rows (plainF x)) (edgesF rows) []) ∧ Below w.heap.size w w') := by
 refine wJ 5 func25 rfl ?_
 have e := Below.refl w.heap.size w
 refine wR (zH (nR (zD (zc (c_ref07_strW d a rows _ g c zo (by exact hg)) ?_))))
 rintro h i ⟨_, rfl, b, f⟩
 have b := b.base e.size
 have e := e.tr f
 exact zH (nQ (zR (zZ [h] ⟨h, rfl, b, e⟩)))
end Go.Proofs.YtkclikfejmeblaaGreatDoor
end

/- === As === -/
section
/- errors.As at a target of type **api.Fault, by its own text: turned to this seat out of the worked example by my program asgen.py. -/
namespace Go.Proofs.YtkclikfejmeblaaGreatDoor
open Go Go.RowKit Go.Extern.Stop Go.Stop Go.Extern Go.FK
theorem As.valueOf27 (t : Addr) (w : World) : (ReflectliteValue.unpack (.iface 104 (.pointer (some t)))).run Tryz.prog w
  = .ok (.agg #[.pointer (some ⟨4, 104, none⟩), .pointer (some ⟨w.heap.size, 0, none⟩), .int .u64 150]) (w.alloc (.cells #[.pointer (some t)] 104)) := by kernel_rfl
theorem As.type27 (a : Addr) (w : World) : (ReflectliteValue.methodAny (ReflectliteValue.valueError "reflectlite.Value.Type" 0) (fun t _ _ _ => ReflectliteType.toType t) #[.agg #[.pointer (some ⟨4, 104, none⟩), .pointer (some a), .int .u64 150]]).run Tryz.prog w
  = .ok (.iface 198 (.agg #[.pointer (some ⟨4, 104, none⟩)])) w := by kernel_rfl
theorem As.methodKind (h : Value) (w : World) : (Go.method 394 198 (.agg #[h]) "Kind").run Tryz.prog w = .ok (196, h) w := by kernel_rfl
theorem As.kind27 (w : World) : ((ReflectliteType.abiMethod fun t => (fun a : Nat => Value.int IntKind.u8 (a : Int)) <$> Rtype.kind t) #[.pointer (some ⟨4, 104, none⟩)]).run Tryz.prog w = .ok (.int .u8 22) w := by kernel_rfl
theorem As.kind25 (w : World) : ((ReflectliteType.abiMethod fun t => (fun a : Nat => Value.int IntKind.u8 (a : Int)) <$> Rtype.kind t) #[.pointer (some ⟨4, 73, none⟩)]).run Tryz.prog w = .ok (.int .u8 22) w := by kernel_rfl
theorem rlm (z : Sem Value) (f : TypeId → Addr → Nat → Nat → Sem Value) (v : Value) :
  ReflectliteValue.method z f #[v] = (do match ← ReflectliteValue.parts v with | none => z | some (t, a, fl) => f t a fl (fl % 32)) := rfl
theorem As.parts27 (a : Addr) (w : World) : (ReflectliteValue.parts (.agg #[.pointer (some ⟨4, 104, none⟩), .pointer (some a), .int .u64 150])).run Tryz.prog w = .ok (some (104, a, 150)) w := by kernel_rfl
theorem As.isNil27 (a p : Addr) (W : World) (ha : W.cell? a = some (.pointer (some p))) :
  (ReflectliteValue.method (ReflectliteValue.valueError "reflectlite.Value.IsNil" 0) ReflectliteValue.isNil #[.agg #[.pointer (some ⟨4, 104, none⟩), .pointer (some a), .int .u64 150]]).run Tryz.prog W = .ok (.bool false) W := by
 rw [rlm]
 simp only [Sem.run_bind, As.parts27, Result.andThen]
 simp [ReflectliteValue.isNil, loadVar, isAgg, underlying, Tryz.underlying104, ha, Result.andThen]
theorem As.methodElem (h : Value) (w : World) : (Go.method 394 198 (.agg #[h]) "Elem").run Tryz.prog w = .ok (212, .agg #[h]) w := by kernel_rfl
theorem As.methodImplements (h : Value) (w : World) : (Go.method 394 198 (.agg #[h]) "Implements").run Tryz.prog w = .ok (213, .agg #[h]) w := by kernel_rfl
theorem As.methodAssignableTo (h : Value) (w : World) : (Go.method 394 198 (.agg #[h]) "AssignableTo").run Tryz.prog w = .ok (210, .agg #[h]) w := by kernel_rfl
theorem As.elem27 (w : World) : (ReflectliteType.method ReflectliteType.elem #[.agg #[.pointer (some ⟨4, 104, none⟩)]]).run Tryz.prog w = .ok (.iface 198 (.agg #[.pointer (some ⟨4, 73, none⟩)])) w := by kernel_rfl
theorem As.implements25 (w : World) : (ReflectliteType.relation "Implements" ReflectliteType.implements_ #[.agg #[.pointer (some ⟨4, 73, none⟩)], .iface 198 (.agg #[.pointer (some ⟨4, 25, none⟩)])]).run Tryz.prog w = .ok (.bool true) w := by kernel_rfl
theorem As.typeOf25 (v : Value) (w : World) : (ReflectliteType.typeOf #[.iface 73 v]).run Tryz.prog w = .ok (.iface 198 (.agg #[.pointer (some ⟨4, 73, none⟩)])) w := by kernel_rfl
theorem As.assignable25 (w : World) : (ReflectliteType.relation "AssignableTo" ReflectliteType.assignableTo #[.agg #[.pointer (some ⟨4, 73, none⟩)], .iface 198 (.agg #[.pointer (some ⟨4, 73, none⟩)])]).run Tryz.prog w = .ok (.bool true) w := by kernel_rfl
theorem As.valueOf25 (e : Addr) (w : World) : (ReflectliteValue.unpack (.iface 73 (.pointer (some e)))).run Tryz.prog w
  = .ok (.agg #[.pointer (some ⟨4, 73, none⟩), .pointer (some ⟨w.heap.size, 0, none⟩), .int .u64 150]) (w.alloc (.cells #[.pointer (some e)] 73)) := by kernel_rfl
theorem As.elemOf27 (w : World) : (Rtype.elem? 104).run Tryz.prog w = .ok (some 73) w := by kernel_rfl
theorem As.mk25 (p : Addr) (w : World) : (ReflectliteValue.mk 73 p ReflectliteValue.flagAddr).run Tryz.prog w = .ok (.agg #[.pointer (some ⟨4, 73, none⟩), .pointer (some p), .int .u64 406]) w := by kernel_rfl
theorem As.elemV27 (a p : Addr) (W : World) (ha : W.cell? a = some (.pointer (some p))) :
  (ReflectliteValue.method (ReflectliteValue.valueError "reflectlite.Value.Elem" 0) ReflectliteValue.elem #[.agg #[.pointer (some ⟨4, 104, none⟩), .pointer (some a), .int .u64 150]]).run Tryz.prog W
   = .ok (.agg #[.pointer (some ⟨4, 73, none⟩), .pointer (some p), .int .u64 406]) W := by
 rw [rlm]
 simp only [Sem.run_bind, As.parts27, Result.andThen]
 simp [ReflectliteValue.elem, loadVar, isAgg, underlying, Tryz.underlying104, ha, Result.andThen, As.elemOf27, As.mk25]
theorem rls (v x : Value) : ReflectliteValue.set #[v, x] = (do
  let (some (dst, a, fl), some (src, b, _)) := (← ReflectliteValue.parts v, ← ReflectliteValue.parts x)
   | unsupported (.noEntry "extern/(internal/reflectlite.Value).Set.zeroValue")
  if fl / ReflectliteValue.flagAddr % 2 == 0 then unsupported (.noEntry "extern/(internal/reflectlite.Value).Set.unaddressable")
  let val ← loadVar src b
  if ← Rtype.directlyAssignable dst src then storeVar dst a val
  else if ← Rtype.implements dst src then
   if (← Rtype.kind src) == 20 then
    match val with
    | .nilIface => unsupported (.noEntry "extern/reflectlite: a nil value of one interface type handed on as a value of another")
    | _ => storeVar dst a val
   else storeVar dst a (.iface src val)
  else panicString ("reflectlite.Set: value of type " ++ (← Rtype.spelt src) ++ " is not assignable to type " ++ (← Rtype.spelt dst))
  pure (.tuple #[])) := rfl
theorem As.parts25a (a : Addr) (w : World) : (ReflectliteValue.parts (.agg #[.pointer (some ⟨4, 73, none⟩), .pointer (some a), .int .u64 406])).run Tryz.prog w = .ok (some (73, a, 406)) w := by kernel_rfl
theorem As.parts25 (a : Addr) (w : World) : (ReflectliteValue.parts (.agg #[.pointer (some ⟨4, 73, none⟩), .pointer (some a), .int .u64 150])).run Tryz.prog w = .ok (some (73, a, 150)) w := by kernel_rfl
theorem As.direct25 (w : World) : (Rtype.directlyAssignable 73 73).run Tryz.prog w = .ok true w := by kernel_rfl
theorem As.set25 (ta b e : Addr) (old : Value) (W : World) (hb : W.cell? b = some (.pointer (some e))) (ht : W.cell? ta = some old) (hf : W.frozen? ta = false) :
  (ReflectliteValue.set #[.agg #[.pointer (some ⟨4, 73, none⟩), .pointer (some ta), .int .u64 406], .agg #[.pointer (some ⟨4, 73, none⟩), .pointer (some b), .int .u64 150]]).run Tryz.prog W
   = .ok (.tuple #[]) (W.setCell ta (.pointer (some e))) := by
 rw [rls]
 simp only [Sem.run_bind, As.parts25a, As.parts25, Result.andThen]
 simp [ReflectliteValue.flagAddr, loadVar, isAgg, underlying, Tryz.underlying73, hb, Result.andThen, As.direct25, storeVar, Value.cells, storeCells, Addr.add]
 rw [run_store Tryz.prog W ta _ _ (by rfl)]
 simp [ht, hf]
set_option maxHeartbeats 4000000 in
theorem as_hit (e t : Addr) (old : Value) (w : World) (hg : w.cell? ⟨0, 0, none⟩ = some (.iface 198 (.agg #[.pointer (some ⟨4, 25, none⟩)]))) (ht0 : w.cell? t = some old) (hf0 : w.frozen? t = false) :
  Calls Tryz.prog 51 #[.iface 73 (.pointer (some e)), .iface 104 (.pointer (some t))] w fun ev w' => ev = .returned (.bool true) ∧ w' = ((((w.alloc (.cells #[.pointer (some t)] 104)).alloc (.cells #[.pointer (some ⟨4, 104, none⟩), .pointer (some ⟨w.heap.size, 0, none⟩), .int .u64 150] 148)).alloc (.cells #[.pointer (some ⟨4, 104, none⟩), .pointer (some ⟨w.heap.size, 0, none⟩), .int .u64 150] 148)).alloc (.cells #[.pointer (some e)] 73)).setCell t (.pointer (some e)) := by
 have z := @run_callFunc_extern Tryz.prog 81 _ (fun args => ReflectliteValue.unpack (args.getD 0 (.tuple #[]))) Tryz.func81 (by kernel_rfl) (by kernel_rfl) (by kernel_rfl) (by kernel_rfl)
 have u := @run_callFunc_extern Tryz.prog 82 _ (ReflectliteValue.methodAny (ReflectliteValue.valueError "reflectlite.Value.Type" 0) (fun t _ _ _ => ReflectliteType.toType t)) Tryz.func82 (by kernel_rfl) (by kernel_rfl) (by kernel_rfl) (by kernel_rfl)
 have s := @run_callFunc_extern Tryz.prog 83 _ (ReflectliteValue.method (ReflectliteValue.valueError "reflectlite.Value.IsNil" 0) ReflectliteValue.isNil) Tryz.func83 (by kernel_rfl) (by kernel_rfl) (by kernel_rfl) (by kernel_rfl)
 have f := @run_callFunc_extern Tryz.prog 196 _ (ReflectliteType.abiMethod fun t => do pure (.int .u8 (← Rtype.kind t))) Tryz.func196 (by kernel_rfl) (by kernel_rfl) (by kernel_rfl) (by kernel_rfl)
 have p := @run_callFunc_extern Tryz.prog 212 _ (ReflectliteType.method ReflectliteType.elem) Tryz.func212 (by kernel_rfl) (by kernel_rfl) (by kernel_rfl) (by kernel_rfl)
 have o := @run_callFunc_extern Tryz.prog 213 _ (ReflectliteType.relation "Implements" ReflectliteType.implements_) Tryz.func213 (by kernel_rfl) (by kernel_rfl) (by kernel_rfl) (by kernel_rfl)
 have n := @run_callFunc_extern Tryz.prog 85 _ ReflectliteType.typeOf Tryz.func85 (by kernel_rfl) (by kernel_rfl) (by kernel_rfl) (by kernel_rfl)
 have g := @run_callFunc_extern Tryz.prog 210 _ (ReflectliteType.relation "AssignableTo" ReflectliteType.assignableTo) Tryz.func210 (by kernel_rfl) (by kernel_rfl) (by kernel_rfl) (by kernel_rfl)
 have q := @run_callFunc_extern Tryz.prog 124 _ (ReflectliteValue.method (ReflectliteValue.valueError "reflectlite.Value.Elem" 0) ReflectliteValue.elem) Tryz.func124 (by kernel_rfl) (by kernel_rfl) (by kernel_rfl) (by kernel_rfl)
 have k := @run_callFunc_extern Tryz.prog 125 _ ReflectliteValue.set Tryz.func125 (by kernel_rfl) (by kernel_rfl) (by kernel_rfl) (by kernel_rfl)
 have tO := As.typeOf25
 have mA := As.methodAssignableTo
 have m := As.assignable25
 have j := As.valueOf25
 have v := As.valueOf27
 have r := As.type27
 have mK := As.methodKind
 have mE := As.methodElem
 have mI := As.methodImplements
 have d := As.kind27
 have b := As.kind25
 have c := As.elem27
 have l := As.implements25
 have y := As.isNil27 ⟨w.heap.size, 0, none⟩ t ((w.alloc (.cells #[.pointer (some t)] 104)).alloc (.cells #[.pointer (some ⟨4, 104, none⟩), .pointer (some ⟨w.heap.size, 0, none⟩), .int .u64 150] 148)) (by simp)
 have hlt : 0 < w.heap.size := by
  rcases Nat.eq_zero_or_pos w.heap.size with i | h
  ·simp [World.cell?, i] at hg
  ·exact h
 have a : ((w.alloc (.cells #[.pointer (some t)] 104)).alloc (.cells #[.pointer (some ⟨4, 104, none⟩), .pointer (some ⟨w.heap.size, 0, none⟩), .int .u64 150] 148)).cell? ⟨0, 0, none⟩ = some (.iface 198 (.agg #[.pointer (some ⟨4, 25, none⟩)])) := by
  rw [World.cell?_alloc_lt _ _ ⟨0, 0, none⟩ (by simp), World.cell?_alloc_lt _ _ ⟨0, 0, none⟩ hlt]; exact hg
 have htl : t.block < w.heap.size := by
  rcases Nat.lt_or_ge t.block w.heap.size with h | h
  ·exact h
  ·simp [World.cell?, Array.getElem?_eq_none h] at ht0
 have el := As.elemV27 ⟨w.heap.size, 0, none⟩ t (((w.alloc (.cells #[.pointer (some t)] 104)).alloc (.cells #[.pointer (some ⟨4, 104, none⟩), .pointer (some ⟨w.heap.size, 0, none⟩), .int .u64 150] 148)).alloc (.cells #[.pointer (some ⟨4, 104, none⟩), .pointer (some ⟨w.heap.size, 0, none⟩), .int .u64 150] 148)) (by rw [World.cell?_alloc_lt _ _ ⟨w.heap.size, 0, none⟩ (by simp; omega)]; simp)
 have st := As.set25 t ⟨w.heap.size + 1 + 1 + 1, 0, none⟩ e old ((((w.alloc (.cells #[.pointer (some t)] 104)).alloc (.cells #[.pointer (some ⟨4, 104, none⟩), .pointer (some ⟨w.heap.size, 0, none⟩), .int .u64 150] 148)).alloc (.cells #[.pointer (some ⟨4, 104, none⟩), .pointer (some ⟨w.heap.size, 0, none⟩), .int .u64 150] 148)).alloc (.cells #[.pointer (some e)] 73))
  (by rw [World.cell?_alloc_at _ _ _ _ (by simp)]; rfl)
  (by rw [World.cell?_alloc_lt _ _ t (by simp; omega), World.cell?_alloc_lt _ _ t (by simp; omega), World.cell?_alloc_lt _ _ t (by simp; omega), World.cell?_alloc_lt _ _ t htl]; exact ht0)
  (by rw [World.frozen?_alloc_old _ _ t (by simp; omega), World.frozen?_alloc_old _ _ t (by simp; omega), World.frozen?_alloc_old _ _ t (by simp; omega), World.frozen?_alloc_old _ _ t (Nat.ne_of_lt htl)]; exact hf0)
 go_enter Tryz.func51, Tryz.ntmps51
 go_wp2
 refine wp_loop_rounds 1 ?_
 rw [rounds_succ]
 go_wp2
 go_ret
 exact ⟨rfl, rfl⟩
theorem as_fk (e t : Nat) (old : Value) (w : World) (hg : w.cell? ⟨0, 0, none⟩ = some (.iface 198 (.agg #[.pointer (some ⟨4, 25, none⟩)]))) (ht : w.heap[t]? = some (.cells [old].toArray 73 (0, 0))) :
  Calls Tryz.prog 51 #[.iface 73 (.pointer (some ⟨e, 0, none⟩)), .iface 104 (.pointer (some ⟨t, 0, none⟩))] w (Ret fun v w' => v = .bool true ∧ ∃ w1, Below w.heap.size w w1 ∧ Wrote w1 w' t (.cells [.pointer (some ⟨e, 0, none⟩)].toArray 73 (0, 0))) := by
 have hc : w.cell? ⟨t, 0, none⟩ = some old := by simp [World.cell?, ht]
 have hf : w.frozen? ⟨t, 0, none⟩ = false := by simp [World.frozen?, ht]
 refine (as_hit ⟨e, 0, none⟩ ⟨t, 0, none⟩ old w hg hc hf).mono ?_
 rintro ev w' ⟨rfl, rfl⟩
 have hlt := yL ht
 have hb : Below w.heap.size w ((((w.alloc (.cells #[.pointer (some ⟨t, 0, none⟩)] 104)).alloc (.cells #[.pointer (some ⟨4, 104, none⟩), .pointer (some ⟨w.heap.size, 0, none⟩), .int .u64 150] 148)).alloc (.cells #[.pointer (some ⟨4, 104, none⟩), .pointer (some ⟨w.heap.size, 0, none⟩), .int .u64 150] 148)).alloc (.cells #[.pointer (some ⟨e, 0, none⟩)] 73)) :=
  ((((Below.refl _ _).alloc (Nat.le_refl _) _).alloc (by simp) _).alloc (by simp; omega) _).alloc (by simp; omega) _
 have a := zC ht hb
 refine ⟨_, rfl, rfl, _, hb, ⟨rfl, rfl, rfl, by simp [World.setCell], ?_, fun k hk => Below.heap_setCell _ _ _ _ hk⟩⟩
 generalize (((w.alloc _).alloc _).alloc _).alloc _ = w4 at a ⊢
 obtain ⟨b, c⟩ := Array.getElem?_eq_some_iff.1 a
 show (w4.heap.modify t _)[t]? = _
 rw [Array.getElem?_eq_getElem (by rw [Array.size_modify]; exact b), Array.getElem_modify_self, c]
 simp
end Go.Proofs.YtkclikfejmeblaaGreatDoor
end

/- === IsF === -/
section
/- errors.Is of a *api.Fault at its own number: true; the memory is left as it was. Turned to this seat out of the kit's worked example on errors.Is. -/
namespace Go.Proofs.YtkclikfejmeblaaGreatDoor
open Go Go.RowKit Go.Extern.Stop Go.Stop Go.Extern Go.FK
theorem is_typeOf (v : Value) (w : World) : (Extern.ReflectliteType.typeOf #[.iface 50 v]).run Tryz.prog w = .ok (.iface 198 (.agg #[.pointer (some ⟨4, 50, none⟩)])) w := by kernel_rfl
def is_cmpM : Array Value → Sem Value := Extern.ReflectliteType.method fun t => do Go.Extern.Rtype.noPackHeld "Comparable" t; pure (.bool (← typeInfo t).comparable)
theorem is_comparable (w : World) : (is_cmpM #[.agg #[.pointer (some ⟨4, 50, none⟩)]]).run Tryz.prog w = .ok (.bool true) w := by kernel_rfl
theorem is_mComparable (v : Value) (w : World) : (Go.method 394 198 v "Comparable").run Tryz.prog w = .ok (211, v) w := by kernel_rfl
theorem is_mUnwrap (v : Value) (w : World) : (Go.method 394 73 v "Unwrap").run Tryz.prog w = .ok (204, v) w := by kernel_rfl
theorem is_noIs (v : Value) (xT : TypeId) (w : World) : (Instr.typeAssert (.iface 73 v) xT 210 true).run Tryz.prog w = .ok (.tuple #[.nilIface, .bool false]) w := run_typeAssert_lacksB Tryz.underlying210 (by kernel_rfl) (by kernel_rfl) v xT w
theorem is_hasUnwrap (v : Value) (xT : TypeId) (w : World) : (Instr.typeAssert (.iface 73 v) xT 205 true).run Tryz.prog w = .ok (.tuple #[.iface 73 v, .bool true]) w := run_typeAssert_hasB Tryz.underlying205 (by kernel_rfl) v xT w
theorem is_same_no (c : Int) (w : World) : (binOp .eql 25 (.iface 50 (.int .i64 c)) (.iface 50 (.int .i64 c))).run Tryz.prog w = .ok (.bool true) w := by
 have hi := Tryz.underlying25
 obtain ⟨i, hinfo, hcomp⟩ := Option.map_eq_some_iff.1 (show (Tryz.prog.info? 50).map (·.comparable) = some true by kernel_rfl)
 have hu := Tryz.underlying50
 simp only [binOp]
 have h : ∀ d : Nat, (Op.equalIn (d + 2) 25 (.iface 50 (.int .i64 c)) (.iface 50 (.int .i64 c))).run Tryz.prog w = .ok true w := fun d => by
  simp [Op.equalIn, run_underlying hi, run_underlying hu, typeInfo, hinfo, hcomp, sizeOf]
 simp [Op.equal, Op.maxDepth, h 9998]
theorem is_unwrap (b : Nat) (c : Int) (w : World) (h1 : w.cell? ⟨b, 2, none⟩ = some (.int .i64 c)) :
  Calls Tryz.prog 204 #[.pointer (some ⟨b, 0, none⟩)] w fun e w' => e = .returned (.iface 50 (.int .i64 c)) ∧ w' = w := by
 go_enter Tryz.func204, Tryz.ntmps204
 go_wp2
 go_ret
 exact ⟨rfl, rfl⟩
set_option maxRecDepth 100000 in
theorem is_fault (b : Nat) (c : Int) (w : World) (h1 : w.cell? ⟨b, 2, none⟩ = some (.int .i64 c)) :
  Calls Tryz.prog 52 #[.iface 73 (.pointer (some ⟨b, 0, none⟩)), .iface 50 (.int .i64 c)] w fun e w' => e = .returned (.bool true) ∧ w' = w := by
 have d := @run_callFunc_extern Tryz.prog 85 _ Extern.ReflectliteType.typeOf Tryz.func85 (by kernel_rfl) (by kernel_rfl) (by kernel_rfl) (by kernel_rfl)
 have a := @run_callFunc_extern Tryz.prog 211 _ is_cmpM Tryz.func211 (by kernel_rfl) (by kernel_rfl) (by kernel_rfl) (by kernel_rfl)
 have tT := is_typeOf
 have cT := is_comparable
 have mR := is_mComparable
 have mU := is_mUnwrap
 have nI := is_noIs
 have uW := is_hasUnwrap
 have hty := run_eql_iface_types (P := Tryz.prog) 73 50 (.pointer (some ⟨b, 0, none⟩)) (.int .i64 c) Tryz.underlying25 (by decide) w
 have heq : (binOp .eql 25 (.iface 50 (.int .i64 c)) (.iface 50 (.int .i64 c))).run Tryz.prog w = .ok (.bool true) w := is_same_no c w
 go_enter Tryz.func52, Tryz.ntmps52
 go_wp2
 refine wp_loop_rounds 2 ?_
 rw [rounds_succ]
 go_wp2_with (go_at_call 204; refine (is_unwrap b c _ h1).mono ?_; rintro e w' ⟨rfl, rfl⟩)
 rw [rounds_succ]
 go_wp2
 go_ret
 exact ⟨rfl, rfl⟩
theorem is_fk (b : Nat) (f : List UInt8) (l c : Int) (w : World) (ho : w.heap[b]? = some (.cells [S f, .int .i64 l, .int .i64 c].toArray 75 (0, 0))) :
  Calls Tryz.prog 52 #[.iface 73 (.pointer (some ⟨b, 0, none⟩)), .iface 50 (.int .i64 c)] w (Ret fun v w' => v = .bool true ∧ Below w.heap.size w w') := by
 refine (is_fault b c w (by simp [World.cell?, ho])).mono ?_
 rintro e w' ⟨rfl, rfl⟩
 exact ⟨_, rfl, rfl, Below.refl _ _⟩
end Go.Proofs.YtkclikfejmeblaaGreatDoor
end

/- === Wclr === -/
section
/- Walks, written by my program walk.py out of the specification clr.py: each theorem says what one function returns and that it leaves memory as it was. -/
namespace Go.Proofs.YtkclikfejmeblaaGreatDoor
open Go Go.RowKit Go.FK _root_.Go.Proofs.Tryz
set_option maxHeartbeats 4000000
set_option maxRecDepth 100000
attribute [local irreducible] clsF wholeF writeC atM plainF fewC refF misF strF edgesF givenF clsR
theorem eqagg75 (a0 : List UInt8) (a1 : Int) (a2 : Int) (c0 : List UInt8) (c1 : Int) (c2 : Int) (w : World) : (Op.equalIn 10000 75 (.agg #[S a0, .int .i64 a1, .int .i64 a2]) (.agg #[S c0, .int .i64 c1, .int .i64 c2])).run Tryz.prog w = .ok (a0 == c0 && a1 == c1 && a2 == c2) w := by
 have m : Tryz.prog.underlying 75 = some (.struct (Tryz.prog.fieldsOf 75)) := by kernel_rfl
 have j : Tryz.prog.stoodInHeld 75 = false := by kernel_rfl
 rw [show (10000 : Nat) = 9999 + 1 from rfl, run_equalIn_agg w 9999 75 _ _ m j]
 simp only [Program.fieldsOf, Tryz.underlying75]
 have h := Tryz.isAgg3
 have e := Tryz.sizeOf3
 have c := Tryz.underlying3
 have i := Tryz.isAgg9
 have f := Tryz.sizeOf9
 have b := Tryz.underlying9
 have g := Tryz.isAgg50
 have d := Tryz.sizeOf50
 have a := Tryz.underlying50
 try simp only [S]
 go_simp
 by_cases k : a0 = c0 <;> by_cases n : a1 = c1 <;> by_cases l : a2 = c2 <;> simp [k, n, l]
theorem c_ref07_Write (s : Nat) (e : Value) (rows : List (Int × Int × Int × Int × Bool)) (w : World) (h : w.heap[s]? = some (.cells [e].toArray 98 (0, 0))) (a : Rd w encRow7 e rows) (hn : rows.length ≤ 1048576) (hg : ∀ r ∈ rows, 0 ≤ r.2.1 ∧ r.2.1 ≤ r.2.2.1 ∧ r.2.2.1 ≤ 1114111) (hcm : clsB (misF rows)) (hca : clsB (strF (fun x => (givenF rows (plainF x)).1) (edgesF rows) [])) (ha : (strF (fun x => (givenF rows (plainF x)).1) (edgesF rows) []).length ≤ 1114112) :
  Calls Tryz.prog 26 #[(pt s 0)] w (Ret fun v w' => v = (S (writeC (misF rows) (strF (fun x => (givenF rows (plainF x)).1) (edgesF rows) []))) ∧ Below w.heap.size w w') := by
 refine wJ 72 func26 rfl ?_
 have o := Below.refl w.heap.size w
 have az := mis_len rows
 refine wR (zH (nR (zH (nR (zD (zc (c_ref07_Missing s e rows _ h a zo) ?_))))))
 rintro q1 w2 ⟨_, rfl, b, aj⟩
 have b := b.base o.size
 refine zH (nW (wR (zH (nQ (zW ?_)))))
 have o := o.tr aj
 have h := zC h aj
 have a := a.below aj
 refine xA (fun m s0 w0 => ∃ (i : Nat) (g : List UInt8), (m = (misF rows).length - i) ∧ (s0.ds = []) ∧ ([0, 2, 4, 3, 5].map s0.f = [(pt s 0), (S []), q1, (S g), (N6 i)]) ∧ (Rd w0 encRow7 e rows) ∧ (Row w0 w.heap.size 45 3 encSpanC q1 (misF rows)) ∧ (w0.heap[s]? = some (.cells [e].toArray 98 (0, 0))) ∧ (Below w.heap.size w w0) ∧ (i ≤ (misF rows).length) ∧ (g = ((misF rows).take i).flatMap mlC)) _ ⟨0, ([] : List UInt8), rfl, zk, zk, a, b, h, o, (Nat.zero_le _), rfl⟩ ?_
 rintro m5 s6 w7 ⟨i, g, hm, ac, af, a, b, h, o, i1, ia⟩
 refine yX af ?_
 have aw := mi_len ia
 refine yA (wR (zD (zD (vY underlying42 (b.rd).len (nLt i (((misF rows)).length) ?_ ?_)))))
 ·intro h8
  refine nQ (zT (zK (zB (yA (zW (wR (zD (zD ?_))))))))
  have hz := zX (misF rows) i zo; obtain ⟨j, z⟩ := hz
  have hz := (b.rd).at (k := 3) zj z
  obtain ⟨ai, q, ar, au⟩ := hz
  have aq := Zf j.2.2
  have ap := uJ j.1 j.2.1
  have ad := hcm _ (List.mem_of_getElem? z)
  have ak := ad
  refine yS (k := .i64) q1 i _ ai q el42 ar zo zk zk (zr (pt ai (q + i * 3)) (xB ai (q + i * 3) [(I3 j.1), (I3 j.2.1)] zk zk zk (elem_mid [] [(U8 j.2.2)] au rfl) (zc (Zk j.1 j.2.1 _ ) ?_)))
  rintro _ a5 ⟨rfl, u⟩
  refine zD (zr (S ((showSpanF j.1 j.2.1).1)) (zr (I6 ((showSpanF j.1 j.2.1).2)) (zH (zH (nQ (zP (zD (wK g ([35, 32, 64, 109, 105, 115, 115, 105, 110, 103, 58, 32] : List UInt8) (by (simp only [List.length_append, List.length_cons, List.length_nil]; omega)) zk zk (zD (wK (g ++ ([35, 32, 64, 109, 105, 115, 115, 105, 110, 103, 58, 32] : List UInt8)) ((showSpanF j.1 j.2.1).1) (by (simp only [List.length_append, List.length_cons, List.length_nil]; omega)) zk zk (wK ((g ++ ([35, 32, 64, 109, 105, 115, 115, 105, 110, 103, 58, 32] : List UInt8)) ++ (showSpanF j.1 j.2.1).1) ([59, 32] : List UInt8) (by (simp only [List.length_append, List.length_cons, List.length_nil]; omega)) zk zk (zD (zD ?_)))))))))))))
  have b := b.below u
  refine zE b.rd el42 i z 2 rfl fun _ _ => (zc (c_furrowref05_Long j.2.2 _ (by (have := ak; omega)) zo) ?_)
  rintro _ a3 ⟨rfl, y⟩
  have := Zf j.2.2
  refine wK (((g ++ ([35, 32, 64, 109, 105, 115, 115, 105, 110, 103, 58, 32] : List UInt8)) ++ (showSpanF j.1 j.2.1).1) ++ ([59, 32] : List UInt8)) (longS j.2.2) (by (simp only [List.length_append, List.length_cons, List.length_nil]; omega)) zk zk (wK ((((g ++ ([35, 32, 64, 109, 105, 115, 115, 105, 110, 103, 58, 32] : List UInt8)) ++ (showSpanF j.1 j.2.1).1) ++ ([59, 32] : List UInt8)) ++ longS j.2.2) ([10] : List UInt8) (by (simp only [List.length_append, List.length_cons, List.length_nil]; omega)) zk zk (zH (zQ (zJ (zB (zP (zD (xN i 1 (zH (zQ ?_))))))))))
  have o := (o.tr u).tr y
  have h := zC (zC h u) y
  have a := (a.below u).below y
  have b := b.below y
  exact zB ⟨_, zo, (i + 1), (((((g ++ ([35, 32, 64, 109, 105, 115, 115, 105, 110, 103, 58, 32] : List UInt8)) ++ (showSpanF j.1 j.2.1).1) ++ ([59, 32] : List UInt8)) ++ longS j.2.2) ++ ([10] : List UInt8)), rfl, ac, zk, a, b, h, o, zo, rw_miss7 ia za⟩
 intro a4
 refine nQ (zF (yU (zS (zS (yF (zB (wR (zD (zc (c_ref07_Named s e rows _ h a zo (by exact hg)) ?_)))))))))
 rintro ag a9 ⟨_, rfl, d, t⟩
 have d := d.base o.size
 refine zH (nW (wR (zH (nQ (zW ?_)))))
 have o := o.tr t
 have h := zC h t
 have a := a.below t
 have b := b.below t
 refine xA (fun m s0 w0 => ∃ (i : Nat) (g : List UInt8), (m = (strF (fun x => (givenF rows (plainF x)).1) (edgesF rows) []).length - i) ∧ (s0.ds = []) ∧ ([2, 8, 3, 9].map s0.f = [(S []), ag, (S g), (N6 i)]) ∧ (Rd w0 encRow7 e rows) ∧ (Row w0 w.heap.size 45 3 encSpanC q1 (misF rows)) ∧ (Row w0 w.heap.size 34 3 encSpanC ag (strF (fun x => (givenF rows (plainF x)).1) (edgesF rows) [])) ∧ (w0.heap[s]? = some (.cells [e].toArray 98 (0, 0))) ∧ (Below w.heap.size w w0) ∧ (i ≤ (strF (fun x => (givenF rows (plainF x)).1) (edgesF rows) []).length) ∧ (g = (misF rows).flatMap mlC ++ ((strF (fun x => (givenF rows (plainF x)).1) (edgesF rows) []).take i).flatMap nlC)) _ ⟨0, g, rfl, ac, zk, a, b, d, h, o, (Nat.zero_le _), (wr_half ia zo)⟩ ?_
 rintro a8 a6 a2 ⟨i, g, hm, ac, af, a, b, d, h, o, j1, ja⟩
 refine yX af ?_
 have aw := na7_len ja
 refine yA (wR (zD (zD (vY underlying29 (d.rd).len (nLt i (((strF (fun x => (givenF rows (plainF x)).1) (edgesF rows) [])).length) ?_ ?_)))))
 ·intro a7
  refine nQ (zT (zK (zB (yA (zW (wR (zD (zD ?_))))))))
  have hz := zX (strF (fun x => (givenF rows (plainF x)).1) (edgesF rows) []) i zo; obtain ⟨c, ab⟩ := hz
  have hz := (d.rd).at (k := 3) zj ab
  obtain ⟨ae, p, an, ao⟩ := hz
  have al := uD c.2.2
  have am := uJ c.1 c.2.1
  have aa := hca _ (List.mem_of_getElem? ab)
  have ak := aa
  refine yS (k := .i64) ag i _ ae p uH an zo zk zk (zr (pt ae (p + i * 3)) (xB ae (p + i * 3) [(I3 c.1), (I3 c.2.1)] zk zk zk (elem_mid [] [(U8 c.2.2)] ao rfl) (zc (Zk c.1 c.2.1 _ ) ?_)))
  rintro _ ba ⟨rfl, l⟩
  refine zD (zr (S ((showSpanF c.1 c.2.1).1)) (zr (I6 ((showSpanF c.1 c.2.1).2)) (zH (zH (nQ (zP (zD (zD (wK g ((showSpanF c.1 c.2.1).1) zo zk zk (wK (g ++ (showSpanF c.1 c.2.1).1) ([59, 32] : List UInt8) (by (simp only [List.length_append, List.length_cons, List.length_nil]; omega)) zk zk (zD (zD ?_))))))))))))
  have d := d.below l
  refine zE d.rd uH i ab 2 rfl fun _ _ => (zc (c_furrowref05_Short c.2.2 _ (by (have := ak; omega)) zo) ?_)
  rintro _ a1 ⟨rfl, n⟩
  have := uD c.2.2
  refine wK ((g ++ (showSpanF c.1 c.2.1).1) ++ ([59, 32] : List UInt8)) (shortS c.2.2) (by (simp only [List.length_append, List.length_cons, List.length_nil]; omega)) zk zk (wK (((g ++ (showSpanF c.1 c.2.1).1) ++ ([59, 32] : List UInt8)) ++ shortS c.2.2) ([10] : List UInt8) (by (simp only [List.length_append, List.length_cons, List.length_nil]; omega)) zk zk (zH (zQ (zJ (zB (zP (zD (xN i 1 (zH (zQ ?_))))))))))
  have o := (o.tr l).tr n
  have h := zC (zC h l) n
  have a := (a.below l).below n
  have b := (b.below l).below n
  have d := d.below n
  exact zB ⟨_, zo, (i + 1), ((((g ++ (showSpanF c.1 c.2.1).1) ++ ([59, 32] : List UInt8)) ++ shortS c.2.2) ++ ([10] : List UInt8)), rfl, ac, zk, a, b, d, h, o, zo, rw_nam7 ja za⟩
 intro a0
 exact nQ (zF (yU (zS (zS (yF (zB (wR (zD (zH (nQ (zR (zZ [(S g)] (hd := ac) ⟨congrArg S (by (rw [ja, List.take_of_length_le zo]; unfold writeC; rfl)), o⟩))))))))))))
set_option maxHeartbeats 40000000 in
set_option maxRecDepth 100000 in
theorem c_furrowlaw07_ClassesReads (file : List UInt8) (s : List UInt8) (aj : Value) (ask : List (Int)) (few : Int) (w : World) (r : Rd w encI32 aj ask) {m_ml : Int} (hml : w.cell? ⟨1, 0, none⟩ = some (I6 m_ml)) (hty : w.cell? ⟨0, 0, none⟩ = some (.iface 198 (.agg #[.pointer (some ⟨4, 25, none⟩)]))) :
  Calls Tryz.prog 8 #[(S file), (S s), aj, (I6 few)] w (Ret fun v w' => v = (.bool true) ∧ Below w.heap.size w w') := by
 refine wJ 203 func8 rfl ?_
 have t := Below.refl w.heap.size w
 have z := r
 have gy := ref7_rows s
 have ga := mis_len (refF s).1
 have gu := (cls_ok s).2.2
 refine wR (zH (nW (wR (zD (zD (vQ 18 [(S s), aj] zk zk (wJ 13 func18 rfl (wR (zH (nR (zD (zsl 9 s (nGt ((s).length) 40000 ?_ ?_)))))))))))))
 ·intro h1
  refine zD (zs (zs (zs (xJ (zH (nQ (zR (zZ [(.bool true)] ?_))))))))
  show L _ _ _ _ _ _ (Fm.put _ _ (.bool true)) _
  refine nQ (zT (wR (zc (c_lives7  _ (wE hml t)) ?_)))
  rintro _ w2 ⟨rfl, fc⟩
  have t := t.tr fc
  exact zH (nQ (zR (zG (zZ [(.bool true)] ⟨rfl, t⟩))))
 intro h5
 refine zD (zw (zD (zw (vY underlying47 (r).len (zw (nGt ((ask).length) 1000 ?_ ?_))))))
 ·intro h6
  refine xF (zH (nQ (zR (zZ [(.bool true)] ?_))))
  show L _ _ _ _ _ _ (Fm.put _ _ (.bool true)) _
  refine nQ (zT (wR (zc (c_lives7  _ (wE hml t)) ?_)))
  rintro _ w7 ⟨rfl, e3⟩
  have t := t.tr e3
  exact zH (nQ (zR (zG (zZ [(.bool true)] ⟨rfl, t⟩))))
 intro g0
 refine xF (zH (nQ (zR (zZ [(.bool false)] ?_))))
 show L _ _ _ _ _ _ (Fm.put _ _ (.bool false)) _
 refine nQ (zF (zK (zB (wR (zD (zD ?_))))))
 by_cases dd : (clsF s).2.2 = 0
 ·skip
  refine zc (c_classes_Read_ok file s _ (wE hml t) (by first | omega | assumption | (simp; done)) (by with_reducible assumption)) ?_
  rintro _ gp ⟨a7, bz, b1, bt, ab, ao, al, an, rfl, p, q, o, l, a, ch, n, cg, j, cj, g, b8, cx, cu, cv, cz, cw, cy, eo⟩
  replace ch := Nat.le_trans t.size ch
  replace cg := Nat.le_trans t.size cg
  replace cj := Nat.le_trans t.size cj
  replace b8 := Nat.le_trans t.size b8
  have p := p.base t.size
  have q := q.base t.size
  have o := o.base t.size
  have l := l.base t.size
  refine zD (zr (pt ab 0) (zr .nilIface (zH (zH (nR (zD (zc (c_ref07_Read_ok s _ (by first | omega | assumption | (simp; done)) (by exact dd)) ?_)))))))
  rintro _ gq ⟨bk, am, rfl, d, b, cb, bl⟩
  have t := t.tr eo
  replace cb := Nat.le_trans t.size cb
  have d := d.base t.size
  refine zD (zr (pt am 0) (zr (I6 0) (zr (I6 0) (zH (zH (zH (nW (wR (zD (zr (.bool false) (nQ (zF (zK (zB (yA (wR (zD (zr (.bool false) (zD (zw (zD (zw (zr (.bool false) (xF (nQ (zF (zK (zB (yA (wR (zH (nQ (zW ?_)))))))))))))))))))))))))))))))))
  have t := t.tr bl
  have a := zC a bl
  have n := zC n bl
  have j := zC j bl
  have g := zC g bl
  have r := z.below t
  have p := p.below bl
  have q := q.below bl
  have o := o.below bl
  have l := l.below bl
  refine xA (fun m s0 w0 => ∃ (i : Nat), (m = ask.length - i) ∧ (s0.ds = []) ∧ ([2, 3, 9, 11, 14].map s0.f = [aj, (I6 few), (pt ab 0), (pt am 0), (N6 i)]) ∧ (Rd w0 encI32 aj ask) ∧ (Row w0 w.heap.size 45 3 encSpanC a7 ((clsF s).1.2.2)) ∧ (Row w0 w.heap.size 126 3 encSpanC bz ((clsF s).1.1)) ∧ (Row w0 w.heap.size 131 3 encSpanI b1 ((clsF s).1.2.1)) ∧ (Row w0 w.heap.size 126 3 encSpanC bt (wholeF (clsF s).1)) ∧ (Row w0 w.heap.size 100 5 encRow7 bk ((refF s).1)) ∧ (w0.heap[ab]? = some (.cells [(pt ao 0), (pt al 0), a7, (pt an 0)].toArray 66 (0, 0))) ∧ (w0.heap[ao]? = some (.cells [bz, (.bool true)].toArray 115 (0, 0))) ∧ (w0.heap[al]? = some (.cells [b1, (.bool true)].toArray 118 (0, 0))) ∧ (w0.heap[an]? = some (.cells [bt, (.bool true)].toArray 115 (0, 0))) ∧ (w0.heap[am]? = some (.cells [bk].toArray 98 (0, 0))) ∧ (Below w.heap.size w w0) ∧ (i ≤ ask.length)) _ ⟨0, rfl, zk, zk, r, p, q, o, l, d, a, n, j, g, b, t, (Nat.zero_le _)⟩ ?_
  rintro gz gw g3 ⟨i, hm, bv, cl, r, p, q, o, l, d, a, n, j, g, b, t, i1⟩
  refine yX cl (yA (wR (zD (zD (vY underlying47 (r).len (nLt i ((ask).length) ?_ ?_))))))
  ·intro gs
   refine nQ (zT (zK (zB (yA (zW (wR (zD (zD (zD ?_)))))))))
   have hz := zX ask i (by first | omega | assumption | (simp; done)); obtain ⟨h, bq⟩ := hz
   refine zE1 r wP i bq rfl fun _ => (zc (c_tGiven ab ao al a7 an h bz ((clsF s).1.1) _ a n q.rd (by with_reducible exact (cls_ok _).1.rise)) ?_)
   rintro _ g2 ⟨rfl, ah⟩
   refine zD (zr (U8 ((atM 0 ((clsF s).1.1) (plainF h)).1)) (zr (.bool ((atM 0 ((clsF s).1.1) (plainF h)).2)) (zH (zH (nR (zD (zD (zD ?_))))))))
   have t := t.tr ah
   have b := zC b ah
   have r := z.below t
   have d := d.below ah
   refine zE1 r wP i bq rfl fun _ => (zc (c_ref07_Given am bk ((refF s).1) h _ b d.rd (by first | omega | assumption | (simp; done))) ?_)
   rintro _ gr ⟨rfl, ac⟩
   refine zD (zr (U8 ((givenF ((refF s).1) (plainF h)).1)) (zr (I6 ((givenF ((refF s).1) (plainF h)).2)) (zH (zH (nW (xX zk zk (zV (zV (xV .u8 ((atM 0 ((clsF s).1.1) (plainF h)).1) ((givenF ((refF s).1) (plainF h)).1) ((atM 0 ((clsF s).1.1) (plainF h)).1 ≠ (givenF ((refF s).1) (plainF h)).1) rfl (cmp_ne ((atM 0 ((clsF s).1.1) (plainF h)).1) ((givenF ((refF s).1) (plainF h)).1)) zk zk ?_ ?_)))))))))
   ·intro dn
    replace dn : (atM 0 ((clsF s).1.1) (plainF h)).1 ≠ (givenF ((refF s).1) (plainF h)).1 := by omega
    exfalso; first | exact absurd (by with_reducible exact rd_giv za _) dn | exact absurd (by with_reducible exact rd_lin za _) dn
   intro e8
   replace e8 : (atM 0 ((clsF s).1.1) (plainF h)).1 = (givenF ((refF s).1) (plainF h)).1 := by omega
   refine zV (qw (zV (qw (zV (qw (xV .u8 ((givenF ((refF s).1) (plainF h)).1) 0 ((givenF ((refF s).1) (plainF h)).1 ≠ 0) rfl (cmp_ne ((givenF ((refF s).1) (plainF h)).1) 0) zk zk ?_ ?_))))))
   ·intro e4
    replace e4 : (givenF ((refF s).1) (plainF h)).1 ≠ 0 := by omega
    refine qw (Lq_bNe ((atM 0 ((clsF s).1.1) (plainF h)).2) true zk zk (fun c e _ => by cases c <;> cases e <;> kernel_rfl) ?_ ?_)
    ·intro e6
     exfalso; exact e6 ((rd_is za _).trans (by exact decide_eq_true za))
    intro g1
    refine qF (zV (qw (zV (qw (zV (qw (zV (qw ?_))))))))
    have t := t.tr ac
    have r := z.below t
    have hz := (r).at (k := 1) zj bq
    obtain ⟨ef, cm, ev, ei⟩ := hz
    have a := zC (zC a ah) ac
    have j := zC (zC j ah) ac
    have o := (o.below ah).below ac
    refine yN (k := .i64) aj i _ ef cm wP ev (by first | omega | assumption | (simp; done)) zk zk (qw (yD ef (cm + i * 1) (I3 h) zk zf (ei 0 _ rfl) (qw (uX 14 [(pt ab 0), (I3 h)] (I6 ((atM 0 ((clsF s).1.2.1) (plainF h)).1)) zg (fun wq hbq => c_tLine ab ao al a7 an h b1 ((clsF s).1.2.1) wq (zC a hbq) (zC j hbq) (o.rd.below hbq) (by with_reducible exact (cls_ok _).2.1.rise)) (qw (zV (qw (xV .i64 ((atM 0 ((clsF s).1.2.1) (plainF h)).1) ((givenF ((refF s).1) (plainF h)).2) ((atM 0 ((clsF s).1.2.1) (plainF h)).1 ≠ (givenF ((refF s).1) (plainF h)).2) rfl (cmp_ne ((atM 0 ((clsF s).1.2.1) (plainF h)).1) ((givenF ((refF s).1) (plainF h)).2)) zk zk ?_ ?_))))))))
    ·intro dg
     replace dg : (atM 0 ((clsF s).1.2.1) (plainF h)).1 ≠ (givenF ((refF s).1) (plainF h)).2 := by omega
     exfalso; first | exact absurd (by with_reducible exact rd_giv za _) dg | exact absurd (by with_reducible exact rd_lin za _) dg
    intro e5
    replace e5 : (atM 0 ((clsF s).1.2.1) (plainF h)).1 = (givenF ((refF s).1) (plainF h)).2 := by omega
    refine qF (zV (qw (zV (qw (zV (qw (zV (qw ?_))))))))
    have hz := (r).at (k := 1) zj bq
    obtain ⟨el, ct, ew, ek⟩ := hz
    have g := zC (zC g ah) ac
    have l := (l.below ah).below ac
    refine yN (k := .i64) aj i _ el ct wP ew (by first | omega | assumption | (simp; done)) zk zk (qw (yD el (ct + i * 1) (I3 h) zk zf (ek 0 _ rfl) (qw (uX 12 [(pt ab 0), (I3 h)] (U8 ((atM 0 (wholeF (clsF s).1) (plainF h)).1)) zg (fun wq hbq => c_tClass ab ao al a7 an h bt (wholeF (clsF s).1) wq (zC a hbq) (zC g hbq) (l.rd.below hbq) (by with_reducible exact (vH _).rise)) (qw (zV (qw (zV (qw (zV (qw ?_)))))))))))
    have hz := (r).at (k := 1) zj bq
    obtain ⟨ed, cr, eh, d8⟩ := hz
    have b := zC b ac
    have d := d.below ac
    refine yN (k := .i64) aj i _ ed cr wP eh (by first | omega | assumption | (simp; done)) zk zk (qw (yD ed (cr + i * 1) (I3 h) zk zf (d8 0 _ rfl) (qw (uX 22 [(pt am 0), (I3 h)] (U8 (clsR ((refF s).1) (plainF h))) zg (fun wq hbq => c_ref07_Class am bk ((refF s).1) h wq (zC b hbq) (d.rd.below hbq) (by first | omega | assumption | (simp; done))) (qw (xV .u8 ((atM 0 (wholeF (clsF s).1) (plainF h)).1) (clsR ((refF s).1) (plainF h)) ((atM 0 (wholeF (clsF s).1) (plainF h)).1 ≠ (clsR ((refF s).1) (plainF h))) rfl (cmp_ne ((atM 0 (wholeF (clsF s).1) (plainF h)).1) (clsR ((refF s).1) (plainF h))) zk zk ?_ ?_))))))
    ·intro d4
     replace d4 : (atM 0 (wholeF (clsF s).1) (plainF h)).1 ≠ (clsR ((refF s).1) (plainF h)) := by omega
     exfalso; exact d4 (rd_cls za _)
    intro e7
    replace e7 : (atM 0 (wholeF (clsF s).1) (plainF h)).1 = (clsR ((refF s).1) (plainF h)) := by omega
    refine qF (yQ ?_)
    intro g4 bb
    refine zB (zF (zK (zJ (zB (zP (zD (xN i 1 (zH (zQ ?_)))))))))
    have t := t.tr bb
    have a := zC a bb
    have n := zC (zC (zC n ah) ac) bb
    have j := zC j bb
    have g := zC g bb
    have b := zC b bb
    have r := z.below t
    have p := ((p.below ah).below ac).below bb
    have q := ((q.below ah).below ac).below bb
    have o := o.below bb
    have l := l.below bb
    have d := d.below bb
    exact zB ⟨_, zo, (i + 1), rfl, bv, zk, r, p, q, o, l, d, a, n, j, g, b, t, zo⟩
   intro e9
   replace e9 : (givenF ((refF s).1) (plainF h)).1 = 0 := by omega
   refine qw (Lq_bNe ((atM 0 ((clsF s).1.1) (plainF h)).2) false zk zk (fun c e _ => by cases c <;> cases e <;> kernel_rfl) ?_ ?_)
   ·intro e1
    exfalso; exact e1 ((rd_is za _).trans (by exact decide_eq_false zo))
   intro gv
   refine qF (zV (qw (zV (qw (zV (qw (zV (qw ?_))))))))
   have t := t.tr ac
   have r := z.below t
   have hz := (r).at (k := 1) zj bq
   obtain ⟨ec, cp, es, ea⟩ := hz
   have a := zC (zC a ah) ac
   have j := zC (zC j ah) ac
   have o := (o.below ah).below ac
   refine yN (k := .i64) aj i _ ec cp wP es (by first | omega | assumption | (simp; done)) zk zk (qw (yD ec (cp + i * 1) (I3 h) zk zf (ea 0 _ rfl) (qw (uX 14 [(pt ab 0), (I3 h)] (I6 ((atM 0 ((clsF s).1.2.1) (plainF h)).1)) zg (fun wq hbq => c_tLine ab ao al a7 an h b1 ((clsF s).1.2.1) wq (zC a hbq) (zC j hbq) (o.rd.below hbq) (by with_reducible exact (cls_ok _).2.1.rise)) (qw (zV (qw (xV .i64 ((atM 0 ((clsF s).1.2.1) (plainF h)).1) ((givenF ((refF s).1) (plainF h)).2) ((atM 0 ((clsF s).1.2.1) (plainF h)).1 ≠ (givenF ((refF s).1) (plainF h)).2) rfl (cmp_ne ((atM 0 ((clsF s).1.2.1) (plainF h)).1) ((givenF ((refF s).1) (plainF h)).2)) zk zk ?_ ?_))))))))
   ·intro dh
    replace dh : (atM 0 ((clsF s).1.2.1) (plainF h)).1 ≠ (givenF ((refF s).1) (plainF h)).2 := by omega
    exfalso; first | exact absurd (by with_reducible exact rd_giv za _) dh | exact absurd (by with_reducible exact rd_lin za _) dh
   intro fb
   replace fb : (atM 0 ((clsF s).1.2.1) (plainF h)).1 = (givenF ((refF s).1) (plainF h)).2 := by omega
   refine qF (zV (qw (zV (qw (zV (qw (zV (qw ?_))))))))
   have hz := (r).at (k := 1) zj bq
   obtain ⟨ex, cn, d5, ee⟩ := hz
   have g := zC (zC g ah) ac
   have l := (l.below ah).below ac
   refine yN (k := .i64) aj i _ ex cn wP d5 (by first | omega | assumption | (simp; done)) zk zk (qw (yD ex (cn + i * 1) (I3 h) zk zf (ee 0 _ rfl) (qw (uX 12 [(pt ab 0), (I3 h)] (U8 ((atM 0 (wholeF (clsF s).1) (plainF h)).1)) zg (fun wq hbq => c_tClass ab ao al a7 an h bt (wholeF (clsF s).1) wq (zC a hbq) (zC g hbq) (l.rd.below hbq) (by with_reducible exact (vH _).rise)) (qw (zV (qw (zV (qw (zV (qw ?_)))))))))))
   have hz := (r).at (k := 1) zj bq
   obtain ⟨d6, cq, d1, di⟩ := hz
   have b := zC b ac
   have d := d.below ac
   refine yN (k := .i64) aj i _ d6 cq wP d1 (by first | omega | assumption | (simp; done)) zk zk (qw (yD d6 (cq + i * 1) (I3 h) zk zf (di 0 _ rfl) (qw (uX 22 [(pt am 0), (I3 h)] (U8 (clsR ((refF s).1) (plainF h))) zg (fun wq hbq => c_ref07_Class am bk ((refF s).1) h wq (zC b hbq) (d.rd.below hbq) (by first | omega | assumption | (simp; done))) (qw (xV .u8 ((atM 0 (wholeF (clsF s).1) (plainF h)).1) (clsR ((refF s).1) (plainF h)) ((atM 0 (wholeF (clsF s).1) (plainF h)).1 ≠ (clsR ((refF s).1) (plainF h))) rfl (cmp_ne ((atM 0 (wholeF (clsF s).1) (plainF h)).1) (clsR ((refF s).1) (plainF h))) zk zk ?_ ?_))))))
   ·intro c5
    replace c5 : (atM 0 (wholeF (clsF s).1) (plainF h)).1 ≠ (clsR ((refF s).1) (plainF h)) := by omega
    exfalso; exact c5 (rd_cls za _)
   intro ep
   replace ep : (atM 0 (wholeF (clsF s).1) (plainF h)).1 = (clsR ((refF s).1) (plainF h)) := by omega
   refine qF (yQ ?_)
   intro fq au
   refine zB (zF (zK (zJ (zB (zP (zD (xN i 1 (zH (zQ ?_)))))))))
   have t := t.tr au
   have a := zC a au
   have n := zC (zC (zC n ah) ac) au
   have j := zC j au
   have g := zC g au
   have b := zC b au
   have r := z.below t
   have p := ((p.below ah).below ac).below au
   have q := ((q.below ah).below ac).below au
   have o := o.below au
   have l := l.below au
   have d := d.below au
   exact zB ⟨_, zo, (i + 1), rfl, bv, zk, r, p, q, o, l, d, a, n, j, g, b, t, zo⟩
  intro gn
  refine nQ (zF (yU (zS (zS (yF (zB (wR (zD (zc (c_tMissing ab ao al a7 ((clsF s).1.2.2) an _ a p.rd zo) ?_)))))))))
  rintro em fs ⟨_, rfl, ae, ay⟩
  have bn := ap_call ae p; have bo := yW bn
  have ae := ae.base t.size
  have a := zC a ay
  have p := p.below ay
  refine zD (zc (c_tMissing ab ao al a7 ((clsF s).1.2.2) an _ a p.rd zo) ?_)
  rintro br f7 ⟨_, rfl, y, ap⟩
  have a0 := ap_call y ae; have cf := yW a0
  have t := t.tr ay
  have y := y.base t.size
  have b := zC (zC b ay) ap
  have d := (d.below ay).below ap
  refine zH (zH (nR (zD (zc (c_ref07_Missing am bk ((refF s).1) _ b d.rd (by first | omega | assumption | (simp; done))) ?_))))
  rintro bp f8 ⟨_, rfl, u, ak⟩
  have ae := ae.below ap
  have a1 := ap_call u ae; have ca := yW a1
  have t := t.tr ap
  have u := u.base t.size
  have ae := ae.below ak
  refine zH (nW (wR (zD (vY underlying42 (ae.rd).len (zD (vY underlying42 (u.rd).len (nNe ((((clsF s).1.2.2)).length) (((misF ((refF s).1))).length) ?_ ?_)))))))
  ·intro d9
   exfalso; exact d9 (congrArg List.length (rd_mis za))
  intro ez
  have y := y.below ak
  refine zD (zw (zD (zw (vY underlying42 (y.rd).len (zw (zD (zw (vY underlying42 (u.rd).len (zw (nNe ((((clsF s).1.2.2)).length) (((misF ((refF s).1))).length) ?_ ?_))))))))))
  ·intro d7
   exact absurd ez d7
  intro f5
  refine xF (nQ (zF (zK (zB (yA (wR (zH (nQ (zW ?_)))))))))
  have t := t.tr ak
  have a := zC (zC a ap) ak
  have n := zC (zC (zC n ay) ap) ak
  have j := zC (zC (zC j ay) ap) ak
  have g := zC (zC (zC g ay) ap) ak
  have b := zC b ak
  have r := z.below t
  have p := (p.below ap).below ak
  have q := ((q.below ay).below ap).below ak
  have o := ((o.below ay).below ap).below ak
  have l := ((l.below ay).below ap).below ak
  have d := d.below ak
  refine xA (fun m s0 w0 => ∃ (i : Nat) (aa : List SpI) (be : Value), (m = (misF (refF s).1).length - i) ∧ (s0.ds = []) ∧ ([3, 9, 11, 20, 21, 19, 22].map s0.f = [(I6 few), (pt ab 0), (pt am 0), br, bp, be, (N6 i)]) ∧ (Rd w0 encI32 aj ask) ∧ (Row w0 w.heap.size 45 3 encSpanC a7 ((clsF s).1.2.2)) ∧ (Row w0 w.heap.size 126 3 encSpanC bz ((clsF s).1.1)) ∧ (Row w0 w.heap.size 131 3 encSpanI b1 ((clsF s).1.2.1)) ∧ (Row w0 w.heap.size 126 3 encSpanC bt (wholeF (clsF s).1)) ∧ (Row w0 w.heap.size 100 5 encRow7 bk ((refF s).1)) ∧ (Row w0 w.heap.size 45 3 encSpanC br ((clsF s).1.2.2)) ∧ (Row w0 w.heap.size 45 3 encSpanC bp (misF ((refF s).1))) ∧ (Row w0 w.heap.size 45 3 encSpanC be aa) ∧ (w0.heap[ab]? = some (.cells [(pt ao 0), (pt al 0), a7, (pt an 0)].toArray 66 (0, 0))) ∧ (w0.heap[ao]? = some (.cells [bz, (.bool true)].toArray 115 (0, 0))) ∧ (w0.heap[al]? = some (.cells [b1, (.bool true)].toArray 118 (0, 0))) ∧ (w0.heap[an]? = some (.cells [bt, (.bool true)].toArray 115 (0, 0))) ∧ (w0.heap[am]? = some (.cells [bk].toArray 98 (0, 0))) ∧ (Value.ownBlock a7 = none ∨ Value.ownBlock a7 ≠ Value.ownBlock be) ∧ (Value.ownBlock br = none ∨ Value.ownBlock br ≠ Value.ownBlock be) ∧ (Value.ownBlock bp = none ∨ Value.ownBlock bp ≠ Value.ownBlock be) ∧ (Below w.heap.size w w0) ∧ (i ≤ (misF (refF s).1).length) ∧ (aa.drop i = (misF (refF s).1).drop i) ∧ (aa.length = (misF (refF s).1).length)) _ ⟨0, ((clsF s).1.2.2), em, rfl, bv, zk, r, p, q, o, l, d, y, u, ae, a, n, j, g, b, bo, a0, a1, t, (Nat.zero_le _), (by rw [rd_mis (s := s) za]), (congrArg List.length (rd_mis za))⟩ ?_
  rintro fx fo gh ⟨i, aa, be, hm, bv, cl, r, p, q, o, l, d, y, u, ad, a, n, j, g, b, bd, ba, a9, t, j1, j2, j3⟩
  refine yX cl (yA (wR (zD (zD (vY underlying42 (u.rd).len (nLt i (((misF ((refF s).1))).length) ?_ ?_))))))
  ·intro gf
   refine nQ (zT (zK (zB (yA (zW (yA (yA (xX zk zk (zV (zV ?_))))))))))
   have hz := zX aa i (by first | omega | assumption | (simp; done)); obtain ⟨aq, b4⟩ := hz
   have hz := (ad.rd).at (k := 3) zj b4
   obtain ⟨dc, b9, dt, dk⟩ := hz
   refine yN (k := .i64) be i _ dc b9 el42 dt (by first | omega | assumption | (simp; done)) zk zk (wO dc (b9 + i * 3) [(I3 aq.1), (I3 aq.2.1), (U8 aq.2.2)] zk zf zf dk (zV (zV ?_)))
   have hz := zX (misF ((refF s).1)) i (by first | omega | assumption | (simp; done)); obtain ⟨av, dl⟩ := hz
   have hz := (u.rd).at (k := 3) zj dl
   obtain ⟨c3, cc, dp, dw⟩ := hz
   refine yN (k := .i64) bp i _ c3 cc el42 dp (by first | omega | assumption | (simp; done)) zk zk (wO c3 (cc + i * 3) [(I3 av.1), (I3 av.2.1), (U8 av.2.2)] zk zf zf dw (Lq_aggne [(I3 aq.1), (I3 aq.2.1), (U8 aq.2.2)] [(I3 av.1), (I3 av.2.1), (U8 av.2.2)] (aq.1 == av.1 && aq.2.1 == av.2.1 && aq.2.2 == av.2.2) zk zk zk (eqagg45 aq.1 aq.2.1 aq.2.2 av.1 av.2.1 av.2.2) ?_ ?_))
   ·intro c2
    exfalso; first | exact uM c2 (el_drop j2 za za) | exact uM c2 (el_same7 (rd_mis za) za za)
   intro df
   replace df : aq.1 = av.1 ∧ aq.2.1 = av.2.1 ∧ aq.2.2 = av.2.2 := by simpa [and_assoc] using df
   refine yQ ?_
   intro f2 ag
   refine zB (zF (zK (zB (zP (zD (zD (zr (Value.agg #[(I3 0), (I3 0), (U8 99)]) ?_)))))))
   have ad := ad.below ag
   have hz := (ad.rd).at (k := 3) zj b4
   obtain ⟨da, ce, ck, e2⟩ := hz
   refine yS (k := .i64) be i _ da ce el42 ck (by first | omega | assumption | (simp; done)) zk zk (L_storeRowA i da ce (0, 0, 99) [(I3 0), (I3 0), (U8 99)] ad zj (by first | omega | assumption | (simp; done)) ck zk zk rfl zk rfl ?_)
   intro fp dv ai
   have t := t.tr ag
   have t := t.tg t.size ai ad
   have a := zC a ag
   have a := zY a ai (ad.ne a zi)
   have n := zC n ag
   have n := zY n ai (ad.ne n zi)
   have j := zC j ag
   have j := zY j ai (ad.ne j zi)
   have g := zC g ag
   have g := zY g ai (ad.ne g zi)
   have b := zC b ag
   have b := zY b ai (ad.ne b zi)
   have q := q.below ag
   have q := q.grown ai (q.apart ad zk)
   have o := o.below ag
   have o := o.grown ai (o.apart ad zk)
   have l := l.below ag
   have l := l.grown ai (l.apart ad zk)
   have d := d.below ag
   have d := d.grown ai (d.apart ad zk)
   have ad := dv
   have fa : (List.set aa i (0, 0, 99))[i]? = some (0, 0, 99) := uB b4
   refine zQ (zJ (zB (zP (zD (xN i 1 (zH (zQ ?_)))))))
   have r := z.below t
   have y := (y.below ag).grown ai ba
   have u := (u.below ag).grown ai a9
   have p := (p.below ag).grown ai bd
   refine zB ⟨_, zo, (i + 1), (List.set aa i (0, 0, 99)), be, rfl, bv, zk, r, p, q, o, l, d, y, u, ad, a, n, j, g, b, bd, ba, a9, t, zo, ?_, ?_⟩
   ·exact drop_set7 _ j2
   (rw [List.length_set]; exact j3)
  intro f0
  refine nQ (zF (yU (zS (zS (yF (zB (yA (wR (zH (nQ (zW (xA (fun m s0 w0 => ∃ (i : Nat), (m = (misF (refF s).1).length - i) ∧ (s0.ds = []) ∧ ([3, 9, 11, 20, 21, 23].map s0.f = [(I6 few), (pt ab 0), (pt am 0), br, bp, (N6 i)]) ∧ (Rd w0 encI32 aj ask) ∧ (Row w0 w.heap.size 45 3 encSpanC a7 ((clsF s).1.2.2)) ∧ (Row w0 w.heap.size 126 3 encSpanC bz ((clsF s).1.1)) ∧ (Row w0 w.heap.size 131 3 encSpanI b1 ((clsF s).1.2.1)) ∧ (Row w0 w.heap.size 126 3 encSpanC bt (wholeF (clsF s).1)) ∧ (Row w0 w.heap.size 100 5 encRow7 bk ((refF s).1)) ∧ (Row w0 w.heap.size 45 3 encSpanC br ((clsF s).1.2.2)) ∧ (Row w0 w.heap.size 45 3 encSpanC bp (misF ((refF s).1))) ∧ (Row w0 w.heap.size 45 3 encSpanC be aa) ∧ (w0.heap[ab]? = some (.cells [(pt ao 0), (pt al 0), a7, (pt an 0)].toArray 66 (0, 0))) ∧ (w0.heap[ao]? = some (.cells [bz, (.bool true)].toArray 115 (0, 0))) ∧ (w0.heap[al]? = some (.cells [b1, (.bool true)].toArray 118 (0, 0))) ∧ (w0.heap[an]? = some (.cells [bt, (.bool true)].toArray 115 (0, 0))) ∧ (w0.heap[am]? = some (.cells [bk].toArray 98 (0, 0))) ∧ (Below w.heap.size w w0) ∧ (i ≤ (misF (refF s).1).length)) _ ⟨0, rfl, bv, zk, r, p, q, o, l, d, y, u, ad, a, n, j, g, b, t, (Nat.zero_le _)⟩ ?_))))))))))))
  rintro gc fd fk ⟨i, hm, bv, cl, r, p, q, o, l, d, y, u, ad, a, n, j, g, b, t, k1⟩
  refine yX cl (yA (wR (zD (zD (vY underlying42 (u.rd).len (nLt i (((misF ((refF s).1))).length) ?_ ?_))))))
  ·intro fj
   refine nQ (zT (zK (zB (yA (zW (yA (xX zk zk (zV (zV ?_)))))))))
   have hz := zX ((clsF s).1.2.2) i (by first | omega | assumption | (simp; done)); obtain ⟨az, dy⟩ := hz
   have hz := (y.rd).at (k := 3) zj dy
   obtain ⟨c4, ci, dq, dz⟩ := hz
   refine yN (k := .i64) br i _ c4 ci el42 dq (by first | omega | assumption | (simp; done)) zk zk (wO c4 (ci + i * 3) [(I3 az.1), (I3 az.2.1), (U8 az.2.2)] zk zf zf dz (zV (zV ?_)))
   have hz := zX (misF ((refF s).1)) i (by first | omega | assumption | (simp; done)); obtain ⟨ax, du⟩ := hz
   have hz := (u.rd).at (k := 3) zj du
   obtain ⟨c0, cd, dm, dj⟩ := hz
   refine yN (k := .i64) bp i _ c0 cd el42 dm (by first | omega | assumption | (simp; done)) zk zk (wO c0 (cd + i * 3) [(I3 ax.1), (I3 ax.2.1), (U8 ax.2.2)] zk zf zf dj (Lq_aggne [(I3 az.1), (I3 az.2.1), (U8 az.2.2)] [(I3 ax.1), (I3 ax.2.1), (U8 ax.2.2)] (az.1 == ax.1 && az.2.1 == ax.2.1 && az.2.2 == ax.2.2) zk zk zk (eqagg45 az.1 az.2.1 az.2.2 ax.1 ax.2.1 ax.2.2) ?_ ?_))
   ·intro c1
    exfalso; first | exact uM c1 (el_drop j2 za za) | exact uM c1 (el_same7 (rd_mis za) za za)
   intro c7
   replace c7 : az.1 = ax.1 ∧ az.2.1 = ax.2.1 ∧ az.2.2 = ax.2.2 := by simpa [and_assoc] using c7
   refine yQ ?_
   intro gg af
   refine zB (zF (zK (zJ (zB (zP (zD (xN i 1 (zH (zQ ?_)))))))))
   have t := t.tr af
   have a := zC a af
   have n := zC n af
   have j := zC j af
   have g := zC g af
   have b := zC b af
   have r := z.below t
   have ad := ad.below af
   have y := y.below af
   have u := u.below af
   have p := p.below af
   have q := q.below af
   have o := o.below af
   have l := l.below af
   have d := d.below af
   exact zB ⟨_, zo, (i + 1), rfl, bv, zk, r, p, q, o, l, d, y, u, ad, a, n, j, g, b, t, zo⟩
  intro gj
  refine nQ (zF (yU (zS (zS (yF (zB (wR (zD (zD (zc (c_toldN ab ao al a7 an few bz ((clsF s).1.1) _ a n q.rd (by with_reducible exact (cls_ok _).1.rise.len)) ?_))))))))))
  rintro eu fh ⟨_, rfl, bj, a6⟩
  have bj := bj.base t.size
  have b := zC b a6
  have d := d.below a6
  refine zD (zc (c_ref07_Named am bk ((refF s).1) _ b d.rd (by first | omega | assumption | (simp; done)) (by exact rd_good za)) ?_)
  rintro er gb ⟨_, rfl, bx, a3⟩
  have t := t.tr a6
  have bx := bx.base t.size
  have bj := bj.below a3
  refine zD (zc (c_same7 eu (fewC ((clsF s).1.1) few) er (strF (fun x => (givenF ((refF s).1) (plainF x)).1) (edgesF ((refF s).1)) []) few _ bj.rd bx.rd (by (refine Nat.le_trans (few_len _ _) (Nat.le_trans (by first | with_reducible exact (cls_ok _).1.rise.len | with_reducible exact (vH _).rise.len) (by decide)))) (by (rw [rd_nam (s := s) za]; exact Nat.le_trans (cls_ok s).1.rise.len (by decide)))) ?_)
  rintro _ fv ⟨rfl, a8⟩
  refine yT (decide ((fewC ((clsF s).1.1) few) = fewC (strF (fun x => (givenF ((refF s).1) (plainF x)).1) (edgesF ((refF s).1)) []) few)) ?_ ?_
  ·intro gd
   have a := zC (zC (zC a a6) a3) a8
   have g := zC (zC (zC g a6) a3) a8
   have l := ((l.below a6).below a3).below a8
   refine zD (zw (zD (zw (zD (zw (zc (c_toldW ab ao al a7 an few bt (wholeF (clsF s).1) _ a g l.rd (by with_reducible exact (vH _).rise.len)) ?_))))))
   rintro eg f4 ⟨_, rfl, bm, a5⟩
   have t := (t.tr a3).tr a8
   have bm := bm.base t.size
   have b := zC (zC (zC b a3) a8) a5
   have d := ((d.below a3).below a8).below a5
   refine zw (zD (zw (zc (c_ref07_Whole am bk ((refF s).1) _ b d.rd (by first | omega | assumption | (simp; done)) (by exact rd_good za)) ?_)))
   rintro en gm ⟨_, rfl, b0, a2⟩
   have t := t.tr a5
   have b0 := b0.base t.size
   have bm := bm.below a2
   refine zw (zD (zw (zc (c_same7 eg (fewC (wholeF (clsF s).1) few) en (strF (fun x => clsR ((refF s).1) (plainF x)) (edgesF ((refF s).1)) []) few _ bm.rd b0.rd (by (refine Nat.le_trans (few_len _ _) (Nat.le_trans (by first | with_reducible exact (cls_ok _).1.rise.len | with_reducible exact (vH _).rise.len) (by decide)))) (by (rw [rd_who (s := s) za]; exact Nat.le_trans (vH (clsF s).1).rise.len (by decide)))) ?_)))
   rintro _ f1 ⟨rfl, a4⟩
   refine yT (decide ((fewC (wholeF (clsF s).1) few) = fewC (strF (fun x => clsR ((refF s).1) (plainF x)) (edgesF ((refF s).1)) []) few)) ?_ ?_
   ·intro gl
    have a := zC (zC (zC a a5) a2) a4
    have g := zC (zC (zC g a5) a2) a4
    have l := ((l.below a5).below a2).below a4
    refine xJ (zD (zw (zD (zw (zc (c_toldW ab ao al a7 an (-1) bt (wholeF (clsF s).1) _ a g l.rd (by with_reducible exact (vH _).rise.len)) ?_)))))
    rintro et ff ⟨_, rfl, bi, bh⟩
    have t := (t.tr a2).tr a4
    have bi := bi.base t.size
    have b := zC (zC (zC b a2) a4) bh
    have d := ((d.below a2).below a4).below bh
    refine zw (zD (zw (zc (c_ref07_Whole am bk ((refF s).1) _ b d.rd (by first | omega | assumption | (simp; done)) (by exact rd_good za)) ?_)))
    rintro ej f6 ⟨_, rfl, bw, bc⟩
    have t := t.tr bh
    have bw := bw.base t.size
    have bi := bi.below bc
    refine zw (zc (c_same7 et (fewC (wholeF (clsF s).1) (-1)) ej (strF (fun x => clsR ((refF s).1) (plainF x)) (edgesF ((refF s).1)) []) (-1) _ bi.rd bw.rd (by (refine Nat.le_trans (few_len _ _) (Nat.le_trans (by first | with_reducible exact (cls_ok _).1.rise.len | with_reducible exact (vH _).rise.len) (by decide)))) (by (rw [rd_who (s := s) za]; exact Nat.le_trans (vH (clsF s).1).rise.len (by decide)))) ?_)
    rintro _ fw ⟨rfl, bg⟩
    refine yT (decide ((fewC (wholeF (clsF s).1) (-1)) = fewC (strF (fun x => clsR ((refF s).1) (plainF x)) (edgesF ((refF s).1)) []) (-1))) ?_ ?_
    ·intro fu
     have a := zC (zC (zC a bh) bc) bg
     have n := zC (zC (zC (zC (zC (zC (zC (zC (zC n a6) a3) a8) a5) a2) a4) bh) bc) bg
     have p := ((((((((p.below a6).below a3).below a8).below a5).below a2).below a4).below bh).below bc).below bg
     have q := ((((((((q.below a6).below a3).below a8).below a5).below a2).below a4).below bh).below bc).below bg
     refine xJ (zD (zw (zD (zw (zc (c_tWrite ab ao al a7 ((clsF s).1.2.2) an bz ((clsF s).1.1) _ a p.rd n q.rd (by with_reducible exact (cls_cls _).2) (by with_reducible exact (cls_cls _).1) zo (by with_reducible exact (cls_ok _).1.rise.len)) ?_)))))
     rintro _ fm ⟨rfl, b3⟩
     have := write_lenC ((clsF s).1.2.2) ((clsF s).1.1)
     have b := zC (zC (zC b bc) bg) b3
     have d := ((d.below bc).below bg).below b3
     refine zw (zD (zw (zc (c_ref07_Write am bk ((refF s).1) _ b d.rd (by first | omega | assumption | (simp; done)) (by exact rd_good za) (by (rw [← rd_mis (s := s) za]; exact (cls_cls s).2)) (by (rw [rd_nam (s := s) za]; exact (cls_cls s).1)) (by (rw [rd_nam (s := s) za]; exact (cls_ok s).1.rise.len))) ?_)))
     rintro _ gk ⟨rfl, d0⟩
     have := write_lenC (misF ((refF s).1)) (strF (fun x => (givenF ((refF s).1) (plainF x)).1) (edgesF ((refF s).1)) [])
     refine zw (L_seq (writeC ((clsF s).1.2.2) ((clsF s).1.1)) (writeC (misF ((refF s).1)) (strF (fun x => (givenF ((refF s).1) (plainF x)).1) (edgesF ((refF s).1)) [])) rfl zk zk ?_ ?_)
     ·intro gi
      have t := (((t.tr bc).tr bg).tr b3).tr d0
      refine xJ (zD (zw (zc (c_lives7  _ (wE hml t)) ?_)))
      rintro _ fl ⟨rfl, d2⟩
      have t := t.tr d2
      exact xJ (zH (nQ (zR (zZ [(.bool true)] (hd := bv) ⟨rfl, t⟩))))
     intro d3
     exfalso; exact d3 (by rw [← rd_mis (s := s) za, rd_nam (s := s) za])
    intro c9
    exfalso; first | exact of_decide_eq_false c9 (by rw [rd_nam (s := s) za]) | exact of_decide_eq_false c9 (by rw [rd_who (s := s) za])
   intro c6
   exfalso; first | exact of_decide_eq_false c6 (by rw [rd_nam (s := s) za]) | exact of_decide_eq_false c6 (by rw [rd_who (s := s) za])
  intro de
  exfalso; first | exact of_decide_eq_false de (by rw [rd_nam (s := s) za]) | exact of_decide_eq_false de (by rw [rd_who (s := s) za])
 skip
 refine zc (c_classes_Read_bad file s _ (wE hml t) (by first | omega | assumption | (simp; done)) (by with_reducible assumption)) ?_
 rintro _ go ⟨bs, rfl, ar, b2, cs⟩
 replace b2 := Nat.le_trans t.size b2
 refine zD (zr (.pointer none) (zr (.iface 73 (pt bs 0)) (zH (zH (nR (zD (zc (c_ref07_Read_bad s _ (by first | omega | assumption | (simp; done)) (by exact dd)) ?_)))))))
 rintro _ ft ⟨rfl, b6⟩
 refine zD (zr (.pointer none) (zr (I6 ((clsF s).2.1)) (zr (I6 ((clsF s).2.2)) (zH (zH (zH (nW (wR (zD (zNe .i64 ((clsF s).2.2) 0 ?_ ?_))))))))))
 ·intro fn
  refine nQ (zT (wR (zD (zr (.bool true) (zD (zw (zD (zw (zD (zw (zD (zw (zD (zw (vQ 20 [(.iface 73 (pt bs 0)), (S file), (I6 ((clsF s).2.1)), (I6 ((clsF s).2.2))] zk zk (wJ 37 func20 rfl (wR (zH (nR (zN [(.pointer none)] 73 ?_))))))))))))))))))))
  intro db fe bu
  have t := (t.tr cs).tr b6
  have co := bu.ge t.size
  have aw := bu.here
  have t := t.tr bu.below
  refine nR (zD (zr (.bool true) (zD (zw (zD (zw (zr (.iface 104 (pt db 0)) (zw (zc (as_fk bs db (.pointer none) _ (wE hty t) aw) ?_)))))))))
  rintro _ fi ⟨rfl, fy, b5, b7⟩
  have ar := zC (zC (zC ar b6) bu.below) b5
  have aw := zC aw b5
  have ar := zI ar b7 (zU ar aw zi)
  have aw := b7.here
  refine xJ (zD (zw (zO 0 aw rfl (zw (zr (.bool true) (xJ (zD (zw (zO 0 aw rfl (zw (zr (pt bs 0) (zw (vT ar (zw (zD (zw (zD (zw (zD (zw (zr (Value.agg #[(S file), (I6 ((clsF s).2.1)), (I6 ((clsF s).2.2))]) (zw (L_aggeq [(S file), (I6 ((clsF s).2.1)), (I6 ((clsF s).2.2))] [(S file), (I6 ((clsF s).2.1)), (I6 ((clsF s).2.2))] (file == file && ((clsF s).2.1) == ((clsF s).2.1) && ((clsF s).2.2) == ((clsF s).2.2)) zk zk zk (eqagg75 file ((clsF s).2.1) ((clsF s).2.2) file ((clsF s).2.1) ((clsF s).2.2)) ?_ ?_)))))))))))))))))))))))
  ·intro f9
   refine xJ (zD (zw (zD (zw (zD (zw (zr (.iface 50 (I6 ((clsF s).2.2))) (zw (zc (is_fk bs file ((clsF s).2.1) ((clsF s).2.2) _ ar) ?_)))))))))
   rintro _ fg ⟨rfl, dx⟩
   refine xJ (zH (nQ (zR (zZ [(.bool true)] ?_))))
   show L _ _ _ _ _ _ (Fm.put _ _ (.bool true)) _
   have t := ((t.tr b5).trans (b7.below co)).tr dx
   refine xJ (zD (zw (zc (c_lives7  _ (wE hml t)) ?_)))
   rintro _ fr ⟨rfl, dr⟩
   have t := t.tr dr
   exact xJ (zH (nQ (zR (zG (zZ [(.bool true)] ⟨rfl, t⟩)))))
  intro ey
  simp at ey
 intro f3
 have t := (t.tr cs).tr b6
 exact nQ (zF (zK (zB (yA (wR (zD (zr (.bool true) (zD (zs (zs (xJ (nQ (zT (wR (zH (nQ (zR (zG (zZ [(.bool false)] ⟨eb (by first | rfl | (exfalso; omega)), t⟩)))))))))))))))))))
end Go.Proofs.YtkclikfejmeblaaGreatDoor
end
