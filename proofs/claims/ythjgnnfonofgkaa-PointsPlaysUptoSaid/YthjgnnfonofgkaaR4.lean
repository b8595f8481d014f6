/- Joined by my program pack2.py out of my own texts: Wgpt FKao FKap Wgww FKav. -/
import Derived.Test.YthjgnnfonofgkaaProg
import Derived.Tactics2
import Derived.OrdersHeld
import Derived.OrdersIn
import Derived.Test.YthjgnnfonofgkaaR2
import Derived.Test.YthjgnnfonofgkaaR3
set_option linter.unusedVariables false
set_option linter.unusedSimpArgs false
/- === Wgpt === -/
section
/- Walks, written by my program walk.py out of the specification gpt.py: each theorem says what one function returns and that it leaves memory as it was. -/
namespace Go.Proofs.Ythjgnnfonofgkaa
open Go Go.RowKit Go.FK
set_option maxHeartbeats 4000000
set_option maxRecDepth 100000
theorem xB (n : Int) (w : World) :
  Calls Try.prog 78 #[(I6 n)] w (Ret fun v w' => v = (N6 (atW n)) ∧ Below w.heap.size w w') := by
 refine wL 5 Try.func78 rfl ?_
 have a := Below.refl w.heap.size w
 exact wR (zI (nR (zG (L_and3 n zk zk (zI (nQ (yB (yJ [(N6 (atW n))] ⟨rfl, a⟩))))))))
theorem c_turned (val : List UInt8) (few : Int) (w : World) (hv : val.length ≤ 2097152) :
  Calls Try.prog 121 #[(S val), (I6 few)] w (Ret fun v w' => v = (S (trnV few val)) ∧ Below w.heap.size w w') := by
 refine wL 9 Try.func121 rfl ?_
 have a := Below.refl w.heap.size w
 refine wR (zI (nW (wR (zG (zEq .i64 few 0 ?_ ?_)))))
 ·intro b
  exact nQ (zT (wR (zI (nQ (yB (zP (yJ [(S [97, 108, 105, 107, 101])] ⟨congrArg S (by (rw [trnV, if_pos za]; done)), a⟩)))))))
 intro c
 exact nQ (zF (zZ (zB (wR (zG (L_sadd ([120] : List UInt8) val (by (simp only [List.length_append, List.length_cons, List.length_nil]; omega)) zk zk (zI (nQ (yB (yJ [(S (([120] : List UInt8) ++ val))] ⟨congrArg S (by (rw [trnV, if_neg za]; rfl)), a⟩))))))))))
theorem c_told (an : Nat) (ba : Value) (xs : List (Int × Int × List UInt8)) (few : Int) (w : World) (t : w.heap[an]? = some (.cells [ba, (.bool true)].toArray 136 (0, 0))) (ac : Rd w encSpanS ba xs) (hr : RiseG 0 xs) :
  Calls Try.prog 82 #[(pt an 0), (I6 few)] w (Ret fun v w' => ∃ (q0 : Value) (q1 : Value), v = (.tuple #[q0, q1]) ∧ Row w' w.heap.size 183 4 encD q0 (tkF few (xs.map spS)) ∧ Row w' w.heap.size 183 4 encD q1 (tkF few ((gapsG xs).map rgS)) ∧ Below w.heap.size w w') := by
 refine enterM (args := [(pt an 0), (I6 few)]) Try.func82 rfl (zk : _ = 47) zk ?_
 have z := Below.refl w.heap.size w
 have ad := ac
 have fm := hr.len
 have fg := gaps_len xs
 refine wR (zN [(I6 few)] 3 ?_)
 intro b1 w2 dz
 have em := dz.ge z.size
 have r := dz.here
 refine zI (zI (nR (zN [(.slice none 0 0)] 147 ?_)))
 intro b4 w5 dg
 replace z := z.tr dz.below
 have dh := dg.ge z.size
 have n := dg.here
 refine zN [(.slice none 0 0)] 147 ?_
 intro b7 w8 c0
 have ay := qB (yD n) c0
 have bw := NE.symm ay
 replace z := z.tr dg.below
 have cj := c0.ge z.size
 have m := c0.here
 replace z := z.tr c0.below
 replace t := zA (zA (zA t dz.below) dg.below) c0.below
 replace ac := ad.below z
 refine nW (wR (zG (zc (c_all_S an ba xs _ t ac) ?_)))
 rintro _ ao ⟨a3, rfl, d, c4, cq⟩
 replace c4 := Nat.le_trans z.size c4
 refine nQ (yC ?_)
 replace t := zA t cq
 have b5 : an < ao.heap.size := yD t
 replace r := zA (zA (zA r dg.below) c0.below) cq
 have cb : b1 < ao.heap.size := yD r
 replace n := zA (zA n c0.below) cq
 have ca : b4 < ao.heap.size := yD n
 replace m := zA m cq
 have ce : b7 < ao.heap.size := yD m
 have bi : a3 < ao.heap.size := yD d
 replace z := z.tr cq
 have cc := z.size
 have en := z
 replace ac := ad.below z
 refine wQ 72 [(pt a3 0)] xs zk (fun _ _ => rfl) (it_all_S a3 an ba xs zo) ⟨d, t, ac⟩ ((fun D A B h hc hd => ⟨zL h.1 hc (fun h => Nat.not_lt.2 (hd _ h) bi), zL h.2.1 hc (fun h => Nat.not_lt.2 (hd _ h) b5), Rd.ch ac (Nat.le_refl _) h.2.2 hc hd⟩)) (by intro x; rfl) (fun K al A => ∃ (la : List StrV) (q : Value), (A.heap[an]? = some (.cells [ba, (.bool true)].toArray 136 (0, 0))) ∧ (A.heap[b1]? = some (.cells [(I6 few)].toArray 3 (0, 0))) ∧ (A.heap[b4]? = some (.cells [q].toArray 147 (0, 0))) ∧ (A.heap[b7]? = some (.cells [(.slice none 0 0)].toArray 147 (0, 0))) ∧ (A.heap[a3]? = some (.cells [(pt an 0)].toArray 66 (0, 0))) ∧ (Row A w.heap.size 183 4 encD q la) ∧ (∀ g, Value.ownBlock q = some g → ¬ Iv ao.heap.size K g) ∧ (Below w.heap.size w A) ∧ (la = al.map spS) ∧ (few < 0 ∨ (al.length : Int) ≤ few)) (fun K c al A => (∃ (la : List StrV) (q : Value), (c = .exit 0) ∧ (A.heap[an]? = some (.cells [ba, (.bool true)].toArray 136 (0, 0))) ∧ (A.heap[b1]? = some (.cells [(I6 few)].toArray 3 (0, 0))) ∧ (A.heap[b4]? = some (.cells [q].toArray 147 (0, 0))) ∧ (A.heap[b7]? = some (.cells [(.slice none 0 0)].toArray 147 (0, 0))) ∧ (A.heap[a3]? = some (.cells [(pt an 0)].toArray 66 (0, 0))) ∧ (Row A w.heap.size 183 4 encD q la) ∧ (∀ g, Value.ownBlock q = some g → ¬ Iv ao.heap.size K g) ∧ (Below w.heap.size w A) ∧ (la = tkF few (xs.map spS)))) ?_ ?_ ?_ ?_ ?_ ?_
 ·intro A hA
  exact ⟨[], (.slice none 0 0), zA t hA, zA r hA, zA n hA, zA m hA, zA d hA, Row.nil _ _ _ _ _, nr_nil _ _, z.trans (hA.mono z.size), by rfl, by simp only [List.length_nil]; omega⟩
 ·rintro K al A B ⟨la, q, t, r, n, m, d, a, i, z, bl, b6⟩ hc
  exact ⟨la, q, zL t hc (fun h => Nat.not_lt.2 h.1 b5), zL r hc (fun h => Nat.not_lt.2 h.1 cb), zL n hc (fun h => Nat.not_lt.2 h.1 ca), zL m hc (fun h => Nat.not_lt.2 h.1 ce), zL d hc (fun h => Nat.not_lt.2 h.1 bi), a.ch hc i, i, hc.below z z.size (fun k h => Nat.le_trans cc h.1), bl, b6⟩
 ·rintro K c al A B (⟨la, q, dk, t, r, n, m, d, a, i, z, cm⟩) hc
  exact ⟨la, q, dk, zL t hc (fun h => Nat.not_lt.2 h.1 b5), zL r hc (fun h => Nat.not_lt.2 h.1 cb), zL n hc (fun h => Nat.not_lt.2 h.1 ca), zL m hc (fun h => Nat.not_lt.2 h.1 ce), zL d hc (fun h => Nat.not_lt.2 h.1 bi), a.ch hc i, i, hc.below z z.size (fun k h => Nat.le_trans cc h.1), cm⟩
 ·intro l K al x A hi hN dw hK a9
  obtain ⟨la, q, t, r, n, m, d, a, i, z, bl, b6⟩ := hi
  have hk := Kp.refl (ao.heap.size) K A
  have cu : ¬ Iv (ao.heap.size) K an := fun h => Nat.not_lt.2 h.1 b5
  have b8 : ¬ Iv (ao.heap.size) K b1 := fun h => Nat.not_lt.2 h.1 cb
  have bx : ¬ Iv (ao.heap.size) K b4 := fun h => Nat.not_lt.2 h.1 ca
  have bs : ¬ Iv (ao.heap.size) K b7 := fun h => Nat.not_lt.2 h.1 ce
  have bp : ¬ Iv (ao.heap.size) K a3 := fun h => Nat.not_lt.2 h.1 bi
  have ac := ad.below z
  replace d := hN.1
  replace t := hN.2.1
  have eh : la.length = al.length := by rw [bl]; exact List.length_map ..
  have ei : al.length < xs.length := tk_lt a9
  refine wR (zN [(I3 0), (I3 0)] 29 ?_)
  intro el es bm
  have ec := bm.ge z.size
  have dm : ¬ Iv ao.heap.size K el := fun h => by have := h.2; have := bm.num; omega
  replace hk := hk.ch (Ch.of_below bm.below) hK (fun _ h => h.elim)
  replace hK := Nat.le_trans hK (bm.below.size)
  have bq := bm.here
  refine qC [(I3 x.1), (I3 x.2.1)] bq ?_
  intro ex br
  replace hk := hk.ch (Ch.of_wrote br) hK (fun k e h => dm (e ▸ h))
  replace hK := Nat.le_trans hK (Nat.le_of_eq br.size.symm)
  replace t := zA t bm.below
  replace t := zC t br (zH t bq zi)
  replace r := zA r bm.below
  replace r := zC r br (zH r bq zi)
  replace n := zA n bm.below
  replace n := zC n br (zH n bq zi)
  replace m := zA m bm.below
  replace m := zC m br (zH m bq zi)
  replace d := zA d bm.below
  replace d := zC d br (zH d bq zi)
  replace a := a.below bm.below
  replace a := a.wrote br (a.ne bq zi)
  replace bq := br.here
  refine nQ (zW (zI (zR (zB ⟨hk, ?_⟩))))
  intro ek bu
  replace z := (z.tr bm.below).trans (br.below ec)
  replace z := bu.below z z.size (fun k h => Nat.le_trans cc h.1)
  replace hK := Nat.le_trans hK bu.size
  replace hk := Kp.refl (ao.heap.size) K ek
  replace n := zL n bu bx
  replace bq := zL bq bu dm
  replace a := a.ch bu i
  refine yC (wR (zO 0 n rfl (wG bq (zG (zr (Value.agg #[(I3 x.1), (I3 x.2.1), (S x.2.2), (.bool true)]) (L_app xK w.heap.size q la (x.1, x.2.1, x.2.2, true) z.size a zo zk rfl rfl zk rfl zk zk ?_))))))
  intro df ez ed bz d3
  have cw := nr_app d3 i hK
  replace z := z.tg z.size bz a
  replace hk := hk.ch (Ch.of_grown bz) hK (fun k e => i k e)
  replace hK := Nat.le_trans hK (bz.size)
  replace t := zL t bu cu
  replace t := yI t bz (a.ne t zi)
  replace r := zL r bu b8
  replace r := yI r bz (a.ne r zi)
  replace n := yI n bz (a.ne n zi)
  replace m := zL m bu bs
  replace m := yI m bz (a.ne m zi)
  replace d := zL d bu bp
  replace d := yI d bz (a.ne d zi)
  replace a := ed
  have i := cw; clear cw
  refine yQ b4 0 df [q] [df] 147 zk zk a.one zk n zi rfl ?_
  intro e2 bg
  replace hk := hk.ch (Ch.of_wrote bg) hK (fun k e h => bx (e ▸ h))
  replace hK := Nat.le_trans hK (Nat.le_of_eq bg.size.symm)
  replace t := zC t bg (zH t n zi)
  replace r := zC r bg (zH r n zi)
  replace d := zC d bg (zH d n zi)
  replace a := a.wrote bg (a.ne n zi)
  replace n := bg.here
  refine nR (zO 0 r rfl (zGe .i64 few 0 ?_ ?_))
  ·intro er
   refine zG (zw (zO 0 n rfl (zw (vI Try.underlying147 (a.rd).len (zw (zO 0 r rfl (zw (zGt .i64 ((((la ++ [(x.1, x.2.1, x.2.2, true)])).length : Nat) : Int) few ?_ ?_))))))))
   ·intro fh
    refine xN (nQ (zT (yZ (zxo ?_))))
    replace z := z.trans (bg.below dh)
    replace m := zC m bg bw
    refine round_exit hk (⟨(la ++ [(x.1, x.2.1, x.2.2, true)]), df, rfl, t, r, n, m, d, a, i, z, ?_⟩)
    rw [bl]; refine Eq.trans ?_ (tkF_stop a9 zo (by (simp only [List.length_append, List.length_cons, List.length_nil] at *; omega))); rw [List.map_append]; rfl
   intro ev
   refine xN (nQ (zF (zZ (zS ?_))))
   replace z := z.trans (bg.below dh)
   replace m := zC m bg bw
   replace ac := ad.below z
   refine yU hk ⟨d, t, ac⟩ ⟨(la ++ [(x.1, x.2.1, x.2.2, true)]), df, t, r, n, m, d, a, i, z, ?_, ?_⟩
   ·rw [bl, List.map_append]; rfl
   (simp only [List.length_append, List.length_cons, List.length_nil] at *; omega)
  intro fo
  refine zG (zs (zs (zs (zs (zpF (nQ (zF (zZ (zS ?_)))))))))
  replace z := z.trans (bg.below dh)
  replace m := zC m bg bw
  replace ac := ad.below z
  refine yU hk ⟨d, t, ac⟩ ⟨(la ++ [(x.1, x.2.1, x.2.2, true)]), df, t, r, n, m, d, a, i, z, ?_, zo⟩
  rw [bl, List.map_append]; rfl
 ·intro K A hi dr s
  obtain ⟨la, q, t, r, n, m, d, a, i, z, bl, b6⟩ := hi
  have ac := ad.below z
  refine zS (zB (yA (wR (zG (zc (c_gaps_S an ba xs _ t ac) ?_)))))
  rintro _ az ⟨b9, rfl, u, c7, b3⟩
  replace c7 := Nat.le_trans z.size c7
  refine nQ (yC ?_)
  replace t := zA t b3
  have aq : an < az.heap.size := yD t
  replace r := zA r b3
  have ah : b1 < az.heap.size := yD r
  replace n := zA n b3
  have ag : b4 < az.heap.size := yD n
  replace m := zA m b3
  have ai : b7 < az.heap.size := yD m
  replace d := zA d b3
  have ae : a3 < az.heap.size := yD d
  replace s := zA s b3
  have ab : ao.heap.size < az.heap.size := yD s
  have a8 : b9 < az.heap.size := yD u
  replace z := z.tr b3
  have bf := z.size
  have ef := z
  replace ac := ad.below z
  refine W_range2 141 [(pt b9 0)] (gapsG xs) zk (fun _ _ => rfl) (it_gaps_S b9 an ba xs zo (by exact hr)) ⟨u, t, ac⟩ ((fun D A B h hc hd => ⟨zL h.1 hc (fun h => Nat.not_lt.2 (hd _ h) a8), zL h.2.1 hc (fun h => Nat.not_lt.2 (hd _ h) aq), Rd.ch ac (Nat.le_refl _) h.2.2 hc hd⟩)) (by intro x; rfl) (fun K al A => ∃ (lg : List StrV) (o : Value), (A.heap[an]? = some (.cells [ba, (.bool true)].toArray 136 (0, 0))) ∧ (A.heap[b1]? = some (.cells [(I6 few)].toArray 3 (0, 0))) ∧ (A.heap[b4]? = some (.cells [q].toArray 147 (0, 0))) ∧ (A.heap[b7]? = some (.cells [o].toArray 147 (0, 0))) ∧ (A.heap[a3]? = some (.cells [(pt an 0)].toArray 66 (0, 0))) ∧ (A.heap[ao.heap.size]? = some (.deferred (some []))) ∧ (A.heap[b9]? = some (.cells [(pt an 0)].toArray 66 (0, 0))) ∧ (Row A w.heap.size 183 4 encD q la) ∧ (∀ g, Value.ownBlock q = some g → ¬ Iv az.heap.size K g) ∧ (Row A w.heap.size 183 4 encD o lg) ∧ (∀ g, Value.ownBlock o = some g → ¬ Iv az.heap.size K g) ∧ (Value.ownBlock q = none ∨ Value.ownBlock q ≠ Value.ownBlock o) ∧ (Value.ownBlock o = none ∨ Value.ownBlock o ≠ Value.ownBlock q) ∧ (Below w.heap.size w A) ∧ (lg = al.map rgS) ∧ (few < 0 ∨ (al.length : Int) ≤ few)) (fun K c al A => (∃ (lg : List StrV) (o : Value), (c = .exit 2) ∧ (A.heap[an]? = some (.cells [ba, (.bool true)].toArray 136 (0, 0))) ∧ (A.heap[b1]? = some (.cells [(I6 few)].toArray 3 (0, 0))) ∧ (A.heap[b4]? = some (.cells [q].toArray 147 (0, 0))) ∧ (A.heap[b7]? = some (.cells [o].toArray 147 (0, 0))) ∧ (A.heap[a3]? = some (.cells [(pt an 0)].toArray 66 (0, 0))) ∧ (A.heap[ao.heap.size]? = some (.deferred (some []))) ∧ (A.heap[b9]? = some (.cells [(pt an 0)].toArray 66 (0, 0))) ∧ (Row A w.heap.size 183 4 encD q la) ∧ (∀ g, Value.ownBlock q = some g → ¬ Iv az.heap.size K g) ∧ (Row A w.heap.size 183 4 encD o lg) ∧ (∀ g, Value.ownBlock o = some g → ¬ Iv az.heap.size K g) ∧ (Value.ownBlock q = none ∨ Value.ownBlock q ≠ Value.ownBlock o) ∧ (Value.ownBlock o = none ∨ Value.ownBlock o ≠ Value.ownBlock q) ∧ (Below w.heap.size w A) ∧ (lg = tkF few ((gapsG xs).map rgS)))) ?_ ?_ ?_ ?_ ?_ ?_
  ·intro A hA eg
   replace a := a.below b3
   exact ⟨[], (.slice none 0 0), zA t hA, zA r hA, zA n hA, zA m hA, zA d hA, zA s hA, zA u hA, a.below hA, qE a _, Row.nil _ _ _ _ _, nr_nil _ _, qD _, (.inl rfl), z.trans (hA.mono z.size), by rfl, by simp only [List.length_nil]; omega⟩
  ·rintro K al A B ⟨lg, o, t, r, n, m, d, s, u, a, i, b, p, f, j, z, af, bk⟩ hc
   exact ⟨lg, o, zL t hc (fun h => Nat.not_lt.2 h.1 aq), zL r hc (fun h => Nat.not_lt.2 h.1 ah), zL n hc (fun h => Nat.not_lt.2 h.1 ag), zL m hc (fun h => Nat.not_lt.2 h.1 ai), zL d hc (fun h => Nat.not_lt.2 h.1 ae), zL s hc (fun h => Nat.not_lt.2 h.1 ab), zL u hc (fun h => Nat.not_lt.2 h.1 a8), a.ch hc i, i, b.ch hc p, p, f, j, hc.below z z.size (fun k h => Nat.le_trans bf h.1), af, bk⟩
  ·rintro K c al A B (⟨lg, o, dk, t, r, n, m, d, s, u, a, i, b, p, f, j, z, bt⟩) hc
   exact ⟨lg, o, dk, zL t hc (fun h => Nat.not_lt.2 h.1 aq), zL r hc (fun h => Nat.not_lt.2 h.1 ah), zL n hc (fun h => Nat.not_lt.2 h.1 ag), zL m hc (fun h => Nat.not_lt.2 h.1 ai), zL d hc (fun h => Nat.not_lt.2 h.1 ae), zL s hc (fun h => Nat.not_lt.2 h.1 ab), zL u hc (fun h => Nat.not_lt.2 h.1 a8), a.ch hc i, i, b.ch hc p, p, f, j, hc.below z z.size (fun k h => Nat.le_trans bf h.1), bt⟩
  ·intro l K al x A0 A hi bj hN dw cn a9
   obtain ⟨lg, o, t, r, n, m, d, s, u, a, i, b, p, f, j, z, af, bk⟩ := hi
   have hK : K ≤ A.heap.size := Nat.le_trans cn bj.size
   have ej : az.heap.size ≤ A0.heap.size := Nat.le_trans dw cn
   have cr := nr_since a A.heap.size
   have aj := nr_since b A.heap.size
   have d2 : ¬ Iv A0.heap.size A.heap.size an := fun h => by have := h.1; have := aq; omega
   have dx : ¬ Iv A0.heap.size A.heap.size b1 := fun h => by have := h.1; have := ah; omega
   have dv : ¬ Iv A0.heap.size A.heap.size b4 := fun h => by have := h.1; have := ag; omega
   have cl : ¬ Iv A0.heap.size A.heap.size b7 := fun h => by have := h.1; have := ai; omega
   have db : ¬ Iv A0.heap.size A.heap.size a3 := fun h => by have := h.1; have := ae; omega
   have dt : ¬ Iv A0.heap.size A.heap.size ao.heap.size := fun h => by have := h.1; have := ab; omega
   have d5 : ¬ Iv A0.heap.size A.heap.size b9 := fun h => by have := h.1; have := a8; omega
   replace z := bj.below z z.size (fun k h => Nat.le_trans bf h.1)
   have a2 := Kp.refl A0.heap.size A.heap.size A
   have ap : A.heap.size ≤ A.heap.size := Nat.le_refl _
   have hk := Kp.refl (az.heap.size) K A
   have cu : ¬ Iv (az.heap.size) K an := fun h => Nat.not_lt.2 h.1 aq
   have b8 : ¬ Iv (az.heap.size) K b1 := fun h => Nat.not_lt.2 h.1 ah
   have bx : ¬ Iv (az.heap.size) K b4 := fun h => Nat.not_lt.2 h.1 ag
   have bs : ¬ Iv (az.heap.size) K b7 := fun h => Nat.not_lt.2 h.1 ai
   have bp : ¬ Iv (az.heap.size) K a3 := fun h => Nat.not_lt.2 h.1 ae
   have cy : ¬ Iv (az.heap.size) K ao.heap.size := fun h => Nat.not_lt.2 h.1 ab
   have de : ¬ Iv (az.heap.size) K b9 := fun h => Nat.not_lt.2 h.1 a8
   have ac := ad.below z
   replace u := hN.1
   replace t := hN.2.1
   have du : lg.length = al.length := by rw [af]; exact List.length_map ..
   have dy : al.length < (gapsG xs).length := tk_lt a9
   refine zW (zN [(I3 0), (I3 0)] 29 ?_)
   intro eb eo av
   have c1 := av.ge z.size
   have bv : ¬ Iv az.heap.size K eb := fun h => by have := h.2; have := av.num; omega
   have cf : ¬ Iv A0.heap.size A.heap.size eb := fun h => by have := h.2; have := av.num; omega
   replace hk := hk.ch (Ch.of_below av.below) hK (fun _ h => h.elim)
   replace hK := Nat.le_trans hK (av.below.size)
   replace a2 := a2.ch (Ch.of_below av.below) ap (fun _ h => h.elim)
   replace ap := Nat.le_trans ap (av.below.size)
   have aa := av.here
   refine qC [(I3 x.1), (I3 x.2)] aa ?_
   intro fd a7
   replace hk := hk.ch (Ch.of_wrote a7) hK (fun k e h => bv (e ▸ h))
   replace hK := Nat.le_trans hK (Nat.le_of_eq a7.size.symm)
   replace a2 := a2.ch (Ch.of_wrote a7) ap (fun k e h => cf (e ▸ h))
   replace ap := Nat.le_trans ap (Nat.le_of_eq a7.size.symm)
   replace t := zA t av.below
   replace t := zC t a7 (zH t aa zi)
   replace r := zA (zL r bj (fun h => Nat.not_lt.2 h.1 ah)) av.below
   replace r := zC r a7 (zH r aa zi)
   replace n := zA (zL n bj (fun h => Nat.not_lt.2 h.1 ag)) av.below
   replace n := zC n a7 (zH n aa zi)
   replace m := zA (zL m bj (fun h => Nat.not_lt.2 h.1 ai)) av.below
   replace m := zC m a7 (zH m aa zi)
   replace d := zA (zL d bj (fun h => Nat.not_lt.2 h.1 ae)) av.below
   replace d := zC d a7 (zH d aa zi)
   replace s := zA (zL s bj (fun h => Nat.not_lt.2 h.1 ab)) av.below
   replace s := zC s a7 (zH s aa zi)
   replace u := zA u av.below
   replace u := zC u a7 (zH u aa zi)
   replace a := (a.ch bj i).below av.below
   replace a := a.wrote a7 (a.ne aa zi)
   replace b := (b.ch bj p).below av.below
   replace b := b.wrote a7 (b.ne aa zi)
   replace aa := a7.here
   refine zR (zB ⟨hk, a2, ?_⟩)
   intro d7 bb
   replace z := (z.tr av.below).trans (a7.below c1)
   replace z := bb.below z z.size (fun k h => Nat.le_trans bf h.1)
   replace hK := Nat.le_trans hK bb.size
   replace ap := Nat.le_trans ap bb.size
   replace hk := Kp.refl (az.heap.size) K d7
   replace a2 := Kp.refl A0.heap.size A.heap.size d7
   replace aa := zL aa bb bv
   replace m := zL m bb bs
   replace b := b.ch bb p
   refine yC (wR (zO 0 m rfl (wG aa (zr (Value.agg #[(I3 x.1), (I3 x.2), (S []), (.bool false)]) (L_app xK w.heap.size o lg (x.1, x.2, ([] : List UInt8), false) z.size b zo zk rfl rfl zk rfl zk zk ?_)))))
   intro dc et d6 bd cz
   have cw := nr_app cz p hK
   have cs := nr_app cz aj ap
   replace a := a.ch bb i
   have a1 := vA a cz f
   replace z := z.tg z.size bd b
   replace hk := hk.ch (Ch.of_grown bd) hK (fun k e => p k e)
   replace hK := Nat.le_trans hK (bd.size)
   replace a2 := a2.ch (Ch.of_grown bd) ap (fun k e => aj k e)
   replace ap := Nat.le_trans ap (bd.size)
   replace t := zL t bb cu
   replace t := yI t bd (b.ne t zi)
   replace r := zL r bb b8
   replace r := yI r bd (b.ne r zi)
   replace n := zL n bb bx
   replace n := yI n bd (b.ne n zi)
   replace m := yI m bd (b.ne m zi)
   replace d := zL d bb bp
   replace d := yI d bd (b.ne d zi)
   replace s := zL s bb cy
   replace s := yI s bd (b.ne s zi)
   replace u := zL u bb de
   replace u := yI u bd (b.ne u zi)
   replace a := a.grown bd f
   have f := a1; have j := yW a1
   replace b := d6
   have p := cw; clear cw
   have aj := cs; clear cs
   refine yQ b7 0 dc [o] [dc] 147 zk zk b.one zk m zi rfl ?_
   intro e6 aw
   replace hk := hk.ch (Ch.of_wrote aw) hK (fun k e h => bs (e ▸ h))
   replace hK := Nat.le_trans hK (Nat.le_of_eq aw.size.symm)
   replace a2 := a2.ch (Ch.of_wrote aw) ap (fun k e h => cl (e ▸ h))
   replace ap := Nat.le_trans ap (Nat.le_of_eq aw.size.symm)
   replace t := zC t aw (zH t m zi)
   replace r := zC r aw (zH r m zi)
   replace d := zC d aw (zH d m zi)
   replace s := zC s aw (zH s m zi)
   replace u := zC u aw (zH u m zi)
   replace a := a.wrote aw (a.ne m zi)
   replace b := b.wrote aw (b.ne m zi)
   replace m := aw.here
   refine nR (zO 0 r rfl (zGe .i64 few 0 ?_ ?_))
   ·intro ff
    refine zG (zw (zO 0 m rfl (zw (vI Try.underlying147 (b.rd).len (zw (zO 0 r rfl (zw (zGt .i64 ((((lg ++ [(x.1, x.2, ([] : List UInt8), false)])).length : Nat) : Int) few ?_ ?_))))))))
    ·intro fc
     refine xN (nQ (zT (yZ (zxo ?_))))
     replace z := z.trans (aw.below cj)
     replace n := zC n aw ay
     refine round2_exit hk (⟨(lg ++ [(x.1, x.2, ([] : List UInt8), false)]), dc, rfl, t, r, n, m, d, s, u, a, i, b, p, f, j, z, ?_⟩)
     rw [af]; refine Eq.trans ?_ (tkF_stop a9 zo (by (simp only [List.length_append, List.length_cons, List.length_nil] at *; omega))); rw [List.map_append]; rfl
    intro fl
    refine xN (nQ (zF (zZ (zS ?_))))
    replace z := z.trans (aw.below cj)
    replace n := zC n aw ay
    replace ac := ad.below z
    refine round2_normal hk a2 ⟨u, t, ac⟩ ⟨(lg ++ [(x.1, x.2, ([] : List UInt8), false)]), dc, t, r, n, m, d, s, u, a, i, b, p, f, j, z, ?_, ?_⟩
    ·rw [af, List.map_append]; rfl
    (simp only [List.length_append, List.length_cons, List.length_nil] at *; omega)
   intro eu
   refine zG (zs (zs (zs (zs (zpF (nQ (zF (zZ (zS ?_)))))))))
   replace z := z.trans (aw.below cj)
   replace n := zC n aw ay
   replace ac := ad.below z
   refine round2_normal hk a2 ⟨u, t, ac⟩ ⟨(lg ++ [(x.1, x.2, ([] : List UInt8), false)]), dc, t, r, n, m, d, s, u, a, i, b, p, f, j, z, ?_, zo⟩
   rw [af, List.map_append]; rfl
  ·intro K A hi dr ak
   obtain ⟨lg, o, t, r, n, m, d, s, u, a, i, b, p, f, j, z, af, bk⟩ := hi
   have ax : NE ao.heap.size (az.heap.size) := Nat.ne_of_lt ab
   refine zS (zB (yA (yV zk zk (zX b4 0 q zk zf (zK n rfl) (zX b7 0 o zk zf (zK m rfl) (xA (xA (yM ?_))))))))
   intro fa cx
   replace ak := zA ak cx
   refine zB (yB (wC (ds := [⟨.collected az.heap.size, #[]⟩, ⟨.collected ao.heap.size, #[]⟩]) zk (xC ak ?_)))
   intro fk c3
   replace a := a.below cx
   replace a := a.wrote c3 (a.ne ak zi)
   replace b := b.below cx
   replace b := b.wrote c3 (b.ne ak zi)
   replace s := zC (zA s cx) c3 ax
   refine xC s ?_
   intro fi di
   replace a := a.wrote di (a.ne s zi)
   replace b := b.wrote di (b.ne s zi)
   refine wW [.tmp 4, .tmp 5] [q, o] rfl ⟨zk, zk, trivial⟩ ?_
   replace z := ((z.tr cx).trans (c3.below bf)).trans (di.below cc)
   exact ⟨q, o, rfl, a.cast (by (rw [bl]; exact (tkF_all (by rw [List.length_map]; exact b6)).symm)), b.cast (by (rw [af]; exact (tkF_all (by rw [List.length_map]; exact bk)).symm)), z⟩
  intro K c cp x0 A a9 hx dr ak
  obtain ⟨al, bo⟩ : ∃ al, al = cp ++ [x0] := ⟨_, rfl⟩
  rw [← bo] at a9; try rw [← bo] at hx
  rcases hx with ⟨lg, o, rfl, t, r, n, m, d, s, u, a, i, b, p, f, j, z, bt⟩
  have ax : NE ao.heap.size (az.heap.size) := Nat.ne_of_lt ab
  refine yZ (yP (zB (yA (yV zk zk (zX b4 0 q zk zf (zK n rfl) (zX b7 0 o zk zf (zK m rfl) (xA (xA (yM ?_)))))))))
  intro ew cv
  replace ak := zA ak cv
  refine zB (yB (wC (ds := [⟨.collected az.heap.size, #[]⟩, ⟨.collected ao.heap.size, #[]⟩]) zk (xC ak ?_)))
  intro e7 c8
  replace a := a.below cv
  replace a := a.wrote c8 (a.ne ak zi)
  replace b := b.below cv
  replace b := b.wrote c8 (b.ne ak zi)
  replace s := zC (zA s cv) c8 ax
  refine xC s ?_
  intro fp dq
  replace a := a.wrote dq (a.ne s zi)
  replace b := b.wrote dq (b.ne s zi)
  refine wW [.tmp 4, .tmp 5] [q, o] rfl ⟨zk, zk, trivial⟩ ?_
  replace z := ((z.tr cv).trans (c8.below bf)).trans (dq.below cc)
  exact ⟨q, o, rfl, a.cast (by (rw [bl]; exact (tkF_all (by rw [List.length_map]; exact b6)).symm)), b.cast (by exact bt), z⟩
 intro K c cp x0 A a9 hx dr s
 obtain ⟨al, bo⟩ : ∃ al, al = cp ++ [x0] := ⟨_, rfl⟩
 rw [← bo] at a9; try rw [← bo] at hx
 rcases hx with ⟨la, q, rfl, t, r, n, m, d, a, i, z, cm⟩
 have ac := ad.below z
 refine yZ (yP (zB (yA (wR (zG (zc (c_gaps_S an ba xs _ t ac) ?_))))))
 rintro _ a0 ⟨cd, rfl, y, c5, b2⟩
 replace c5 := Nat.le_trans z.size c5
 refine nQ (yC ?_)
 replace t := zA t b2
 have aq : an < a0.heap.size := yD t
 replace r := zA r b2
 have ah : b1 < a0.heap.size := yD r
 replace n := zA n b2
 have ag : b4 < a0.heap.size := yD n
 replace m := zA m b2
 have ai : b7 < a0.heap.size := yD m
 replace d := zA d b2
 have ae : a3 < a0.heap.size := yD d
 replace s := zA s b2
 have ab : ao.heap.size < a0.heap.size := yD s
 have a5 : cd < a0.heap.size := yD y
 replace z := z.tr b2
 have bf := z.size
 have ef := z
 replace ac := ad.below z
 refine W_range2 141 [(pt cd 0)] (gapsG xs) zk (fun _ _ => rfl) (it_gaps_S cd an ba xs zo (by exact hr)) ⟨y, t, ac⟩ ((fun D A B h hc hd => ⟨zL h.1 hc (fun h => Nat.not_lt.2 (hd _ h) a5), zL h.2.1 hc (fun h => Nat.not_lt.2 (hd _ h) aq), Rd.ch ac (Nat.le_refl _) h.2.2 hc hd⟩)) (by intro x; rfl) (fun K al A => ∃ (lg : List StrV) (o : Value), (A.heap[an]? = some (.cells [ba, (.bool true)].toArray 136 (0, 0))) ∧ (A.heap[b1]? = some (.cells [(I6 few)].toArray 3 (0, 0))) ∧ (A.heap[b4]? = some (.cells [q].toArray 147 (0, 0))) ∧ (A.heap[b7]? = some (.cells [o].toArray 147 (0, 0))) ∧ (A.heap[a3]? = some (.cells [(pt an 0)].toArray 66 (0, 0))) ∧ (A.heap[ao.heap.size]? = some (.deferred (some []))) ∧ (A.heap[cd]? = some (.cells [(pt an 0)].toArray 66 (0, 0))) ∧ (Row A w.heap.size 183 4 encD q la) ∧ (∀ g, Value.ownBlock q = some g → ¬ Iv a0.heap.size K g) ∧ (Row A w.heap.size 183 4 encD o lg) ∧ (∀ g, Value.ownBlock o = some g → ¬ Iv a0.heap.size K g) ∧ (Value.ownBlock q = none ∨ Value.ownBlock q ≠ Value.ownBlock o) ∧ (Value.ownBlock o = none ∨ Value.ownBlock o ≠ Value.ownBlock q) ∧ (Below w.heap.size w A) ∧ (lg = al.map rgS) ∧ (few < 0 ∨ (al.length : Int) ≤ few)) (fun K c al A => (∃ (lg : List StrV) (o : Value), (c = .exit 2) ∧ (A.heap[an]? = some (.cells [ba, (.bool true)].toArray 136 (0, 0))) ∧ (A.heap[b1]? = some (.cells [(I6 few)].toArray 3 (0, 0))) ∧ (A.heap[b4]? = some (.cells [q].toArray 147 (0, 0))) ∧ (A.heap[b7]? = some (.cells [o].toArray 147 (0, 0))) ∧ (A.heap[a3]? = some (.cells [(pt an 0)].toArray 66 (0, 0))) ∧ (A.heap[ao.heap.size]? = some (.deferred (some []))) ∧ (A.heap[cd]? = some (.cells [(pt an 0)].toArray 66 (0, 0))) ∧ (Row A w.heap.size 183 4 encD q la) ∧ (∀ g, Value.ownBlock q = some g → ¬ Iv a0.heap.size K g) ∧ (Row A w.heap.size 183 4 encD o lg) ∧ (∀ g, Value.ownBlock o = some g → ¬ Iv a0.heap.size K g) ∧ (Value.ownBlock q = none ∨ Value.ownBlock q ≠ Value.ownBlock o) ∧ (Value.ownBlock o = none ∨ Value.ownBlock o ≠ Value.ownBlock q) ∧ (Below w.heap.size w A) ∧ (lg = tkF few ((gapsG xs).map rgS)))) ?_ ?_ ?_ ?_ ?_ ?_
 ·intro A hA eg
  replace a := a.below b2
  exact ⟨[], (.slice none 0 0), zA t hA, zA r hA, zA n hA, zA m hA, zA d hA, zA s hA, zA y hA, a.below hA, qE a _, Row.nil _ _ _ _ _, nr_nil _ _, qD _, (.inl rfl), z.trans (hA.mono z.size), by rfl, by simp only [List.length_nil]; omega⟩
 ·rintro K al A B ⟨lg, o, t, r, n, m, d, s, y, a, i, b, p, f, j, z, af, bk⟩ hc
  exact ⟨lg, o, zL t hc (fun h => Nat.not_lt.2 h.1 aq), zL r hc (fun h => Nat.not_lt.2 h.1 ah), zL n hc (fun h => Nat.not_lt.2 h.1 ag), zL m hc (fun h => Nat.not_lt.2 h.1 ai), zL d hc (fun h => Nat.not_lt.2 h.1 ae), zL s hc (fun h => Nat.not_lt.2 h.1 ab), zL y hc (fun h => Nat.not_lt.2 h.1 a5), a.ch hc i, i, b.ch hc p, p, f, j, hc.below z z.size (fun k h => Nat.le_trans bf h.1), af, bk⟩
 ·rintro K c al A B (⟨lg, o, dk, t, r, n, m, d, s, y, a, i, b, p, f, j, z, bt⟩) hc
  exact ⟨lg, o, dk, zL t hc (fun h => Nat.not_lt.2 h.1 aq), zL r hc (fun h => Nat.not_lt.2 h.1 ah), zL n hc (fun h => Nat.not_lt.2 h.1 ag), zL m hc (fun h => Nat.not_lt.2 h.1 ai), zL d hc (fun h => Nat.not_lt.2 h.1 ae), zL s hc (fun h => Nat.not_lt.2 h.1 ab), zL y hc (fun h => Nat.not_lt.2 h.1 a5), a.ch hc i, i, b.ch hc p, p, f, j, hc.below z z.size (fun k h => Nat.le_trans bf h.1), bt⟩
 ·intro l K al x A0 A hi bj hN dw cn a9
  obtain ⟨lg, o, t, r, n, m, d, s, y, a, i, b, p, f, j, z, af, bk⟩ := hi
  have hK : K ≤ A.heap.size := Nat.le_trans cn bj.size
  have ej : a0.heap.size ≤ A0.heap.size := Nat.le_trans dw cn
  have cr := nr_since a A.heap.size
  have aj := nr_since b A.heap.size
  have d2 : ¬ Iv A0.heap.size A.heap.size an := fun h => by have := h.1; have := aq; omega
  have dx : ¬ Iv A0.heap.size A.heap.size b1 := fun h => by have := h.1; have := ah; omega
  have dv : ¬ Iv A0.heap.size A.heap.size b4 := fun h => by have := h.1; have := ag; omega
  have cl : ¬ Iv A0.heap.size A.heap.size b7 := fun h => by have := h.1; have := ai; omega
  have db : ¬ Iv A0.heap.size A.heap.size a3 := fun h => by have := h.1; have := ae; omega
  have dt : ¬ Iv A0.heap.size A.heap.size ao.heap.size := fun h => by have := h.1; have := ab; omega
  have d4 : ¬ Iv A0.heap.size A.heap.size cd := fun h => by have := h.1; have := a5; omega
  replace z := bj.below z z.size (fun k h => Nat.le_trans bf h.1)
  have a2 := Kp.refl A0.heap.size A.heap.size A
  have ap : A.heap.size ≤ A.heap.size := Nat.le_refl _
  have hk := Kp.refl (a0.heap.size) K A
  have cu : ¬ Iv (a0.heap.size) K an := fun h => Nat.not_lt.2 h.1 aq
  have b8 : ¬ Iv (a0.heap.size) K b1 := fun h => Nat.not_lt.2 h.1 ah
  have bx : ¬ Iv (a0.heap.size) K b4 := fun h => Nat.not_lt.2 h.1 ag
  have bs : ¬ Iv (a0.heap.size) K b7 := fun h => Nat.not_lt.2 h.1 ai
  have bp : ¬ Iv (a0.heap.size) K a3 := fun h => Nat.not_lt.2 h.1 ae
  have cy : ¬ Iv (a0.heap.size) K ao.heap.size := fun h => Nat.not_lt.2 h.1 ab
  have dj : ¬ Iv (a0.heap.size) K cd := fun h => Nat.not_lt.2 h.1 a5
  have ac := ad.below z
  replace y := hN.1
  replace t := hN.2.1
  have du : lg.length = al.length := by rw [af]; exact List.length_map ..
  have dy : al.length < (gapsG xs).length := tk_lt a9
  refine zW (zN [(I3 0), (I3 0)] 29 ?_)
  intro ea fe au
  have c1 := au.ge z.size
  have bv : ¬ Iv a0.heap.size K ea := fun h => by have := h.2; have := au.num; omega
  have cf : ¬ Iv A0.heap.size A.heap.size ea := fun h => by have := h.2; have := au.num; omega
  replace hk := hk.ch (Ch.of_below au.below) hK (fun _ h => h.elim)
  replace hK := Nat.le_trans hK (au.below.size)
  replace a2 := a2.ch (Ch.of_below au.below) ap (fun _ h => h.elim)
  replace ap := Nat.le_trans ap (au.below.size)
  have aa := au.here
  refine qC [(I3 x.1), (I3 x.2)] aa ?_
  intro e0 a4
  replace hk := hk.ch (Ch.of_wrote a4) hK (fun k e h => bv (e ▸ h))
  replace hK := Nat.le_trans hK (Nat.le_of_eq a4.size.symm)
  replace a2 := a2.ch (Ch.of_wrote a4) ap (fun k e h => cf (e ▸ h))
  replace ap := Nat.le_trans ap (Nat.le_of_eq a4.size.symm)
  replace t := zA t au.below
  replace t := zC t a4 (zH t aa zi)
  replace r := zA (zL r bj (fun h => Nat.not_lt.2 h.1 ah)) au.below
  replace r := zC r a4 (zH r aa zi)
  replace n := zA (zL n bj (fun h => Nat.not_lt.2 h.1 ag)) au.below
  replace n := zC n a4 (zH n aa zi)
  replace m := zA (zL m bj (fun h => Nat.not_lt.2 h.1 ai)) au.below
  replace m := zC m a4 (zH m aa zi)
  replace d := zA (zL d bj (fun h => Nat.not_lt.2 h.1 ae)) au.below
  replace d := zC d a4 (zH d aa zi)
  replace s := zA (zL s bj (fun h => Nat.not_lt.2 h.1 ab)) au.below
  replace s := zC s a4 (zH s aa zi)
  replace y := zA y au.below
  replace y := zC y a4 (zH y aa zi)
  replace a := (a.ch bj i).below au.below
  replace a := a.wrote a4 (a.ne aa zi)
  replace b := (b.ch bj p).below au.below
  replace b := b.wrote a4 (b.ne aa zi)
  replace aa := a4.here
  refine zR (zB ⟨hk, a2, ?_⟩)
  intro ee be
  replace z := (z.tr au.below).trans (a4.below c1)
  replace z := be.below z z.size (fun k h => Nat.le_trans bf h.1)
  replace hK := Nat.le_trans hK be.size
  replace ap := Nat.le_trans ap be.size
  replace hk := Kp.refl (a0.heap.size) K ee
  replace a2 := Kp.refl A0.heap.size A.heap.size ee
  replace aa := zL aa be bv
  replace m := zL m be bs
  replace b := b.ch be p
  refine yC (wR (zO 0 m rfl (wG aa (zr (Value.agg #[(I3 x.1), (I3 x.2), (S []), (.bool false)]) (L_app xK w.heap.size o lg (x.1, x.2, ([] : List UInt8), false) z.size b zo zk rfl rfl zk rfl zk zk ?_)))))
  intro dd fn d8 bc c2
  have cw := nr_app c2 p hK
  have cs := nr_app c2 aj ap
  replace a := a.ch be i
  have a1 := vA a c2 f
  replace z := z.tg z.size bc b
  replace hk := hk.ch (Ch.of_grown bc) hK (fun k e => p k e)
  replace hK := Nat.le_trans hK (bc.size)
  replace a2 := a2.ch (Ch.of_grown bc) ap (fun k e => aj k e)
  replace ap := Nat.le_trans ap (bc.size)
  replace t := zL t be cu
  replace t := yI t bc (b.ne t zi)
  replace r := zL r be b8
  replace r := yI r bc (b.ne r zi)
  replace n := zL n be bx
  replace n := yI n bc (b.ne n zi)
  replace m := yI m bc (b.ne m zi)
  replace d := zL d be bp
  replace d := yI d bc (b.ne d zi)
  replace s := zL s be cy
  replace s := yI s bc (b.ne s zi)
  replace y := zL y be dj
  replace y := yI y bc (b.ne y zi)
  replace a := a.grown bc f
  have f := a1; have j := yW a1
  replace b := d8
  have p := cw; clear cw
  have aj := cs; clear cs
  refine yQ b7 0 dd [o] [dd] 147 zk zk b.one zk m zi rfl ?_
  intro e3 ar
  replace hk := hk.ch (Ch.of_wrote ar) hK (fun k e h => bs (e ▸ h))
  replace hK := Nat.le_trans hK (Nat.le_of_eq ar.size.symm)
  replace a2 := a2.ch (Ch.of_wrote ar) ap (fun k e h => cl (e ▸ h))
  replace ap := Nat.le_trans ap (Nat.le_of_eq ar.size.symm)
  replace t := zC t ar (zH t m zi)
  replace r := zC r ar (zH r m zi)
  replace d := zC d ar (zH d m zi)
  replace s := zC s ar (zH s m zi)
  replace y := zC y ar (zH y m zi)
  replace a := a.wrote ar (a.ne m zi)
  replace b := b.wrote ar (b.ne m zi)
  replace m := ar.here
  refine nR (zO 0 r rfl (zGe .i64 few 0 ?_ ?_))
  ·intro e8
   refine zG (zw (zO 0 m rfl (zw (vI Try.underlying147 (b.rd).len (zw (zO 0 r rfl (zw (zGt .i64 ((((lg ++ [(x.1, x.2, ([] : List UInt8), false)])).length : Nat) : Int) few ?_ ?_))))))))
   ·intro e4
    refine xN (nQ (zT (yZ (zxo ?_))))
    replace z := z.trans (ar.below cj)
    replace n := zC n ar ay
    refine round2_exit hk (⟨(lg ++ [(x.1, x.2, ([] : List UInt8), false)]), dd, rfl, t, r, n, m, d, s, y, a, i, b, p, f, j, z, ?_⟩)
    rw [af]; refine Eq.trans ?_ (tkF_stop a9 zo (by (simp only [List.length_append, List.length_cons, List.length_nil] at *; omega))); rw [List.map_append]; rfl
   intro fj
   refine xN (nQ (zF (zZ (zS ?_))))
   replace z := z.trans (ar.below cj)
   replace n := zC n ar ay
   replace ac := ad.below z
   refine round2_normal hk a2 ⟨y, t, ac⟩ ⟨(lg ++ [(x.1, x.2, ([] : List UInt8), false)]), dd, t, r, n, m, d, s, y, a, i, b, p, f, j, z, ?_, ?_⟩
   ·rw [af, List.map_append]; rfl
   (simp only [List.length_append, List.length_cons, List.length_nil] at *; omega)
  intro fb
  refine zG (zs (zs (zs (zs (zpF (nQ (zF (zZ (zS ?_)))))))))
  replace z := z.trans (ar.below cj)
  replace n := zC n ar ay
  replace ac := ad.below z
  refine round2_normal hk a2 ⟨y, t, ac⟩ ⟨(lg ++ [(x.1, x.2, ([] : List UInt8), false)]), dd, t, r, n, m, d, s, y, a, i, b, p, f, j, z, ?_, zo⟩
  rw [af, List.map_append]; rfl
 ·intro K A hi dr ak
  obtain ⟨lg, o, t, r, n, m, d, s, y, a, i, b, p, f, j, z, af, bk⟩ := hi
  have ax : NE ao.heap.size (a0.heap.size) := Nat.ne_of_lt ab
  refine zS (zB (yA (yV zk zk (zX b4 0 q zk zf (zK n rfl) (zX b7 0 o zk zf (zK m rfl) (xA (xA (yM ?_))))))))
  intro e5 ct
  replace ak := zA ak ct
  refine zB (yB (wC (ds := [⟨.collected a0.heap.size, #[]⟩, ⟨.collected ao.heap.size, #[]⟩]) zk (xC ak ?_)))
  intro fq da
  replace a := a.below ct
  replace a := a.wrote da (a.ne ak zi)
  replace b := b.below ct
  replace b := b.wrote da (b.ne ak zi)
  replace s := zC (zA s ct) da ax
  refine xC s ?_
  intro ep dn
  replace a := a.wrote dn (a.ne s zi)
  replace b := b.wrote dn (b.ne s zi)
  refine wW [.tmp 4, .tmp 5] [q, o] rfl ⟨zk, zk, trivial⟩ ?_
  replace z := ((z.tr ct).trans (da.below bf)).trans (dn.below cc)
  exact ⟨q, o, rfl, a.cast (by exact cm), b.cast (by (rw [af]; exact (tkF_all (by rw [List.length_map]; exact bk)).symm)), z⟩
 intro K c cp x0 A a9 hx dr ak
 obtain ⟨al, bo⟩ : ∃ al, al = cp ++ [x0] := ⟨_, rfl⟩
 rw [← bo] at a9; try rw [← bo] at hx
 rcases hx with ⟨lg, o, rfl, t, r, n, m, d, s, y, a, i, b, p, f, j, z, bt⟩
 have ax : NE ao.heap.size (a0.heap.size) := Nat.ne_of_lt ab
 refine yZ (yP (zB (yA (yV zk zk (zX b4 0 q zk zf (zK n rfl) (zX b7 0 o zk zf (zK m rfl) (xA (xA (yM ?_)))))))))
 intro ey co
 replace ak := zA ak co
 refine zB (yB (wC (ds := [⟨.collected a0.heap.size, #[]⟩, ⟨.collected ao.heap.size, #[]⟩]) zk (xC ak ?_)))
 intro e9 c9
 replace a := a.below co
 replace a := a.wrote c9 (a.ne ak zi)
 replace b := b.below co
 replace b := b.wrote c9 (b.ne ak zi)
 replace s := zC (zA s co) c9 ax
 refine xC s ?_
 intro e1 dp
 replace a := a.wrote dp (a.ne s zi)
 replace b := b.wrote dp (b.ne s zi)
 refine wW [.tmp 4, .tmp 5] [q, o] rfl ⟨zk, zk, trivial⟩ ?_
 replace z := ((z.tr co).trans (c9.below bf)).trans (dp.below cc)
 exact ⟨q, o, rfl, a.cast (by exact cm), b.cast (by exact bt), z⟩
theorem c_told_nil (few : Int) (w : World) :
  Calls Try.prog 82 #[(.pointer none), (I6 few)] w (Ret fun v w' => ∃ (q0 : Value) (q1 : Value), v = (.tuple #[q0, q1]) ∧ Row w' w.heap.size 183 4 encD q0 (tkF few (([] : List SpT).map spS)) ∧ Row w' w.heap.size 183 4 encD q1 (tkF few (([] : List (Int × Int)).map rgS)) ∧ Below w.heap.size w w') := by
 refine enterM (args := [(.pointer none), (I6 few)]) Try.func82 rfl (zk : _ = 47) zk ?_
 have y := Below.refl w.heap.size w
 refine wR (zN [(I6 few)] 3 ?_)
 intro b1 w2 dd
 have dw := dd.ge y.size
 have q := dd.here
 refine zI (zI (nR (zN [(.slice none 0 0)] 147 ?_)))
 intro b4 w5 c9
 have y := y.tr dd.below
 have cx := c9.ge y.size
 have n := c9.here
 refine zN [(.slice none 0 0)] 147 ?_
 intro b7 w8 cq
 have ai := qB (yD n) cq
 have bl := NE.symm ai
 have y := y.tr c9.below
 have b3 := cq.ge y.size
 have m := cq.here
 refine nW (wR (zG (zc (vD  _ ) ?_)))
 rintro _ af ⟨ax, rfl, d, cj, cl⟩
 have y := y.tr cq.below
 replace cj := Nat.le_trans y.size cj
 refine nQ (yC ?_)
 have q := zA (zA (zA q c9.below) cq.below) cl
 have bs : b1 < af.heap.size := yD q
 have n := zA (zA n cq.below) cl
 have br : b4 < af.heap.size := yD n
 have m := zA m cl
 have bu : b7 < af.heap.size := yD m
 have a0 : ax < af.heap.size := yD d
 have y := y.tr cl
 have bt := y.size
 have dx := y
 refine wQ 72 [(pt ax 0)] ([] : List SpS) zk (fun _ _ => rfl) (qQ ax ) d ((fun D A B h hc hd => zL h hc (fun h => Nat.not_lt.2 (hd _ h) a0))) (by intro x; rfl) (fun K ad A => ∃ (la : List StrV) (p : Value), (A.heap[b1]? = some (.cells [(I6 few)].toArray 3 (0, 0))) ∧ (A.heap[b4]? = some (.cells [p].toArray 147 (0, 0))) ∧ (A.heap[b7]? = some (.cells [(.slice none 0 0)].toArray 147 (0, 0))) ∧ (A.heap[ax]? = some (.cells [(.pointer none)].toArray 66 (0, 0))) ∧ (Row A w.heap.size 183 4 encD p la) ∧ (∀ g, Value.ownBlock p = some g → ¬ Iv af.heap.size K g) ∧ (Below w.heap.size w A) ∧ (la = ad.map spS) ∧ (few < 0 ∨ (ad.length : Int) ≤ few)) (fun K c ad A => (∃ (la : List StrV) (p : Value), (c = .exit 0) ∧ (A.heap[b1]? = some (.cells [(I6 few)].toArray 3 (0, 0))) ∧ (A.heap[b4]? = some (.cells [p].toArray 147 (0, 0))) ∧ (A.heap[b7]? = some (.cells [(.slice none 0 0)].toArray 147 (0, 0))) ∧ (A.heap[ax]? = some (.cells [(.pointer none)].toArray 66 (0, 0))) ∧ (Row A w.heap.size 183 4 encD p la) ∧ (∀ g, Value.ownBlock p = some g → ¬ Iv af.heap.size K g) ∧ (Below w.heap.size w A) ∧ (la = tkF few (([] : List SpT).map spS)))) ?_ ?_ ?_ ?_ ?_ ?_
 ·intro A hA
  exact ⟨[], (.slice none 0 0), zA q hA, zA n hA, zA m hA, zA d hA, Row.nil _ _ _ _ _, nr_nil _ _, y.trans (hA.mono y.size), by rfl, by simp only [List.length_nil]; omega⟩
 ·rintro K ad A B ⟨la, p, q, n, m, d, a, i, y, a2, bo⟩ hc
  exact ⟨la, p, zL q hc (fun h => Nat.not_lt.2 h.1 bs), zL n hc (fun h => Nat.not_lt.2 h.1 br), zL m hc (fun h => Nat.not_lt.2 h.1 bu), zL d hc (fun h => Nat.not_lt.2 h.1 a0), a.ch hc i, i, hc.below y y.size (fun k h => Nat.le_trans bt h.1), a2, bo⟩
 ·rintro K c ad A B (⟨la, p, c0, q, n, m, d, a, i, y, b5⟩) hc
  exact ⟨la, p, c0, zL q hc (fun h => Nat.not_lt.2 h.1 bs), zL n hc (fun h => Nat.not_lt.2 h.1 br), zL m hc (fun h => Nat.not_lt.2 h.1 bu), zL d hc (fun h => Nat.not_lt.2 h.1 a0), a.ch hc i, i, hc.below y y.size (fun k h => Nat.le_trans bt h.1), b5⟩
 ·intro l K ad x A hi hN dk hK au
  obtain ⟨la, p, q, n, m, d, a, i, y, a2, bo⟩ := hi
  have hk := Kp.refl (af.heap.size) K A
  have bq : ¬ Iv (af.heap.size) K b1 := fun h => Nat.not_lt.2 h.1 bs
  have bm : ¬ Iv (af.heap.size) K b4 := fun h => Nat.not_lt.2 h.1 br
  have bh : ¬ Iv (af.heap.size) K b7 := fun h => Nat.not_lt.2 h.1 bu
  have bd : ¬ Iv (af.heap.size) K ax := fun h => Nat.not_lt.2 h.1 a0
  have d := hN
  have dm : la.length = ad.length := by rw [a2]; exact List.length_map ..
  have dn : ad.length < 0 := tk_lt au
  refine wR (zN [(I3 0), (I3 0)] 29 ?_)
  intro du d1 bc
  have dh := bc.ge y.size
  have c3 : ¬ Iv af.heap.size K du := fun h => by have := h.2; have := bc.num; omega
  replace hk := hk.ch (Ch.of_below bc.below) hK (fun _ h => h.elim)
  replace hK := Nat.le_trans hK (bc.below.size)
  have bg := bc.here
  refine qC [(I3 x.1), (I3 x.2.1)] bg ?_
  intro d6 bk
  replace hk := hk.ch (Ch.of_wrote bk) hK (fun k e h => c3 (e ▸ h))
  replace hK := Nat.le_trans hK (Nat.le_of_eq bk.size.symm)
  have q := zA q bc.below
  have q := zC q bk (zH q bg zi)
  have n := zA n bc.below
  have n := zC n bk (zH n bg zi)
  have m := zA m bc.below
  have m := zC m bk (zH m bg zi)
  have d := zA d bc.below
  have d := zC d bk (zH d bg zi)
  have a := a.below bc.below
  have a := a.wrote bk (a.ne bg zi)
  have bg := bk.here
  refine nQ (zW (zI (zR (zB ⟨hk, ?_⟩))))
  intro dp bn
  have y := (y.tr bc.below).trans (bk.below dh)
  have y := bn.below y y.size (fun k h => Nat.le_trans bt h.1)
  replace hK := Nat.le_trans hK bn.size
  replace hk := Kp.refl (af.heap.size) K dp
  have n := zL n bn bm
  have bg := zL bg bn c3
  have a := a.ch bn i
  refine yC (wR (zO 0 n rfl (wG bg (zG (zr (Value.agg #[(I3 x.1), (I3 x.2.1), (S x.2.2), (.bool true)]) (L_app xK w.heap.size p la (x.1, x.2.1, x.2.2, true) y.size a zo zk rfl rfl zk rfl zk zk ?_))))))
  intro cv d8 di bp dc
  have cd := nr_app dc i hK
  have y := y.tg y.size bp a
  replace hk := hk.ch (Ch.of_grown bp) hK (fun k e => i k e)
  replace hK := Nat.le_trans hK (bp.size)
  have q := zL q bn bq
  have q := yI q bp (a.ne q zi)
  have n := yI n bp (a.ne n zi)
  have m := zL m bn bh
  have m := yI m bp (a.ne m zi)
  have d := zL d bn bd
  have d := yI d bp (a.ne d zi)
  have a := di
  have i := cd; clear cd
  refine yQ b4 0 cv [p] [cv] 147 zk zk a.one zk n zi rfl ?_
  intro eb a5
  replace hk := hk.ch (Ch.of_wrote a5) hK (fun k e h => bm (e ▸ h))
  replace hK := Nat.le_trans hK (Nat.le_of_eq a5.size.symm)
  have q := zC q a5 (zH q n zi)
  have d := zC d a5 (zH d n zi)
  have a := a.wrote a5 (a.ne n zi)
  have n := a5.here
  refine nR (zO 0 q rfl (zGe .i64 few 0 ?_ ?_))
  ·intro d0
   refine zG (zw (zO 0 n rfl (zw (vI Try.underlying147 (a.rd).len (zw (zO 0 q rfl (zw (zGt .i64 ((((la ++ [(x.1, x.2.1, x.2.2, true)])).length : Nat) : Int) few ?_ ?_))))))))
   ·intro ep
    refine xN (nQ (zT (yZ (zxo ?_))))
    have y := y.trans (a5.below cx)
    have m := zC m a5 bl
    refine round_exit hk (⟨(la ++ [(x.1, x.2.1, x.2.2, true)]), cv, rfl, q, n, m, d, a, i, y, ?_⟩)
    rw [a2]; refine Eq.trans ?_ (tkF_stop au zo zo); rw [List.map_append]; rfl
   intro d4
   refine xN (nQ (zF (zZ (zS ?_))))
   have y := y.trans (a5.below cx)
   have m := zC m a5 bl
   refine yU hk d ⟨(la ++ [(x.1, x.2.1, x.2.2, true)]), cv, q, n, m, d, a, i, y, ?_, zo⟩
   rw [a2, List.map_append]; rfl
  intro ew
  refine zG (zs (zs (zs (zs (zpF (nQ (zF (zZ (zS ?_)))))))))
  have y := y.trans (a5.below cx)
  have m := zC m a5 bl
  refine yU hk d ⟨(la ++ [(x.1, x.2.1, x.2.2, true)]), cv, q, n, m, d, a, i, y, ?_, zo⟩
  rw [a2, List.map_append]; rfl
 ·intro K A hi c7 s
  obtain ⟨la, p, q, n, m, d, a, i, y, a2, bo⟩ := hi
  refine zS (zB (yA (wR (zG (zc (c_gaps_nil  _ ) ?_)))))
  rintro _ am ⟨b0, rfl, t, cm, bx⟩
  replace cm := Nat.le_trans y.size cm
  refine nQ (yC ?_)
  have q := zA q bx
  have aq : b1 < am.heap.size := yD q
  have n := zA n bx
  have ak : b4 < am.heap.size := yD n
  have m := zA m bx
  have ar : b7 < am.heap.size := yD m
  have d := zA d bx
  have ae : ax < am.heap.size := yD d
  have s := zA s bx
  have aa : af.heap.size < am.heap.size := yD s
  have a3 : b0 < am.heap.size := yD t
  have y := y.tr bx
  have ba := y.size
  have dl := y
  refine wQ 141 [(pt b0 0)] ([] : List Rg) zk (fun _ _ => rfl) (it_gaps_nil b0 ) t ((fun D A B h hc hd => zL h hc (fun h => Nat.not_lt.2 (hd _ h) a3))) (by intro x; rfl) (fun K ad A => ∃ (lg : List StrV) (o : Value), (A.heap[b1]? = some (.cells [(I6 few)].toArray 3 (0, 0))) ∧ (A.heap[b4]? = some (.cells [p].toArray 147 (0, 0))) ∧ (A.heap[b7]? = some (.cells [o].toArray 147 (0, 0))) ∧ (A.heap[ax]? = some (.cells [(.pointer none)].toArray 66 (0, 0))) ∧ (A.heap[af.heap.size]? = some (.deferred (some []))) ∧ (A.heap[b0]? = some (.cells [(.pointer none)].toArray 66 (0, 0))) ∧ (Row A w.heap.size 183 4 encD p la) ∧ (∀ g, Value.ownBlock p = some g → ¬ Iv am.heap.size K g) ∧ (Row A w.heap.size 183 4 encD o lg) ∧ (∀ g, Value.ownBlock o = some g → ¬ Iv am.heap.size K g) ∧ (Value.ownBlock p = none ∨ Value.ownBlock p ≠ Value.ownBlock o) ∧ (Value.ownBlock o = none ∨ Value.ownBlock o ≠ Value.ownBlock p) ∧ (Below w.heap.size w A) ∧ (lg = ad.map rgS) ∧ (few < 0 ∨ (ad.length : Int) ≤ few)) (fun K c ad A => (∃ (lg : List StrV) (o : Value), (c = .exit 2) ∧ (A.heap[b1]? = some (.cells [(I6 few)].toArray 3 (0, 0))) ∧ (A.heap[b4]? = some (.cells [p].toArray 147 (0, 0))) ∧ (A.heap[b7]? = some (.cells [o].toArray 147 (0, 0))) ∧ (A.heap[ax]? = some (.cells [(.pointer none)].toArray 66 (0, 0))) ∧ (A.heap[af.heap.size]? = some (.deferred (some []))) ∧ (A.heap[b0]? = some (.cells [(.pointer none)].toArray 66 (0, 0))) ∧ (Row A w.heap.size 183 4 encD p la) ∧ (∀ g, Value.ownBlock p = some g → ¬ Iv am.heap.size K g) ∧ (Row A w.heap.size 183 4 encD o lg) ∧ (∀ g, Value.ownBlock o = some g → ¬ Iv am.heap.size K g) ∧ (Value.ownBlock p = none ∨ Value.ownBlock p ≠ Value.ownBlock o) ∧ (Value.ownBlock o = none ∨ Value.ownBlock o ≠ Value.ownBlock p) ∧ (Below w.heap.size w A) ∧ (lg = tkF few (([] : List (Int × Int)).map rgS)))) ?_ ?_ ?_ ?_ ?_ ?_
  ·intro A hA
   have a := a.below bx
   exact ⟨[], (.slice none 0 0), zA q hA, zA n hA, zA m hA, zA d hA, zA s hA, zA t hA, a.below hA, qE a _, Row.nil _ _ _ _ _, nr_nil _ _, qD _, (.inl rfl), y.trans (hA.mono y.size), by rfl, by simp only [List.length_nil]; omega⟩
  ·rintro K ad A B ⟨lg, o, q, n, m, d, s, t, a, i, b, r, f, j, y, ab, a1⟩ hc
   exact ⟨lg, o, zL q hc (fun h => Nat.not_lt.2 h.1 aq), zL n hc (fun h => Nat.not_lt.2 h.1 ak), zL m hc (fun h => Nat.not_lt.2 h.1 ar), zL d hc (fun h => Nat.not_lt.2 h.1 ae), zL s hc (fun h => Nat.not_lt.2 h.1 aa), zL t hc (fun h => Nat.not_lt.2 h.1 a3), a.ch hc i, i, b.ch hc r, r, f, j, hc.below y y.size (fun k h => Nat.le_trans ba h.1), ab, a1⟩
  ·rintro K c ad A B (⟨lg, o, c0, q, n, m, d, s, t, a, i, b, r, f, j, y, bi⟩) hc
   exact ⟨lg, o, c0, zL q hc (fun h => Nat.not_lt.2 h.1 aq), zL n hc (fun h => Nat.not_lt.2 h.1 ak), zL m hc (fun h => Nat.not_lt.2 h.1 ar), zL d hc (fun h => Nat.not_lt.2 h.1 ae), zL s hc (fun h => Nat.not_lt.2 h.1 aa), zL t hc (fun h => Nat.not_lt.2 h.1 a3), a.ch hc i, i, b.ch hc r, r, f, j, hc.below y y.size (fun k h => Nat.le_trans ba h.1), bi⟩
  ·intro l K ad x A hi hN dk hK au
   obtain ⟨lg, o, q, n, m, d, s, t, a, i, b, r, f, j, y, ab, a1⟩ := hi
   have hk := Kp.refl (am.heap.size) K A
   have bq : ¬ Iv (am.heap.size) K b1 := fun h => Nat.not_lt.2 h.1 aq
   have bm : ¬ Iv (am.heap.size) K b4 := fun h => Nat.not_lt.2 h.1 ak
   have bh : ¬ Iv (am.heap.size) K b7 := fun h => Nat.not_lt.2 h.1 ar
   have bd : ¬ Iv (am.heap.size) K ax := fun h => Nat.not_lt.2 h.1 ae
   have cf : ¬ Iv (am.heap.size) K af.heap.size := fun h => Nat.not_lt.2 h.1 aa
   have cu : ¬ Iv (am.heap.size) K b0 := fun h => Nat.not_lt.2 h.1 a3
   have t := hN
   have c8 : lg.length = ad.length := by rw [ab]; exact List.length_map ..
   have da : ad.length < 0 := tk_lt au
   refine zW (zN [(I3 0), (I3 0)] 29 ?_)
   intro dt dy aw
   have cg := aw.ge y.size
   have bj : ¬ Iv am.heap.size K dt := fun h => by have := h.2; have := aw.num; omega
   replace hk := hk.ch (Ch.of_below aw.below) hK (fun _ h => h.elim)
   replace hK := Nat.le_trans hK (aw.below.size)
   have z := aw.here
   refine qC [(I3 x.1), (I3 x.2)] z ?_
   intro em a6
   replace hk := hk.ch (Ch.of_wrote a6) hK (fun k e h => bj (e ▸ h))
   replace hK := Nat.le_trans hK (Nat.le_of_eq a6.size.symm)
   have q := zA q aw.below
   have q := zC q a6 (zH q z zi)
   have n := zA n aw.below
   have n := zC n a6 (zH n z zi)
   have m := zA m aw.below
   have m := zC m a6 (zH m z zi)
   have d := zA d aw.below
   have d := zC d a6 (zH d z zi)
   have s := zA s aw.below
   have s := zC s a6 (zH s z zi)
   have t := zA t aw.below
   have t := zC t a6 (zH t z zi)
   have a := a.below aw.below
   have a := a.wrote a6 (a.ne z zi)
   have b := b.below aw.below
   have b := b.wrote a6 (b.ne z zi)
   have z := a6.here
   refine zR (zB ⟨hk, ?_⟩)
   intro dq a8
   have y := (y.tr aw.below).trans (a6.below cg)
   have y := a8.below y y.size (fun k h => Nat.le_trans ba h.1)
   replace hK := Nat.le_trans hK a8.size
   replace hk := Kp.refl (am.heap.size) K dq
   have z := zL z a8 bj
   have m := zL m a8 bh
   have b := b.ch a8 r
   refine yC (wR (zO 0 m rfl (wG z (zr (Value.agg #[(I3 x.1), (I3 x.2), (S []), (.bool false)]) (L_app xK w.heap.size o lg (x.1, x.2, ([] : List UInt8), false) y.size b zo zk rfl rfl zk rfl zk zk ?_)))))
   intro cs d2 de bf cw
   have cd := nr_app cw r hK
   have a := a.ch a8 i
   have aj := vA a cw f
   have y := y.tg y.size bf b
   replace hk := hk.ch (Ch.of_grown bf) hK (fun k e => r k e)
   replace hK := Nat.le_trans hK (bf.size)
   have q := zL q a8 bq
   have q := yI q bf (b.ne q zi)
   have n := zL n a8 bm
   have n := yI n bf (b.ne n zi)
   have m := yI m bf (b.ne m zi)
   have d := zL d a8 bd
   have d := yI d bf (b.ne d zi)
   have s := zL s a8 cf
   have s := yI s bf (b.ne s zi)
   have t := zL t a8 cu
   have t := yI t bf (b.ne t zi)
   have a := a.grown bf f
   have f := aj; have j := yW aj
   have b := de
   have r := cd; clear cd
   refine yQ b7 0 cs [o] [cs] 147 zk zk b.one zk m zi rfl ?_
   intro ef ap
   replace hk := hk.ch (Ch.of_wrote ap) hK (fun k e h => bh (e ▸ h))
   replace hK := Nat.le_trans hK (Nat.le_of_eq ap.size.symm)
   have q := zC q ap (zH q m zi)
   have d := zC d ap (zH d m zi)
   have s := zC s ap (zH s m zi)
   have t := zC t ap (zH t m zi)
   have a := a.wrote ap (a.ne m zi)
   have b := b.wrote ap (b.ne m zi)
   have m := ap.here
   refine nR (zO 0 q rfl (zGe .i64 few 0 ?_ ?_))
   ·intro eo
    refine zG (zw (zO 0 m rfl (zw (vI Try.underlying147 (b.rd).len (zw (zO 0 q rfl (zw (zGt .i64 ((((lg ++ [(x.1, x.2, ([] : List UInt8), false)])).length : Nat) : Int) few ?_ ?_))))))))
    ·intro el
     refine xN (nQ (zT (yZ (zxo ?_))))
     have y := y.trans (ap.below b3)
     have n := zC n ap ai
     refine round_exit hk (⟨(lg ++ [(x.1, x.2, ([] : List UInt8), false)]), cs, rfl, q, n, m, d, s, t, a, i, b, r, f, j, y, ?_⟩)
     rw [ab]; refine Eq.trans ?_ (tkF_stop au zo zo); rw [List.map_append]; rfl
    intro eu
    refine xN (nQ (zF (zZ (zS ?_))))
    have y := y.trans (ap.below b3)
    have n := zC n ap ai
    refine yU hk t ⟨(lg ++ [(x.1, x.2, ([] : List UInt8), false)]), cs, q, n, m, d, s, t, a, i, b, r, f, j, y, ?_, zo⟩
    rw [ab, List.map_append]; rfl
   intro d3
   refine zG (zs (zs (zs (zs (zpF (nQ (zF (zZ (zS ?_)))))))))
   have y := y.trans (ap.below b3)
   have n := zC n ap ai
   refine yU hk t ⟨(lg ++ [(x.1, x.2, ([] : List UInt8), false)]), cs, q, n, m, d, s, t, a, i, b, r, f, j, y, ?_, zo⟩
   rw [ab, List.map_append]; rfl
  ·intro K A hi c7 ac
   obtain ⟨lg, o, q, n, m, d, s, t, a, i, b, r, f, j, y, ab, a1⟩ := hi
   have ah : NE af.heap.size (am.heap.size) := Nat.ne_of_lt aa
   refine zS (zB (yA (yV zk zk (zX b4 0 p zk zf (zK n rfl) (zX b7 0 o zk zf (zK m rfl) (xA (xA (yM ?_))))))))
   intro ej ce
   have ac := zA ac ce
   refine zB (yB (wC (ds := [⟨.collected am.heap.size, #[]⟩, ⟨.collected af.heap.size, #[]⟩]) zk (xC ac ?_)))
   intro et ci
   have a := a.below ce
   have a := a.wrote ci (a.ne ac zi)
   have b := b.below ce
   have b := b.wrote ci (b.ne ac zi)
   have s := zC (zA s ce) ci ah
   refine xC s ?_
   intro er cy
   have a := a.wrote cy (a.ne s zi)
   have b := b.wrote cy (b.ne s zi)
   refine wW [.tmp 4, .tmp 5] [p, o] rfl ⟨zk, zk, trivial⟩ ?_
   have y := ((y.tr ce).trans (ci.below ba)).trans (cy.below bt)
   exact ⟨p, o, rfl, a.cast (by (rw [a2]; exact (tkF_all (by rw [List.length_map]; exact bo)).symm)), b.cast (by (rw [ab]; exact (tkF_all (by rw [List.length_map]; exact a1)).symm)), y⟩
  intro K c b9 x0 A au hx c7 ac
  obtain ⟨ad, bb⟩ : ∃ ad, ad = b9 ++ [x0] := ⟨_, rfl⟩
  rw [← bb] at au; try rw [← bb] at hx
  rcases hx with ⟨lg, o, rfl, q, n, m, d, s, t, a, i, b, r, f, j, y, bi⟩
  have ah : NE af.heap.size (am.heap.size) := Nat.ne_of_lt aa
  refine yZ (yP (zB (yA (yV zk zk (zX b4 0 p zk zf (zK n rfl) (zX b7 0 o zk zf (zK m rfl) (xA (xA (yM ?_)))))))))
  intro d5 cc
  have ac := zA ac cc
  refine zB (yB (wC (ds := [⟨.collected am.heap.size, #[]⟩, ⟨.collected af.heap.size, #[]⟩]) zk (xC ac ?_)))
  intro eg cn
  have a := a.below cc
  have a := a.wrote cn (a.ne ac zi)
  have b := b.below cc
  have b := b.wrote cn (b.ne ac zi)
  have s := zC (zA s cc) cn ah
  refine xC s ?_
  intro ex c6
  have a := a.wrote c6 (a.ne s zi)
  have b := b.wrote c6 (b.ne s zi)
  refine wW [.tmp 4, .tmp 5] [p, o] rfl ⟨zk, zk, trivial⟩ ?_
  have y := ((y.tr cc).trans (cn.below ba)).trans (c6.below bt)
  exact ⟨p, o, rfl, a.cast (by (rw [a2]; exact (tkF_all (by rw [List.length_map]; exact bo)).symm)), b.cast (by exact bi), y⟩
 intro K c b9 x0 A au hx c7 s
 obtain ⟨ad, bb⟩ : ∃ ad, ad = b9 ++ [x0] := ⟨_, rfl⟩
 rw [← bb] at au; try rw [← bb] at hx
 rcases hx with ⟨la, p, rfl, q, n, m, d, a, i, y, b5⟩
 refine yZ (yP (zB (yA (wR (zG (zc (c_gaps_nil  _ ) ?_))))))
 rintro _ ao ⟨b2, rfl, u, ck, bw⟩
 replace ck := Nat.le_trans y.size ck
 refine nQ (yC ?_)
 have q := zA q bw
 have aq : b1 < ao.heap.size := yD q
 have n := zA n bw
 have ak : b4 < ao.heap.size := yD n
 have m := zA m bw
 have ar : b7 < ao.heap.size := yD m
 have d := zA d bw
 have ae : ax < ao.heap.size := yD d
 have s := zA s bw
 have aa : af.heap.size < ao.heap.size := yD s
 have az : b2 < ao.heap.size := yD u
 have y := y.tr bw
 have ba := y.size
 have dl := y
 refine wQ 141 [(pt b2 0)] ([] : List Rg) zk (fun _ _ => rfl) (it_gaps_nil b2 ) u ((fun D A B h hc hd => zL h hc (fun h => Nat.not_lt.2 (hd _ h) az))) (by intro x; rfl) (fun K ad A => ∃ (lg : List StrV) (o : Value), (A.heap[b1]? = some (.cells [(I6 few)].toArray 3 (0, 0))) ∧ (A.heap[b4]? = some (.cells [p].toArray 147 (0, 0))) ∧ (A.heap[b7]? = some (.cells [o].toArray 147 (0, 0))) ∧ (A.heap[ax]? = some (.cells [(.pointer none)].toArray 66 (0, 0))) ∧ (A.heap[af.heap.size]? = some (.deferred (some []))) ∧ (A.heap[b2]? = some (.cells [(.pointer none)].toArray 66 (0, 0))) ∧ (Row A w.heap.size 183 4 encD p la) ∧ (∀ g, Value.ownBlock p = some g → ¬ Iv ao.heap.size K g) ∧ (Row A w.heap.size 183 4 encD o lg) ∧ (∀ g, Value.ownBlock o = some g → ¬ Iv ao.heap.size K g) ∧ (Value.ownBlock p = none ∨ Value.ownBlock p ≠ Value.ownBlock o) ∧ (Value.ownBlock o = none ∨ Value.ownBlock o ≠ Value.ownBlock p) ∧ (Below w.heap.size w A) ∧ (lg = ad.map rgS) ∧ (few < 0 ∨ (ad.length : Int) ≤ few)) (fun K c ad A => (∃ (lg : List StrV) (o : Value), (c = .exit 2) ∧ (A.heap[b1]? = some (.cells [(I6 few)].toArray 3 (0, 0))) ∧ (A.heap[b4]? = some (.cells [p].toArray 147 (0, 0))) ∧ (A.heap[b7]? = some (.cells [o].toArray 147 (0, 0))) ∧ (A.heap[ax]? = some (.cells [(.pointer none)].toArray 66 (0, 0))) ∧ (A.heap[af.heap.size]? = some (.deferred (some []))) ∧ (A.heap[b2]? = some (.cells [(.pointer none)].toArray 66 (0, 0))) ∧ (Row A w.heap.size 183 4 encD p la) ∧ (∀ g, Value.ownBlock p = some g → ¬ Iv ao.heap.size K g) ∧ (Row A w.heap.size 183 4 encD o lg) ∧ (∀ g, Value.ownBlock o = some g → ¬ Iv ao.heap.size K g) ∧ (Value.ownBlock p = none ∨ Value.ownBlock p ≠ Value.ownBlock o) ∧ (Value.ownBlock o = none ∨ Value.ownBlock o ≠ Value.ownBlock p) ∧ (Below w.heap.size w A) ∧ (lg = tkF few (([] : List (Int × Int)).map rgS)))) ?_ ?_ ?_ ?_ ?_ ?_
 ·intro A hA
  have a := a.below bw
  exact ⟨[], (.slice none 0 0), zA q hA, zA n hA, zA m hA, zA d hA, zA s hA, zA u hA, a.below hA, qE a _, Row.nil _ _ _ _ _, nr_nil _ _, qD _, (.inl rfl), y.trans (hA.mono y.size), by rfl, by simp only [List.length_nil]; omega⟩
 ·rintro K ad A B ⟨lg, o, q, n, m, d, s, u, a, i, b, r, f, j, y, ab, a1⟩ hc
  exact ⟨lg, o, zL q hc (fun h => Nat.not_lt.2 h.1 aq), zL n hc (fun h => Nat.not_lt.2 h.1 ak), zL m hc (fun h => Nat.not_lt.2 h.1 ar), zL d hc (fun h => Nat.not_lt.2 h.1 ae), zL s hc (fun h => Nat.not_lt.2 h.1 aa), zL u hc (fun h => Nat.not_lt.2 h.1 az), a.ch hc i, i, b.ch hc r, r, f, j, hc.below y y.size (fun k h => Nat.le_trans ba h.1), ab, a1⟩
 ·rintro K c ad A B (⟨lg, o, c0, q, n, m, d, s, u, a, i, b, r, f, j, y, bi⟩) hc
  exact ⟨lg, o, c0, zL q hc (fun h => Nat.not_lt.2 h.1 aq), zL n hc (fun h => Nat.not_lt.2 h.1 ak), zL m hc (fun h => Nat.not_lt.2 h.1 ar), zL d hc (fun h => Nat.not_lt.2 h.1 ae), zL s hc (fun h => Nat.not_lt.2 h.1 aa), zL u hc (fun h => Nat.not_lt.2 h.1 az), a.ch hc i, i, b.ch hc r, r, f, j, hc.below y y.size (fun k h => Nat.le_trans ba h.1), bi⟩
 ·intro l K ad x A hi hN dk hK au
  obtain ⟨lg, o, q, n, m, d, s, u, a, i, b, r, f, j, y, ab, a1⟩ := hi
  have hk := Kp.refl (ao.heap.size) K A
  have bq : ¬ Iv (ao.heap.size) K b1 := fun h => Nat.not_lt.2 h.1 aq
  have bm : ¬ Iv (ao.heap.size) K b4 := fun h => Nat.not_lt.2 h.1 ak
  have bh : ¬ Iv (ao.heap.size) K b7 := fun h => Nat.not_lt.2 h.1 ar
  have bd : ¬ Iv (ao.heap.size) K ax := fun h => Nat.not_lt.2 h.1 ae
  have cf : ¬ Iv (ao.heap.size) K af.heap.size := fun h => Nat.not_lt.2 h.1 aa
  have cz : ¬ Iv (ao.heap.size) K b2 := fun h => Nat.not_lt.2 h.1 az
  have u := hN
  have c8 : lg.length = ad.length := by rw [ab]; exact List.length_map ..
  have da : ad.length < 0 := tk_lt au
  refine zW (zN [(I3 0), (I3 0)] 29 ?_)
  intro dr en av
  have cg := av.ge y.size
  have bj : ¬ Iv ao.heap.size K dr := fun h => by have := h.2; have := av.num; omega
  replace hk := hk.ch (Ch.of_below av.below) hK (fun _ h => h.elim)
  replace hK := Nat.le_trans hK (av.below.size)
  have z := av.here
  refine qC [(I3 x.1), (I3 x.2)] z ?_
  intro d9 a4
  replace hk := hk.ch (Ch.of_wrote a4) hK (fun k e h => bj (e ▸ h))
  replace hK := Nat.le_trans hK (Nat.le_of_eq a4.size.symm)
  have q := zA q av.below
  have q := zC q a4 (zH q z zi)
  have n := zA n av.below
  have n := zC n a4 (zH n z zi)
  have m := zA m av.below
  have m := zC m a4 (zH m z zi)
  have d := zA d av.below
  have d := zC d a4 (zH d z zi)
  have s := zA s av.below
  have s := zC s a4 (zH s z zi)
  have u := zA u av.below
  have u := zC u a4 (zH u z zi)
  have a := a.below av.below
  have a := a.wrote a4 (a.ne z zi)
  have b := b.below av.below
  have b := b.wrote a4 (b.ne z zi)
  have z := a4.here
  refine zR (zB ⟨hk, ?_⟩)
  intro dv a9
  have y := (y.tr av.below).trans (a4.below cg)
  have y := a9.below y y.size (fun k h => Nat.le_trans ba h.1)
  replace hK := Nat.le_trans hK a9.size
  replace hk := Kp.refl (ao.heap.size) K dv
  have z := zL z a9 bj
  have m := zL m a9 bh
  have b := b.ch a9 r
  refine yC (wR (zO 0 m rfl (wG z (zr (Value.agg #[(I3 x.1), (I3 x.2), (S []), (.bool false)]) (L_app xK w.heap.size o lg (x.1, x.2, ([] : List UInt8), false) y.size b zo zk rfl rfl zk rfl zk zk ?_)))))
  intro ct ev df be c2
  have cd := nr_app c2 r hK
  have a := a.ch a9 i
  have aj := vA a c2 f
  have y := y.tg y.size be b
  replace hk := hk.ch (Ch.of_grown be) hK (fun k e => r k e)
  replace hK := Nat.le_trans hK (be.size)
  have q := zL q a9 bq
  have q := yI q be (b.ne q zi)
  have n := zL n a9 bm
  have n := yI n be (b.ne n zi)
  have m := yI m be (b.ne m zi)
  have d := zL d a9 bd
  have d := yI d be (b.ne d zi)
  have s := zL s a9 cf
  have s := yI s be (b.ne s zi)
  have u := zL u a9 cz
  have u := yI u be (b.ne u zi)
  have a := a.grown be f
  have f := aj; have j := yW aj
  have b := df
  have r := cd; clear cd
  refine yQ b7 0 ct [o] [ct] 147 zk zk b.one zk m zi rfl ?_
  intro ec al
  replace hk := hk.ch (Ch.of_wrote al) hK (fun k e h => bh (e ▸ h))
  replace hK := Nat.le_trans hK (Nat.le_of_eq al.size.symm)
  have q := zC q al (zH q m zi)
  have d := zC d al (zH d m zi)
  have s := zC s al (zH s m zi)
  have u := zC u al (zH u m zi)
  have a := a.wrote al (a.ne m zi)
  have b := b.wrote al (b.ne m zi)
  have m := al.here
  refine nR (zO 0 q rfl (zGe .i64 few 0 ?_ ?_))
  ·intro eh
   refine zG (zw (zO 0 m rfl (zw (vI Try.underlying147 (b.rd).len (zw (zO 0 q rfl (zw (zGt .i64 ((((lg ++ [(x.1, x.2, ([] : List UInt8), false)])).length : Nat) : Int) few ?_ ?_))))))))
   ·intro ed
    refine xN (nQ (zT (yZ (zxo ?_))))
    have y := y.trans (al.below b3)
    have n := zC n al ai
    refine round_exit hk (⟨(lg ++ [(x.1, x.2, ([] : List UInt8), false)]), ct, rfl, q, n, m, d, s, u, a, i, b, r, f, j, y, ?_⟩)
    rw [ab]; refine Eq.trans ?_ (tkF_stop au zo zo); rw [List.map_append]; rfl
   intro es
   refine xN (nQ (zF (zZ (zS ?_))))
   have y := y.trans (al.below b3)
   have n := zC n al ai
   refine yU hk u ⟨(lg ++ [(x.1, x.2, ([] : List UInt8), false)]), ct, q, n, m, d, s, u, a, i, b, r, f, j, y, ?_, zo⟩
   rw [ab, List.map_append]; rfl
  intro ek
  refine zG (zs (zs (zs (zs (zpF (nQ (zF (zZ (zS ?_)))))))))
  have y := y.trans (al.below b3)
  have n := zC n al ai
  refine yU hk u ⟨(lg ++ [(x.1, x.2, ([] : List UInt8), false)]), ct, q, n, m, d, s, u, a, i, b, r, f, j, y, ?_, zo⟩
  rw [ab, List.map_append]; rfl
 ·intro K A hi c7 ac
  obtain ⟨lg, o, q, n, m, d, s, u, a, i, b, r, f, j, y, ab, a1⟩ := hi
  have ah : NE af.heap.size (ao.heap.size) := Nat.ne_of_lt aa
  refine zS (zB (yA (yV zk zk (zX b4 0 p zk zf (zK n rfl) (zX b7 0 o zk zf (zK m rfl) (xA (xA (yM ?_))))))))
  intro ee cb
  have ac := zA ac cb
  refine zB (yB (wC (ds := [⟨.collected ao.heap.size, #[]⟩, ⟨.collected af.heap.size, #[]⟩]) zk (xC ac ?_)))
  intro ey cp
  have a := a.below cb
  have a := a.wrote cp (a.ne ac zi)
  have b := b.below cb
  have b := b.wrote cp (b.ne ac zi)
  have s := zC (zA s cb) cp ah
  refine xC s ?_
  intro dz c4
  have a := a.wrote c4 (a.ne s zi)
  have b := b.wrote c4 (b.ne s zi)
  refine wW [.tmp 4, .tmp 5] [p, o] rfl ⟨zk, zk, trivial⟩ ?_
  have y := ((y.tr cb).trans (cp.below ba)).trans (c4.below bt)
  exact ⟨p, o, rfl, a.cast (by exact b5), b.cast (by (rw [ab]; exact (tkF_all (by rw [List.length_map]; exact a1)).symm)), y⟩
 intro K c b9 x0 A au hx c7 ac
 obtain ⟨ad, bb⟩ : ∃ ad, ad = b9 ++ [x0] := ⟨_, rfl⟩
 rw [← bb] at au; try rw [← bb] at hx
 rcases hx with ⟨lg, o, rfl, q, n, m, d, s, u, a, i, b, r, f, j, y, bi⟩
 have ah : NE af.heap.size (ao.heap.size) := Nat.ne_of_lt aa
 refine yZ (yP (zB (yA (yV zk zk (zX b4 0 p zk zf (zK n rfl) (zX b7 0 o zk zf (zK m rfl) (xA (xA (yM ?_)))))))))
 intro d7 b8
 have ac := zA ac b8
 refine zB (yB (wC (ds := [⟨.collected ao.heap.size, #[]⟩, ⟨.collected af.heap.size, #[]⟩]) zk (xC ac ?_)))
 intro ei co
 have a := a.below b8
 have a := a.wrote co (a.ne ac zi)
 have b := b.below b8
 have b := b.wrote co (b.ne ac zi)
 have s := zC (zA s b8) co ah
 refine xC s ?_
 intro ea c5
 have a := a.wrote c5 (a.ne s zi)
 have b := b.wrote c5 (b.ne s zi)
 refine wW [.tmp 4, .tmp 5] [p, o] rfl ⟨zk, zk, trivial⟩ ?_
 have y := ((y.tr b8).trans (co.below ba)).trans (c5.below bt)
 exact ⟨p, o, rfl, a.cast (by exact b5), b.cast (by exact bi), y⟩
theorem c_sameF (s : Value) (a : List (Int × Int × List UInt8 × Bool)) (q : Value) (l : List (Int × Int × List UInt8 × Bool)) (few : Int) (w : World) (b : Rd w encD s a) (n : Rd w encD q l) (ha : a.length ≤ 1073741824) (hl : l.length ≤ 1073741824) :
  Calls Try.prog 84 #[s, q, (I6 few)] w (Ret fun v w' => v = (.bool (decide (a = tkF few l))) ∧ Below w.heap.size w w') := by
 refine wL 40 Try.func84 rfl ?_
 have o := Below.refl w.heap.size w
 have bl := want_bd few l
 refine wR (zI (nR (zG (vI Try.underlying147 (n).len (zI (nW (wR (zG (zGe .i64 few 0 ?_ ?_)))))))))
 ·intro h1
  refine zG (zw (zG (zw (zG (zw (xL (((l).length : Nat) : Int) 1 ((((l).length : Nat) : Int) - 1) rfl zk zk (xH _ zh zh) (zw (zLt .i64 few ((((l).length : Nat) : Int) - 1) ?_ ?_))))))))
  ·intro h2
   refine xN (nQ (zT (zW (zG (xL few 1 (few + 1) rfl zk zk (xH _ zh zh) (zI (nW (wR (zG (vI Try.underlying147 (b).len (zG (zNe .i64 (((a).length : Nat) : Int) (few + 1) ?_ ?_))))))))))))
   ·intro h3
    exact nQ (zT (wR (zI (nQ (yB (zP (yJ [(.bool false)] ⟨eb (by exact (same_len (by first | (rw [want_y zo zo]; omega) | (rw [want_n zo]; omega))).symm), o⟩)))))))
   intro h4
   refine nQ (zF (zZ (zB (yA (wR (zI (nQ (yC (wH (fun m s0 w0 => ∃ (i : Nat), (m = a.length - i) ∧ (s0.ds = []) ∧ ([0, 1, 8].map s0.f = [s, q, (N6 i)]) ∧ (Rd w0 encD s a) ∧ (Rd w0 encD q l) ∧ (Below w.heap.size w w0) ∧ (i ≤ a.length) ∧ ((a.length : Int) = wantF few l) ∧ (a.take i = l.take i)) _ ⟨0, rfl, zk, zk, b, n, o, (Nat.zero_le _), (by (rw [want_y zo zo]; omega)), rfl⟩ ?_)))))))))
   rintro m5 s6 w7 ⟨i, hm, r, ac, b, n, o, i1, i2, i3⟩
   refine wF ac (yA (wR (zG (zG (vI Try.underlying147 (b).len (nLt i ((a).length) ?_ ?_))))))
   ·intro h8
    refine nQ (zT (zZ (zB (yA (yC (yA (yV zk zk (zY (zY ?_)))))))))
    have p := yN a i zo; obtain ⟨t, a7⟩ := p
    have p := (b).at (k := 4) zj a7
    obtain ⟨bg, u, bd, av⟩ := p
    refine yO (k := .i64) s i _ bg u xK bd zo zk zk (xU bg (u + i * 4) [(I3 t.1), (I3 t.2.1), (S t.2.2.1), (.bool t.2.2.2)] zk zf zf av (zY (zY ?_)))
    have p := yN l i zo; obtain ⟨h, a8⟩ := p
    have p := (n).at (k := 4) zj a8
    obtain ⟨ak, ag, au, ao⟩ := p
    refine yO (k := .i64) q i _ ak ag xK au zo zk zk (xU ak (ag + i * 4) [(I3 h.1), (I3 h.2.1), (S h.2.2.1), (.bool h.2.2.2)] zk zf zf ao (Lq_aggne [(I3 t.1), (I3 t.2.1), (S t.2.2.1), (.bool t.2.2.2)] [(I3 h.1), (I3 h.2.1), (S h.2.2.1), (.bool h.2.2.2)] (t.1 == h.1 && t.2.1 == h.2.1 && t.2.2.1 == h.2.2.1 && t.2.2.2 == h.2.2.2) zk zk zk (eqagg183 t.1 t.2.1 t.2.2.1 t.2.2.2 h.1 h.2.1 h.2.2.1 h.2.2.2) ?_ ?_))
    ·intro b8
     refine yM ?_
     intro bs a2
     replace o := o.tr a2
     exact zB (zT (wR (zI (nQ (yB (yG (zP (zP (yG (zP (yJ [(.bool false)] (hd := r) ⟨eb (by exact (same_no za za (fun e => by subst e; simp_all)).symm), o⟩)))))))))))
    intro an
    replace an : t.1 = h.1 ∧ t.2.1 = h.2.1 ∧ t.2.2.1 = h.2.2.1 ∧ t.2.2.2 = h.2.2.2 := by simpa [and_assoc] using an
    refine yM ?_
    intro b5 ae
    refine zB (zF (zZ (zS (zB (zW (zG (vG i 1 (zI (zR ?_)))))))))
    replace o := o.tr ae
    replace b := b.below ae
    replace n := n.below ae
    refine zB ⟨_, zo, (i + 1), rfl, r, zk, b, n, o, zo, ?_, ?_⟩
    ·exact i2
    exact same_step i3 za za (by obtain ⟨e1, e2, e3, e4⟩ := ‹_ ∧ _ ∧ _ ∧ _›; exact st4 e1 e2 e3 e4)
   intro bt
   exact nQ (zF (yZ (yE (yE (yP (zB (wR (zI (nQ (yB (yJ [(.bool true)] (hd := r) ⟨eb (by exact (same_yes i3 i2 zo).symm), o⟩)))))))))))
  intro bn
  refine xN (nQ (zF (zZ (zB (yA (wR (zG (vI Try.underlying147 (b).len (zG (nNe ((a).length) ((l).length) ?_ ?_))))))))))
  ·intro b7
   exact nQ (zT (wR (zI (nQ (yB (zP (yJ [(.bool false)] ⟨eb (by exact (same_len (by first | (rw [want_y zo zo]; omega) | (rw [want_n zo]; omega))).symm), o⟩)))))))
  intro bp
  refine nQ (zF (zZ (zB (yA (wR (zI (nQ (yC (wH (fun m s0 w0 => ∃ (i : Nat), (m = a.length - i) ∧ (s0.ds = []) ∧ ([0, 1, 8].map s0.f = [s, q, (N6 i)]) ∧ (Rd w0 encD s a) ∧ (Rd w0 encD q l) ∧ (Below w.heap.size w w0) ∧ (i ≤ a.length) ∧ ((a.length : Int) = wantF few l) ∧ (a.take i = l.take i)) _ ⟨0, rfl, zk, zk, b, n, o, (Nat.zero_le _), (by (rw [want_n zo]; omega)), rfl⟩ ?_)))))))))
  rintro bv cc b0 ⟨i, hm, r, ac, b, n, o, i1, i2, i3⟩
  refine wF ac (yA (wR (zG (zG (vI Try.underlying147 (b).len (nLt i ((a).length) ?_ ?_))))))
  ·intro ca
   refine nQ (zT (zZ (zB (yA (yC (yA (yV zk zk (zY (zY ?_)))))))))
   have p := yN a i zo; obtain ⟨g, ax⟩ := p
   have p := (b).at (k := 4) zj ax
   obtain ⟨bf, y, bh, a4⟩ := p
   refine yO (k := .i64) s i _ bf y xK bh zo zk zk (xU bf (y + i * 4) [(I3 g.1), (I3 g.2.1), (S g.2.2.1), (.bool g.2.2.2)] zk zf zf a4 (zY (zY ?_)))
   have p := yN l i zo; obtain ⟨j, aq⟩ := p
   have p := (n).at (k := 4) zj aq
   obtain ⟨aj, aa, ar, aw⟩ := p
   refine yO (k := .i64) q i _ aj aa xK ar zo zk zk (xU aj (aa + i * 4) [(I3 j.1), (I3 j.2.1), (S j.2.2.1), (.bool j.2.2.2)] zk zf zf aw (Lq_aggne [(I3 g.1), (I3 g.2.1), (S g.2.2.1), (.bool g.2.2.2)] [(I3 j.1), (I3 j.2.1), (S j.2.2.1), (.bool j.2.2.2)] (g.1 == j.1 && g.2.1 == j.2.1 && g.2.2.1 == j.2.2.1 && g.2.2.2 == j.2.2.2) zk zk zk (eqagg183 g.1 g.2.1 g.2.2.1 g.2.2.2 j.1 j.2.1 j.2.2.1 j.2.2.2) ?_ ?_))
   ·intro b4
    refine yM ?_
    intro bx ap
    replace o := o.tr ap
    exact zB (zT (wR (zI (nQ (yB (yG (zP (zP (yG (zP (yJ [(.bool false)] (hd := r) ⟨eb (by exact (same_no za za (fun e => by subst e; simp_all)).symm), o⟩)))))))))))
   intro a3
   replace a3 : g.1 = j.1 ∧ g.2.1 = j.2.1 ∧ g.2.2.1 = j.2.2.1 ∧ g.2.2.2 = j.2.2.2 := by simpa [and_assoc] using a3
   refine yM ?_
   intro cb z
   refine zB (zF (zZ (zS (zB (zW (zG (vG i 1 (zI (zR ?_)))))))))
   replace o := o.tr z
   replace b := b.below z
   replace n := n.below z
   refine zB ⟨_, zo, (i + 1), rfl, r, zk, b, n, o, zo, ?_, ?_⟩
   ·exact i2
   exact same_step i3 za za (by obtain ⟨e1, e2, e3, e4⟩ := ‹_ ∧ _ ∧ _ ∧ _›; exact st4 e1 e2 e3 e4)
  intro bo
  exact nQ (zF (yZ (yE (yE (yP (zB (wR (zI (nQ (yB (yJ [(.bool true)] (hd := r) ⟨eb (by exact (same_yes i3 i2 zo).symm), o⟩)))))))))))
 intro b1
 refine zG (zs (zs (zs (zs (zpF (nQ (zF (zZ (zB (yA (wR (zG (vI Try.underlying147 (b).len (zG (nNe ((a).length) ((l).length) ?_ ?_)))))))))))))))
 ·intro b9
  exact nQ (zT (wR (zI (nQ (yB (zP (yJ [(.bool false)] ⟨eb (by exact (same_len (by first | (rw [want_y zo zo]; omega) | (rw [want_n zo]; omega))).symm), o⟩)))))))
 intro bz
 refine nQ (zF (zZ (zB (yA (wR (zI (nQ (yC (wH (fun m s0 w0 => ∃ (i : Nat), (m = a.length - i) ∧ (s0.ds = []) ∧ ([0, 1, 8].map s0.f = [s, q, (N6 i)]) ∧ (Rd w0 encD s a) ∧ (Rd w0 encD q l) ∧ (Below w.heap.size w w0) ∧ (i ≤ a.length) ∧ ((a.length : Int) = wantF few l) ∧ (a.take i = l.take i)) _ ⟨0, rfl, zk, zk, b, n, o, (Nat.zero_le _), (by (rw [want_n zo]; omega)), rfl⟩ ?_)))))))))
 rintro b6 bu b3 ⟨i, hm, r, ac, b, n, o, i1, i2, i3⟩
 refine wF ac (yA (wR (zG (zG (vI Try.underlying147 (b).len (nLt i ((a).length) ?_ ?_))))))
 ·intro br
  refine nQ (zT (zZ (zB (yA (yC (yA (yV zk zk (zY (zY ?_)))))))))
  have p := yN a i zo; obtain ⟨d, az⟩ := p
  have p := (b).at (k := 4) zj az
  obtain ⟨bc, ad, al, am⟩ := p
  refine yO (k := .i64) s i _ bc ad xK al zo zk zk (xU bc (ad + i * 4) [(I3 d.1), (I3 d.2.1), (S d.2.2.1), (.bool d.2.2.2)] zk zf zf am (zY (zY ?_)))
  have p := yN l i zo; obtain ⟨c, a5⟩ := p
  have p := (n).at (k := 4) zj a5
  obtain ⟨a6, af, a9, ba⟩ := p
  refine yO (k := .i64) q i _ a6 af xK a9 zo zk zk (xU a6 (af + i * 4) [(I3 c.1), (I3 c.2.1), (S c.2.2.1), (.bool c.2.2.2)] zk zf zf ba (Lq_aggne [(I3 d.1), (I3 d.2.1), (S d.2.2.1), (.bool d.2.2.2)] [(I3 c.1), (I3 c.2.1), (S c.2.2.1), (.bool c.2.2.2)] (d.1 == c.1 && d.2.1 == c.2.1 && d.2.2.1 == c.2.2.1 && d.2.2.2 == c.2.2.2) zk zk zk (eqagg183 d.1 d.2.1 d.2.2.1 d.2.2.2 c.1 c.2.1 c.2.2.1 c.2.2.2) ?_ ?_))
  ·intro bw
   refine yM ?_
   intro bm ay
   replace o := o.tr ay
   exact zB (zT (wR (zI (nQ (yB (yG (zP (zP (yG (zP (yJ [(.bool false)] (hd := r) ⟨eb (by exact (same_no za za (fun e => by subst e; simp_all)).symm), o⟩)))))))))))
  intro bi
  replace bi : d.1 = c.1 ∧ d.2.1 = c.2.1 ∧ d.2.2.1 = c.2.2.1 ∧ d.2.2.2 = c.2.2.2 := by simpa [and_assoc] using bi
  refine yM ?_
  intro b2 ab
  refine zB (zF (zZ (zS (zB (zW (zG (vG i 1 (zI (zR ?_)))))))))
  replace o := o.tr ab
  replace b := b.below ab
  replace n := n.below ab
  refine zB ⟨_, zo, (i + 1), rfl, r, zk, b, n, o, zo, ?_, ?_⟩
  ·exact i2
  exact same_step i3 za za (by obtain ⟨e1, e2, e3, e4⟩ := ‹_ ∧ _ ∧ _ ∧ _›; exact st4 e1 e2 e3 e4)
 intro bq
 exact nQ (zF (yZ (yE (yE (yP (zB (wR (zI (nQ (yB (yJ [(.bool true)] (hd := r) ⟨eb (by exact (same_yes i3 i2 zo).symm), o⟩)))))))))))
end Go.Proofs.Ythjgnnfonofgkaa
end

/- === FKao === -/
section
/- FKao: a region that draws its order, of which the first k operations leave old memory alone (they may call, and make memory) and must all come before one behind: what each hands out is known by a fact that stays; each operation is walked once. My own text. -/
namespace Go.FK
open Go Go.RowKit
def dOf (D : List Nat) (i : Nat) : Nat := D.getD i 0
def diffB (D : List Nat) : Bool := (List.range D.length).all fun i => (List.range D.length).all fun j => Nat.beq i j || !Nat.beq (dOf D i) (dOf D j)
def OneOk (P : Program) (n : Nat) (ops : Array Oper) (w0 : World) (s0 : Fm) (D : List Nat) (G : Nat → Value → World → Prop) (i : Nat) (o : Oper) : Prop :=
  ∀ s w, Below w0.heap.size w0 w → s.ds = s0.ds → (∀ t, D.contains t = false → s.f t = s0.f t) → (∀ j, onB o j = true → G j (s.f (dOf D j)) w) →
    ∀ Z : Fm → World → Prop, (∀ s' w', Below w.heap.size w w' → s'.ds = s.ds → (∀ t, t ≠ dOf D i → s'.f t = s.f t) → G i (s'.f (dOf D i)) w' → Z s' w') →
    L none P n ops (fun c s' w' => c = .normal ∧ Z s' w') [o] s w
def OpsOk (P : Program) (n : Nat) (ops : Array Oper) (w0 : World) (s0 : Fm) (D : List Nat) (G : Nat → Value → World → Prop) : Nat → List Oper → Prop
  | _, [] => True
  | i, o :: rest => OneOk P n ops w0 s0 D G i o ∧ OpsOk P n ops w0 s0 D G (i + 1) rest
section
variable {P : Program} {n : Nat} {ops : Array Oper} {w0 : World} {s0 : Fm} {D : List Nat} {G : Nat → Value → World → Prop}
def InvL (w0 : World) (s0 : Fm) (D : List Nat) (G : Nat → Value → World → Prop) (k : Nat) (A : Array Bool) (s : Fm) (w : World) : Prop :=
  Below w0.heap.size w0 w ∧ s.ds = s0.ds ∧ (∀ t, D.contains t = false → s.f t = s0.f t) ∧ ∀ i, i < k → A.getD i false = true → G i (s.f (dOf D i)) w
end
section
variable {P : Program} {n : Nat} {Q : Post} {s : Fm} {w : World}
end
def putL (s : Fm) : List Nat → List Value → Fm
  | d :: ds, v :: vs => putL (s.put (some d) v) ds vs
  | _, _ => s
def AllAt (s : Fm) : List Nat → List Value → Prop
  | d :: ds, v :: vs => s.f d = v ∧ AllAt s ds vs
  | _, _ => True
def gOf (Gs : List (Value → World → Prop)) (i : Nat) : Value → World → Prop := Gs.getD i (fun _ _ => True)
def AllSt : List (Value → World → Prop) → Prop
  | [] => True
  | p :: l => (∀ v A B, p v A → Below A.heap.size A B → p v B) ∧ AllSt l
section
variable {P : Program} {n : Nat} {Q : Post} {s : Fm} {w : World}
end
end Go.FK
end

/- === FKap === -/
section
/- FKap: regions that draw their order, in a round or not: a load that reads what nobody in the region writes ahead of its last operation m is taken first. As the kit's OrdersHeld, inside a fence, and the condition on the world is not asked behind m. My own text. -/
namespace Go.FK
open Go Go.RowKit
section
variable {P : Program} {ops : Array Oper} {Q : Exit → Act → World → Prop} {S : World → Prop} {m : Nat}
def wpAnyJ (P : Program) (ops : Array Oper) (Q : Exit → Act → World → Prop) (S : World → Prop) (m : Nat) : Nat → Array Bool → Act → World → Prop
  | 0, listed, a, w => Region.ready .any ops listed = [] ∧ Q .normal a w
  | fuel + 1, listed, a, w => (Region.ready .any ops listed = [] → Q .normal a w) ∧
    ∀ i ∈ Region.ready .any ops listed, wpOpIn (Fw none) 0 P ops Q i (fun a' w' => (i = m ∨ S w') ∧ wpAnyJ P ops Q S m fuel (listed.setIfInBounds i true) a' w') a w
theorem wpAnyIn_of_J : ∀ (fuel : Nat) (listed : Array Bool) (a : Act) (w : World), wpAnyJ P ops Q S m fuel listed a w → wpAnyIn (Fw none) 0 P .any ops Q fuel listed a w
 | 0, _, _, _, h => h
 | fuel + 1, _, _, _, h => ⟨h.1, fun i hi => wpOpIn_mono (fun a' w' h' => wpAnyIn_of_J fuel _ a' w' h'.2) (h.2 i hi)⟩
def YieldsJ (P : Program) (ops : Array Oper) (S : World → Prop) (o : Oper) (v : Value) (a : Act) : Prop := YieldsIf P ops S o v a ∧ ∀ w, o.about P w a.eval = none
theorem YieldsJ.wpOpIn {i : Nat} {o : Oper} {v : Value} {a : Act} (hi : ops[i]? = some o) (hy : YieldsJ P ops S o v a) {K : Act → World → Prop} {w : World} (hS : S w) (h : K (a.put o.dst v) w) : wpOpIn (Fw none) 0 P ops Q i K a w := by
 unfold Go.wpOpIn
 simp only [hi]
 have hab : ∀ f, o.about P w a.eval = some f → (Fw none).fn f := fun f hf => by rw [hy.2 w] at hf; cases hf
 have hro : (Fw none).round = none := rfl
 rcases hy.1 with ⟨hw, hv⟩ | ⟨hw, rfl⟩
 ·simp only [hw, if_true, Oper.wpIn, hro, Oper.semAt_none, hv w hS, Oper.uponIn]; exact ⟨hab, h⟩
 ·simp only [hw, Bool.false_eq_true, if_false]; exact ⟨hab, h⟩
theorem YieldsJ.of_same {o : Oper} {v : Value} {a a' : Act} (hy : YieldsJ P ops S o v a) (he : execOp a'.eval o = execOp a.eval o)
  (hw : Region.wanted o (yielded ops a'.tmps) = Region.wanted o (yielded ops a.tmps)) (hb : ∀ w, o.about P w a'.eval = o.about P w a.eval) : YieldsJ P ops S o v a' :=
 ⟨hy.1.of_same he hw, fun w => by rw [hb w]; exact hy.2 w⟩
theorem wpOpIn_putJ {j : Nat} {oi oj : Oper} {v : Value} (hj : ops[j]? = some oj) (hap : oi.apart ops oj = true)
  (hsi : ∀ cs b, oi.op ≠ .select cs b) (hsj : ∀ cs b, oj.op ≠ .select cs b)
  (hQ : ∀ c a w, Q (.panic c) (a.put oi.dst v) w → Q (.panic c) a w) {K : Act → World → Prop} {a : Act} {w : World}
  (hy : YieldsJ P ops S oi v a) (h : wpOpIn (Fw none) 0 P ops Q j K (a.put oi.dst v) w) :
  wpOpIn (Fw none) 0 P ops Q j (fun a' w' => YieldsJ P ops S oi v a' ∧ K (a'.put oi.dst v) w') a w := by
 obtain ⟨i, g, k⟩ := Oper.apart_spec hap
 have hro : (Fw none).round = none := rfl
 have keep : ∀ (a : Act), YieldsJ P ops S oi v a → ∀ u, YieldsJ P ops S oi v (a.put oj.dst u) := fun a hy u =>
  hy.of_same (execOp_put oi hsi a oj.dst u k) (wanted_put oi a oj.dst u k) (fun w => about_put oi w a oj.dst u k)
 have keepD : ∀ d, YieldsJ P ops S oi v { a with defers := d :: a.defers } := fun d => hy.of_same rfl rfl (fun _ => rfl)
 unfold wpOpIn at *
 simp only [hj] at *
 rw [wanted_put oj a oi.dst v i, about_put oj w a oi.dst v i] at h
 split
 ·rename_i hw
  simp only [hw, if_true] at h
  unfold Oper.wpIn at *
  rw [about_put oj w a oi.dst v i] at h
  refine ⟨h.1, ?_⟩
  have h := h.2
  rw [hro, Oper.semAt_none, execOp_put oj hsj a oi.dst v i] at h
  rw [hro, Oper.semAt_none]
  generalize (execOp a.eval oj).run P w = r at *
  cases r with
  | ok x w' =>
   cases x <;> simp only [Oper.uponIn] at h ⊢
   case value u => exact ⟨keep a hy u, by rw [← Act.put_comm a v u g]; exact h⟩
   case skip => exact ⟨keep a hy _, by rw [← Act.put_comm a v undef g]; exact h⟩
   case defer d =>
    refine ⟨keep _ (keepD d) _, ?_⟩
    rw [← Act.put_comm _ v undef g, ← Act.put_defers]
    exact h
   case enter f args =>
    refine ⟨h.1, CallsIn.mono h.2 fun e w'' he => ?_⟩
    cases e with
    | returned u => exact ⟨keep a hy u, by rw [← Act.put_comm a v u g]; exact he⟩
    | panicked c => exact hQ _ _ _ he
    | outgrown => exact he
   case row row args => exact ⟨h.1, RowsIn.mono h.2 fun u w'' he => ⟨keep a hy u, by rw [← Act.put_comm a v u g]; exact he⟩⟩
   case round l f tmps assign body =>
    refine ⟨h.1, RoundIn.mono h.2 fun e w'' he => ?_⟩
    cases e with
    | returned u => exact ⟨keep a hy u, by rw [← Act.put_comm a v u g]; exact he⟩
    | panicked c => exact hQ _ _ _ he
    | outgrown => exact he
  | halt x w' =>
   cases x <;> simp only [Oper.uponIn] at h ⊢
   case panic u => exact hQ _ _ _ h
 ·rename_i hw
  simp only [hw] at h
  exact ⟨h.1, keep a hy _, by rw [← Act.put_comm a v undef g]; exact h.2⟩
def waitB (ops : Array Oper) (i : Nat) (B : List Nat) : Bool := B.all fun j => Nat.beq j i || (match ops[j]? with | some o => o.after.any (fun e => Region.binds .any e && B.contains e.on) | none => false)
def freeB (L : Array Bool) (B : List Nat) : Bool := B.all fun j => !L.getD j true
theorem free_at {L : Array Bool} {B : List Nat} (h : freeB L B = true) {j : Nat} (hj : j ∈ B) : L.getD j true = false := by
 have := List.all_eq_true.1 h j hj
 simpa using this
theorem not_ready {i j : Nat} {B : List Nat} {L : Array Bool} (hw : waitB ops i B = true) (hf : freeB L B = true) (hj : j ∈ Region.ready .any ops L) (hne : j ≠ i) : j ∉ B := fun hB => by
 have a := List.all_eq_true.1 hw j hB
 obtain ⟨_, o, ho, hall⟩ := mem_ready.1 hj
 rw [ho] at a
 simp only [Bool.or_eq_true] at a
 rcases a with a | a
 ·exact hne (Nat.eq_of_beq_eq_true a)
 ·obtain ⟨e, he, hb⟩ := Array.any_eq_true'.1 a
  simp only [Bool.and_eq_true] at hb
  have c := hall e he hb.1
  have b := free_at hf (List.contains_iff_mem.1 hb.2)
  rcases Nat.lt_or_ge e.on L.size with hs | hs
  ·simp [hs] at c b; rw [c] at b; cases b
  ·simp [Array.getElem?_eq_none hs] at c
theorem free_set {j : Nat} {B : List Nat} {L : Array Bool} (hf : freeB L B = true) (hj : j ∉ B) : freeB (L.setIfInBounds j true) B = true := by
 refine List.all_eq_true.2 fun k hk => ?_
 have := free_at hf hk
 have hjk : j ≠ k := fun e => hj (by rw [e]; exact hk)
 rw [getD_set_ne true hjk, this]; rfl
theorem wpAnyJ_first {i : Nat} {oi : Oper} {v : Value} {B : List Nat} (hi : ops[i]? = some oi) (hsel : ∀ (j : Nat) (o : Oper) cs b, ops[j]? = some o → o.op ≠ .select cs b)
  (hQ : ∀ c a w, Q (.panic c) (a.put oi.dst v) w → Q (.panic c) a w) (hw : waitB ops i B = true) (hm : m ∈ B) :
  ∀ (fuel : Nat) (listed : Array Bool) (a : Act) (w : World),
   (∀ j oj, ops[j]? = some oj → j ≠ i → listed.getD j true = false → (∀ e ∈ oj.after, Region.binds .any e = true → e.on ≠ i) → oi.apart ops oj = true) →
   i ∈ Region.ready .any ops listed → freeB listed B = true → YieldsJ P ops S oi v a → S w →
   wpAnyJ P ops Q S m fuel (listed.setIfInBounds i true) (a.put oi.dst v) w → wpAnyJ P ops Q S m (fuel + 1) listed a w := by
 intro fuel
 induction fuel with
 | zero =>
  intro listed a w _ hr hf hy hS H
  refine ⟨fun h => (by rw [h] at hr; cases hr), fun j hj => ?_⟩
  by_cases hji : j = i
  ·subst hji; exact hy.wpOpIn hi hS ⟨.inr hS, H⟩
  ·have := ready_mono hj hji
   rw [H.1] at this
   cases this
 | succ fuel ih =>
  intro listed a w hfree hr hf hy hS H
  refine ⟨fun h => (by rw [h] at hr; cases hr), fun j hj => ?_⟩
  by_cases hji : j = i
  ·subst hji; exact hy.wpOpIn hi hS ⟨.inr hS, H⟩
  ·have d := H.2 j (ready_mono hj hji)
   obtain ⟨hjun, oj, hoj, hall⟩ := mem_ready.1 hj
   have hnot : ∀ e ∈ oj.after, Region.binds .any e = true → e.on ≠ i := fun e he hb heq => by
    have d := hall e he hb
    have f := (mem_ready.1 hr).1
    rw [heq] at d
    rcases Nat.lt_or_ge i listed.size with h' | h'
    ·simp [h'] at f d; rw [f] at d; cases d
    ·simp [Array.getElem?_eq_none h'] at d
   have g := wpOpIn_putJ hoj (hfree j oj hoj hji hjun hnot) (fun cs b => hsel i oi cs b hi) (fun cs b => hsel j oj cs b hoj) hQ hy d
   have hjB := not_ready hw hf hj hji
   have hfree' : ∀ k ok, ops[k]? = some ok → k ≠ i → (listed.setIfInBounds j true).getD k true = false →
     (∀ e ∈ ok.after, Region.binds .any e = true → e.on ≠ i) → oi.apart ops ok = true := fun k ok hk hki hun hno => by
    refine hfree k ok hk hki ?_ hno
    by_cases hjk : j = k
    ·subst hjk; exact hjun
    ·rw [getD_set_ne true hjk] at hun; exact hun
   refine wpOpIn_mono (fun a' w' h3 => ?_) g
   obtain ⟨hy', hjm, hk⟩ := h3
   have hS' : S w' := hjm.resolve_left (fun e => hjB (e ▸ hm))
   refine ⟨.inr hS', ih (listed.setIfInBounds j true) a' w' hfree' (ready_mono hr (Ne.symm hji)) (free_set hf hjB) hy' hS' ?_⟩
   rw [Array.setIfInBounds_comm _ _ hji]
   exact hk
end
section
variable {P : Program} {n : Nat} {Q : Post} {s : Fm} {w : World} {ops : Array Oper} {S : World → Prop} {m fuel : Nat} {listed : Array Bool}
def Lj (P : Program) (n : Nat) (ops : Array Oper) (Q : Post) (S : World → Prop) (m fuel : Nat) (listed : Array Bool) (s : Fm) (w : World) : Prop := wpAnyJ P ops (upQ n Q) S m fuel listed (s.act n) w
theorem vH {r : Option Nat} {id : Nat} {l : List Oper} (m N : Nat) (hN : Nat.beq l.length N = true) (hm : P.follows .mixedOrders = true) (hd : noDefers l.toArray = true)
  (h : ∀ w', Below w.heap.size w w' → ∃ S, Lj P n l.toArray Q S m N (Array.replicate N false) s w') : W r P n (.region id l.toArray true) Q s w := by
 refine xY N hN hm hd fun w' hw' => ?_
 obtain ⟨S, hS⟩ := h w' hw'
 unfold Li
 exact wpAnyIn_of_J _ _ _ _ hS
theorem J_take (i : Nat) (B : List Nat) {o : Oper} (v : Value) (hi : ops[i]? = some o) (hs : Region.noSelect ops = true) (hf : Region.free .any ops listed i = true) (hr : (Region.ready .any ops listed).contains i = true)
  (hc : noCall o.op = true) (hw : wantB ops n s o.guard = true) (hb : waitB ops i B = true) (hB : freeB listed B = true) (hm : B.contains m = true) (hq : NoPanic Q) (hS : S w) (hrun : RunOk P n o s S v) (h : Lj P n ops Q S m fuel (listed.setIfInBounds i true) (s.put o.dst v) w) : Lj P n ops Q S m (fuel + 1) listed s w := by
 unfold Lj at h ⊢
 refine wpAnyJ_first (v := v) hi (Region.noSelect_spec hs) ?_ hb (List.contains_iff_mem.1 hm) fuel listed (s.act n) w (Region.free_spec hi hf) (by simpa using hr) hB ⟨.inl ⟨?_, ?_⟩, fun w => about_none hc w _⟩ hS ?_
 ·intro c a w hp
  obtain ⟨s', _, hp⟩ := hp
  exact absurd hp (hq c s' w)
 ·rw [wanted_want]; exact hw
 ·intro w' hw'; rw [wJ]; exact hrun w' hw'
 ·rw [qK]; exact h
theorem J_done (hr : Region.ready .any ops listed = []) (h : Q .normal s w) : Lj P n ops Q S m fuel listed s w := by
 unfold Lj
 cases fuel with
 | zero => exact ⟨hr, s, rfl, h⟩
 | succ k => exact ⟨fun _ => ⟨s, rfl, h⟩, by rw [hr]; simp⟩
def Jop (P : Program) (n : Nat) (ops : Array Oper) (Q : Post) (S : World → Prop) (m fuel : Nat) (listed : Array Bool) (i : Nat) (s : Fm) (w : World) : Prop :=
  wpOpIn (Fw none) 0 P ops (upQ n Q) i (fun a' w' => (i = m ∨ S w') ∧ wpAnyJ P ops (upQ n Q) S m fuel (listed.setIfInBounds i true) a' w') (s.act n) w
theorem qH (i : Nat) (hr : Region.ready .any ops listed = [i]) (h : Jop P n ops Q S m fuel listed i s w) : Lj P n ops Q S m (fuel + 1) listed s w := by
 unfold Lj
 refine ⟨fun h0 => (by rw [hr] at h0; cases h0), fun j hj => ?_⟩
 rw [hr] at hj
 obtain rfl : j = i := by simpa using hj
 exact h
theorem J_op (i : Nat) {o : Oper} (hi : ops[i]? = some o)
  (h : L none P n ops (fun e s' w' => e = .normal ∧ (i = m ∨ S w') ∧ Lj P n ops Q S m fuel (listed.setIfInBounds i true) s' w') [o] s w) (hg : o.guard = none) : Jop P n ops Q S m fuel listed i s w := by
 unfold Jop wpOpIn
 rw [hi]
 rw [L_iff] at h
 unfold wpListIn at h
 have hwant : Region.wanted o (yielded ops (s.act n).tmps) = true := by rw [wanted_want, hg]; rfl
 rw [if_pos hwant] at h
 simp only [hwant, if_true]
 have key : ∀ {a w'}, wpListIn (Fw none) 0 P ops (upQ n fun e s' w' => e = .normal ∧ (i = m ∨ S w') ∧ Lj P n ops Q S m fuel (listed.setIfInBounds i true) s' w') [] a w' → ((i = m ∨ S w') ∧ wpAnyJ P ops (upQ n Q) S m fuel (listed.setIfInBounds i true) a w') := by
  rintro a w' ⟨s', rfl, _, hL⟩
  exact hL
 have h := Oper.wpIn_mono (fun a w => key) h
 unfold Oper.wpIn at h ⊢
 refine ⟨h.1, ?_⟩
 have b := h.2
 generalize (o.semAt (Fw none).round (s.act n).eval).run P w = r at b
 cases r with
 | ok x w' =>
  cases x <;> simp only [Oper.uponIn] at b ⊢ <;> first
   | exact b
   | exact ⟨b.1, CallsIn.mono b.2 (fun e w'' he => by
     cases e with
     | returned v => exact he
     | panicked c => obtain ⟨s', _, he, _⟩ := he; cases he
     | outgrown => exfalso; obtain ⟨_, _, s', _, he, _⟩ := he; cases he)⟩
   | exact ⟨b.1, RoundIn.mono b.2 (fun e w'' he => by
     cases e with
     | returned v => exact he
     | panicked c => obtain ⟨s', _, he, _⟩ := he; cases he
     | outgrown => exfalso; obtain ⟨_, _, s', _, he, _⟩ := he; cases he)⟩
 | halt x w' =>
  cases x <;> first
   | (exfalso; simp only [Oper.uponIn] at b; obtain ⟨s', _, he, _⟩ := b; cases he)
   | exact b
end
section
variable {P : Program} {n : Nat} {Q : Post} {s : Fm} {w : World} {ops : Array Oper} {S : World → Prop} {m fuel : Nat} {listed : Array Bool}
theorem jt (i : Nat) (B : List Nat) {o : Oper} (hi : ops[i]? = some o) (v : Value) (hS : S w) (hrun : RunOk P n o s S v) (h : Lj P n ops Q S m fuel (listed.setIfInBounds i true) (s.put o.dst v) w)
  (hs : Region.noSelect ops = true := by kernel_rfl) (hf : Region.free .any ops listed i = true := by kernel_rfl) (hr : (Region.ready .any ops listed).contains i = true := by kernel_rfl) (hc : noCall o.op = true := by kernel_rfl) (hw : wantB ops n s o.guard = true := by kernel_rfl) (hb : waitB ops i B = true := by kernel_rfl) (hB : freeB listed B = true := by kernel_rfl) (hm : B.contains m = true := by kernel_rfl)
  (hq : NoPanic Q := by with_reducible first | exact zU | exact noPanic_endM | exact noPanic_round) : Lj P n ops Q S m (fuel + 1) listed s w :=
 J_take i B v hi hs hf hr hc hw hb hB hm hq hS hrun h
theorem jp (i : Nat) (B : List Nat) {o : Oper} (hi : ops[i]? = some o) (v : Value) (hS : S w) (h : Lj P n ops Q S m fuel (listed.setIfInBounds i true) (s.put o.dst v) w)
  (hs : Region.noSelect ops = true := by kernel_rfl) (hf : Region.free .any ops listed i = true := by kernel_rfl) (hr : (Region.ready .any ops listed).contains i = true := by kernel_rfl) (hc : noCall o.op = true := by kernel_rfl) (hw : wantB ops n s o.guard = true := by kernel_rfl) (hb : waitB ops i B = true := by kernel_rfl) (hB : freeB listed B = true := by kernel_rfl) (hm : B.contains m = true := by kernel_rfl)
  (hq : NoPanic Q := by with_reducible first | exact zU | exact noPanic_endM | exact noPanic_round) (hrun : RunOk P n o s S v := by exact fun _ _ => by kernel_rfl) : Lj P n ops Q S m (fuel + 1) listed s w :=
 J_take i B v hi hs hf hr hc hw hb hB hm hq hS hrun h
end
attribute [irreducible] Jop Lj
end Go.FK
end

/- === Wgww === -/
section
/- Walks, written by my program walk.py out of the specification gww.py: each theorem says what one function returns and that it leaves memory as it was. -/
namespace Go.Proofs.Ythjgnnfonofgkaa
open Go Go.RowKit Go.FK
set_option maxHeartbeats 4000000
set_option maxRecDepth 100000
theorem c_whole (a : Nat) (paP paR paN : Nat → Value) (k : Nat) (few : Int) (b : Value) (ds : List (Int × Int × List UInt8 × Bool)) (c : Nat) (h : Value) (xs : List (Int × Int × List UInt8)) (w : World) (d : w.heap[a]? = some (.cells (wl paP paR paN).toArray 86 (0, 0))) (hw_p_0 : paP k = (pt c 0)) (hw_r_1 : paR k = b) (hw_n_2 : paN k = (.bool false)) (e : Rx w 0 187 4 encD b ds) (m : w.heap[c]? = some (.cells [h, (.bool true)].toArray 136 (0, 0))) (g : Rd w encSpanS h xs) (hk : k < 4) (hrel : Rel xs ds) (hln : ds.length ≤ 1073741824) :
  Calls Try.prog 43 #[(pt a 0), (N6 k), (I6 few)] w (Ret fun v w' => v = (.bool true) ∧ Below w.heap.size w w') := by
 refine wL 106 Try.func43 rfl ?_
 have r := Below.refl w.heap.size w
 have am := hrel.rise.len
 have ap := gaps_len xs
 have t := hrel.ok
 have s := hrel.rise
 have aq := vK t
 have aj := ptsF_len (strF ds)
 have al := gapF_len (strF ds)
 have ao := sizeG_le s xs.length (Nat.le_refl _)
 have af := tkF_len few (xs.map spS)
 have ag := tkF_len few ((gapsG xs).map rgS)
 rw [List.length_map] at af ag
 refine wR (zI (nR (zG (zG (zr (pt a 0) (zr (pt a 0) (yY (k := .i64) a 0 k Try.underlying80 zk (by first | exact zJ _ | omega) zk zk (yK a (0 + k * 1) (pt c 0) zk zk (zK d ((xP (by first | exact zJ _ | omega)).trans (congrArg some hw_p_0))) (zG (zc (c_told c h xs few _ m g (by exact s)) ?_))))))))))
 rintro _ w3 ⟨q1, q2, rfl, i, f, o⟩
 have i := i.base r.size
 have f := f.base r.size
 have d := zA d o
 have e := e.below o
 refine zG (zr q1 (zr q2 (zI (zI (nW (wR (zG (zG (zr (pt a 0) (zr (pt a 8) (yY (k := .i64) a 8 k Try.underlying84 zk (by first | exact zJ _ | omega) zk zk (yK a (8 + k * 1) (.bool false) zk zk (zK d ((wO (by first | exact zJ _ | omega)).trans (congrArg some hw_n_2))) (nQ (zF (zZ (zB (wR (zG (zG (zr (pt a 0) (zr (pt a 4) (yY (k := .i64) a 4 k Try.underlying83 zk (by first | exact zJ _ | omega) zk zk (yK a (4 + k * 1) b zk zk (zK d ((wl_r (by first | exact zJ _ | omega)).trans (congrArg some hw_r_1))) (zc (c_ptsF b ds _ e.rd zo (by exact t)) ?_))))))))))))))))))))))))
 rintro _ w8 ⟨q6, q7, rfl, l, n, j⟩
 have r := r.tr o
 have l := l.base r.size
 have n := n.base r.size
 have i := i.below j
 refine zG (zr q6 (zr q7 (zI (zI (nW (yV zk zk (zY (zY (zY (yR 84 [q1, q6, (I6 few)] (.bool (decide ((tkF few (xs.map spS)) = tkF few (ptsF (strF ds))))) zg (fun wq hbq => c_sameF q1 (tkF few (xs.map spS)) q6 (ptsF (strF ds)) few wq (i.rd.below hbq) (l.rd.below hbq) zo zo) (Lq_put_split (decide ((tkF few (xs.map spS)) = tkF few (ptsF (strF ds)))) ?_ ?_)))))))))))
 ·intro ai
  have f := f.below j
  refine zY (qw (zY (qw (zY (qw (zY (qw (yR 84 [q2, q7, (I6 few)] (.bool (decide ((tkF few ((gapsG xs).map rgS)) = tkF few (gapF (strF ds))))) zg (fun wq hbq => c_sameF q2 (tkF few ((gapsG xs).map rgS)) q7 (gapF (strF ds)) few wq (f.rd.below hbq) (n.rd.below hbq) zo zo) (Lq_put_split (decide ((tkF few ((gapsG xs).map rgS)) = tkF few (gapF (strF ds)))) ?_ ?_)))))))))
  ·intro ak
   have m := zA (zA m o) j
   have d := zA d j
   have g := (g.below o).below j
   refine qT (zY (qw (zY (qw (zY (qw (zV (pt a 0) zf (qw (zV (pt a 0) zf (qw (xI (k := .i64) a 0 k Try.underlying80 zk (by first | exact zJ _ | omega) zk zk (qw (zX a (0 + k * 1) (pt c 0) zk zf (zK d ((xP (by first | exact zJ _ | omega)).trans (congrArg some hw_p_0))) (qw (yR 48 [(pt c 0)] (N6 xs.length) zg (fun wq hbq => c_len_S c h xs wq (zA m hbq) (g.below hbq)) (qw (zY (qw (Lq_len 147 183 ((ptsF (strF ds))).length q6 rfl Try.underlying147 (l.rd).len zk (qw (Lq_cmp .i64 ((xs.length : Nat) : Int) ((((ptsF (strF ds))).length : Nat) : Int) (xs.length = ((ptsF (strF ds))).length) rfl (cmpN_eq xs.length (((ptsF (strF ds))).length)) zk zk ?_ ?_)))))))))))))))))))))
   ·intro ah
    replace ah : xs.length = ((ptsF (strF ds))).length := by omega
    have e := e.below j
    refine qT (zY (qw (zY (qw (zY (qw (zV (pt a 0) zf (qw (zV (pt a 0) zf (qw (xI (k := .i64) a 0 k Try.underlying80 zk (by first | exact zJ _ | omega) zk zk (qw (zX a (0 + k * 1) (pt c 0) zk zf (zK d ((xP (by first | exact zJ _ | omega)).trans (congrArg some hw_p_0))) (qw (yR 36 [(pt c 0)] (I6 (sizeG xs)) zg (fun wq hbq => c_size_S c h xs wq (zA m hbq) (g.below hbq) (by exact s)) (qw (zY (qw (zY (qw (zV (pt a 0) zf (qw (zV (pt a 4) zf (qw (xI (k := .i64) a 4 k Try.underlying83 zk (by first | exact zJ _ | omega) zk zk (qw (zX a (4 + k * 1) b zk zf (zK d ((wl_r (by first | exact zJ _ | omega)).trans (congrArg some hw_r_1))) (qw (zV (Value.agg #[(I3 0), (I3 1114111)]) zf (qw (yR 85 [b, (Value.agg #[(I3 0), (I3 1114111)])] (I6 (szF (ptsF (strF ds)) 0 1114111)) zg (fun wq hbq => c_szF b ds 0 1114111 wq (e.rd.below hbq) zo (by exact t) zo zo) (qw (Lq_cmp .i64 (sizeG xs) (szF (ptsF (strF ds)) 0 1114111) ((sizeG xs) = (szF (ptsF (strF ds)) 0 1114111)) rfl (cmp_eq (sizeG xs) (szF (ptsF (strF ds)) 0 1114111)) zk zk ?_ ?_)))))))))))))))))))))))))))))))))
    ·intro ae
     replace ae : (sizeG xs) = (szF (ptsF (strF ds)) 0 1114111) := by omega
     refine qT (xA (yM ?_))
     intro an u
     have r := (r.tr j).tr u
     exact zB (yB (yJ [(.bool true)] ⟨rfl, r⟩))
    intro z
    replace z : (sizeG xs) ≠ (szF (ptsF (strF ds)) 0 1114111) := by omega
    exfalso; exact z hrel.whole.symm
   intro y
   replace y : xs.length ≠ ((ptsF (strF ds))).length := by omega
   exfalso; exact y (by rw [hrel.pts, List.length_map])
  intro p
  exfalso; first | (rw [hrel.pts] at p; simp at p; done) | (rw [hrel.gaps] at p; simp at p; done)
 intro q
 exfalso; first | (rw [hrel.pts] at q; simp at q; done) | (rw [hrel.gaps] at q; simp at q; done)
theorem c_whole_nil (a : Nat) (paP paR paN : Nat → Value) (k : Nat) (few : Int) (w : World) (b : w.heap[a]? = some (.cells (wl paP paR paN).toArray 86 (0, 0))) (hw_p_0 : paP k = (.pointer none)) (hw_n_1 : paN k = (.bool true)) (hk : k < 4) :
  Calls Try.prog 43 #[(pt a 0), (N6 k), (I6 few)] w (Ret fun v w' => v = (.bool true) ∧ Below w.heap.size w w') := by
 refine wL 106 Try.func43 rfl ?_
 have i := Below.refl w.heap.size w
 have h : tkF few (([] : List SpT).map spS) = [] := by unfold tkF; split <;> simp
 have l : tkF few (([] : List (Int × Int)).map rgS) = [] := by unfold tkF; split <;> simp
 refine wR (zI (nR (zG (zG (zr (pt a 0) (zr (pt a 0) (yY (k := .i64) a 0 k Try.underlying80 zk (by first | exact zJ _ | omega) zk zk (yK a (0 + k * 1) (.pointer none) zk zk (zK b ((xP (by first | exact zJ _ | omega)).trans (congrArg some hw_p_0))) (zG (zc (c_told_nil few _ ) ?_))))))))))
 rintro _ s ⟨o, n, rfl, d, c, m⟩
 have d := d.base i.size
 have c := c.base i.size
 have b := zA b m
 refine zG (zr o (zr n (zI (zI (nW (wR (zG (zG (zr (pt a 0) (zr (pt a 8) (yY (k := .i64) a 8 k Try.underlying84 zk (by first | exact zJ _ | omega) zk zk (yK a (8 + k * 1) (.bool true) zk zk (zK b ((wO (by first | exact zJ _ | omega)).trans (congrArg some hw_n_1))) (nQ (zT (wR (zG (vI Try.underlying147 (d.rd).len (nEq (((tkF few (([] : List SpT).map spS))).length) 0 ?_ ?_))))))))))))))))))
 ·intro t
  refine zG (zw (zG (zw (vI Try.underlying147 (c.rd).len (zw (nEq (((tkF few (([] : List (Int × Int)).map rgS))).length) 0 ?_ ?_))))))
  ·intro q
   refine xN (zG (zw (zG (zw (zG (zw (zr (pt a 0) (zw (zr (pt a 0) (zw (yY (k := .i64) a 0 k Try.underlying80 zk (by first | exact zJ _ | omega) zk zk (zw (yK a (0 + k * 1) (.pointer none) zk zk (zK b ((xP (by first | exact zJ _ | omega)).trans (congrArg some hw_p_0))) (zw (zc (c_len_nil  _ ) ?_)))))))))))))))
   rintro _ r ⟨rfl, e⟩
   have b := zA b e
   refine zw (zr (.bool true) (xN (zG (zw (zG (zw (zG (zw (zr (pt a 0) (zw (zr (pt a 0) (zw (yY (k := .i64) a 0 k Try.underlying80 zk (by first | exact zJ _ | omega) zk zk (zw (yK a (0 + k * 1) (.pointer none) zk zk (zK b ((xP (by first | exact zJ _ | omega)).trans (congrArg some hw_p_0))) (zw (zc (c_size_nil  _ ) ?_)))))))))))))))))
   rintro _ p ⟨rfl, j⟩
   have i := ((i.tr m).tr e).tr j
   exact zw (zr (.bool true) (xN (zI (nQ (yB (zP (yJ [(.bool true)] ⟨rfl, i⟩)))))))
  intro f
  exfalso; first | exact f (by rw [h]; rfl) | exact f (by rw [l]; rfl)
 intro g
 exfalso; first | exact g (by rw [h]; rfl) | exact g (by rw [l]; rfl)
theorem c_change (m : Nat) (paP paR paN : Nat → Value) (do_ : Int) (ka : Int) (kb : Int) (kc : Int) (few : Int) (lo : Int) (hi : Int) (val : List UInt8) (ac : Value) (ds : List (Int × Int × List UInt8 × Bool)) (t : Nat) (r : Value) (xs : List (Int × Int × List UInt8)) (B_ : Nat) (w : World) (hs0 : B_ ≤ w.heap.size) (f : w.heap[m]? = some (.cells (wl paP paR paN).toArray 86 (0, 0))) (kn : B_ ≤ m) (hw_p_0 : paP (atW ka) = (pt t 0)) (hw_r_1 : paR (atW ka) = ac) (hw_n_2 : paN (atW ka) = (.bool false)) (d : Rx w 0 187 4 encD ac ds) (i : w.heap[t]? = some (.cells [r, (.bool true)].toArray 136 (0, 0))) (dp : B_ ≤ t) (b : Row w B_ 138 3 encSpanS r xs) (hrel : Rel xs ds) (hln : ds.length ≤ 1073741822) (hlo : -2147483648 ≤ lo ∧ lo ≤ 2147483647) (hhi : -2147483648 ≤ hi ∧ hi ≤ 2147483647) (hdo : 0 ≤ do_ ∧ do_ ≤ 4) (ne_w_m : NE m t) (ne_m_w : NE t m) :
  Calls Try.prog 79 #[(pt m 0), (Value.agg #[(I6 do_), (I6 ka), (I6 kb), (I6 kc), (I6 few), (I3 lo), (I3 hi), (S val)])] w (Ret fun v w' => ∃ q0 v1 : Value, v = .bool true ∧ w'.heap[m]? = some (.cells (wl paP (up paR (atW ka) v1) paN).toArray 86 (0, 0)) ∧ w'.heap[t]? = some (.cells [q0, (.bool true)].toArray 136 (0, 0)) ∧ Row w' B_ 138 3 encSpanS q0 (chgX do_ xs lo hi val) ∧ (∀ g, Value.ownBlock q0 = some g → w.heap.size ≤ g ∨ (Dw m t r) g) ∧ Rx w' 0 187 4 encD v1 (chgD do_ ds lo hi val) ∧ Ch (Dw m t r) w w') := by
 refine wL 240 Try.func79 rfl ?_
 have s := Below.refl B_ w
 have n : B_ ≤ (World.heap w).size := hs0
 have q := Ch.refl (Dw m t r) w
 have e9 : (World.heap w).size ≤ m ∨ (Dw m t r) m := .inr (.inl rfl)
 have df : (World.heap w).size ≤ t ∨ (Dw m t r) t := .inr (.inr (.inl rfl))
 have z : ∀ g, Value.ownBlock r = some g → (World.heap w).size ≤ g ∨ (Dw m t r) g := fun g h => .inr (.inr (.inr h))
 have kq := hrel.rise.len
 have cz := hrel.ok
 have bm := hrel.rise
 refine wR (zN [(I6 do_), (I6 ka), (I6 kb), (I6 kc), (I6 few), (I3 lo), (I3 hi), (S val)] 44 ?_)
 intro b1 w2 ab
 have i2 : B_ ≤ b1 := by rw [ab.num]; exact n
 have gp : (World.heap w).size ≤ b1 ∨ (Dw m t r) b1 := .inl (by rw [ab.num]; exact q.size)
 have s := s.trans (ab.below.mono n)
 replace n := Nat.le_trans n (ab.below.size)
 have l := ab.here
 refine zI (nR (wB 1 l rfl (zc (xB ka _ ) ?_)))
 replace q := q.trans2 (Ch.of_below ab.below) (fun _ h => h.elim)
 rintro _ w4 ⟨rfl, u⟩
 have s := s.trans (u.mono n)
 replace n := Nat.le_trans n (u.size)
 have f := zA (zA f ab.below) u
 have l := zA l u
 refine zI (nR (zG (zG (zr (pt m 0) (zr (pt m 4) (yY (k := .i64) m 4 (atW ka) Try.underlying83 zk (by first | exact zJ _ | omega) zk zk (yK m (4 + (atW ka) * 1) ac zk zk (zK f ((wl_r (by first | exact zJ _ | omega)).trans (congrArg some hw_r_1))) (zI (nW (wR (wB 0 l rfl (nQ (yC (yA (wR (zEq .i64 do_ 0 ?_ ?_))))))))))))))))
 ·intro h7
  refine zI (nQ (zT (zZ (zB (zT (wR (zI (nR (zI (nW (wR (wB 0 l rfl (zEq .i64 do_ 0 ?_ ?_)))))))))))))
  ·intro h8
   have d := (d.below ab.below).below u
   refine nQ (zT (wR (zG (zr (pt b1 5) (zOA 5 [(I3 lo), (I3 hi)] l (wB 7 l rfl (zc (c_putD ac ds lo hi val _ d zo (by exact cz) zo zo) ?_)))))))
   replace q := q.trans2 (Ch.of_below u) (fun _ h => h.elim)
   rintro _ kl ⟨q9, rfl, a7, da⟩
   have a7 := a7.base n
   have s := s.trans (da.mono n)
   replace n := Nat.le_trans n (da.size)
   have f := zA f da
   have l := zA l da
   refine zG (zr q9 (zr (I6 (if mayG lo hi = false then 41 else if szF (ptsF (strF ds)) lo hi > 0 then 42 else 0)) (zI (zI (nQ (W_pre 10 12 2 zk zk zk zk zk zk zk (zY (zY (zV (pt m 0) zf (zV (pt m 0) zf (xI (k := .i64) m 0 (atW ka) Try.underlying80 zk (by first | exact zJ _ | omega) zk zk (zX m (0 + (atW ka) * 1) (pt t 0) zk zf (zK f ((xP (by first | exact zJ _ | omega)).trans (congrArg some hw_p_0))) (zV (pt b1 5) zf (xU b1 5 [(I3 lo), (I3 hi)] zk zf zf (cells_at l 5 zk) (zV (pt b1 7) zf (zX b1 7 (S val) zk zf (zK l rfl) (yM ?_)))))))))))))))))
   intro k1 c9
   have s := s.trans (c9.mono n)
   replace n := Nat.le_trans n (c9.size)
   refine yF 10 zk (yL 10 rfl ?_ rfl)
   have i := zA (zA (zA (zA i ab.below) u) da) c9
   have b := (((b.below ab.below).below u).below da).below c9
   refine zc (c_put_S t r xs lo hi val B_ _ n i dp b (by exact bm) zo zo) ?_
   replace q := (q.trans2 (Ch.of_below da) (fun _ h => h.elim)).trans2 (Ch.of_below c9) (fun _ h => h.elim)
   rintro _ lm ⟨gv, rfl, gl, dk, gf, dn⟩
   have dq : ∀ g, Value.ownBlock gv = some g → (World.heap w).size ≤ g ∨ (Dw m t r) g := fun g hg => (gf g hg).elim (fun x => .inl (Nat.le_trans q.size x)) (fun x => x.elim (fun x => x ▸ df) (fun x => z g x))
   have s := dn.below s n (fun k e => e.elim (fun x => x ▸ dp) (fun x => (World.ownsRow.lt b k x).1))
   replace n := Nat.le_trans n dn.size
   have f := zA f c9
   have f := yH f dn (zH f i zi) (b.ne f zi)
   have a7 := a7.below c9
   have a7 := a7.ch_mut dn (a7.ne i zi) (a7.apart b zk)
   have i := gl
   refine zR ?_
   refine ⟨rfl, ip 11 rfl (I6 (putE xs lo hi)) (yS zk (zB (yA (wR (zG (zG (zr (pt m 0) (zr (pt m 8) (yY (k := .i64) m 8 (atW ka) Try.underlying84 zk (by first | exact zJ _ | omega) zk zk (yK m (8 + (atW ka) * 1) (.bool false) zk zk (zK f ((wO (by first | exact zJ _ | omega)).trans (congrArg some hw_n_2))) (nQ (zF (zZ (zB (wR (zG (zG (zG (zr (pt m 0) (zr (pt m 4) (yY (k := .i64) m 4 (atW ka) Try.underlying83 zk (by first | exact zJ _ | omega) zk zk (yQ m (4 + (atW ka) * 1) q9 (wl paP paR paN) _ 86 zk zk a7.one zk f (wl_lr (by first | exact zJ _ | omega)) (wl_tr _ (by first | exact zJ _ | omega)) ?_))))))))))))))))))))))⟩
   intro kr dh
   replace n := Nat.le_trans n (Nat.le_of_eq dh.size.symm)
   have i := zC i dh (zH i f zi)
   have a7 := a7.wrote dh (a7.ne f zi)
   have dk := dk.wrote dh (dk.ne f zi)
   have f := dh.here
   refine nR (zG (zG (zEq .i64 (putE xs lo hi) (if mayG lo hi = false then 41 else if szF (ptsF (strF ds)) lo hi > 0 then 42 else 0) ?_ ?_)))
   ·intro km
    refine zI (nQ (yB (yG (zP (yJ [(.bool true)] ?_)))))
    have er : (putF eqS xs lo hi val) = (chgX do_ xs lo hi val) := by exact (chgX0 zo).symm
    have ed : (if mayG lo hi = false then ds else if szF (ptsF (strF ds)) lo hi > 0 then ds else putD ds lo hi val) = (chgD do_ ds lo hi val) := by exact (chgD0 zo).symm
    replace q := (q.trans2 dn (fun k e => e.elim (fun x => x ▸ df) (fun x => z k x))).trans2 (Ch.of_wrote dh) (fun k e => e ▸ e9)
    exact ⟨_, q9, rfl, f, i, dk.cast er, dq, a7.cast ed, q⟩
   intro gw
   exfalso; exact gw (hrel.putE lo hi)
  intro gn
  exact absurd h7 gn
 intro gx
 refine zI (nQ (zF (zW (zEq .i64 do_ 1 ?_ ?_))))
 ·intro kw
  refine zI (nQ (zT (wR (zI (nR (zI (nW (wR (wB 0 l rfl (zEq .i64 do_ 0 ?_ ?_))))))))))
  ·intro g0
   exact absurd g0 gx
  intro kv
  have d := (d.below ab.below).below u
  refine nQ (zF (wR (zG (zr (pt b1 5) (zOA 5 [(I3 lo), (I3 hi)] l (wB 7 l rfl (zc (c_layD ac ds lo hi val _ d zo zo zo) ?_)))))))
  replace q := q.trans2 (Ch.of_below u) (fun _ h => h.elim)
  rintro _ ld ⟨gc, rfl, ah, dc⟩
  have ah := ah.base n
  have s := s.trans (dc.mono n)
  replace n := Nat.le_trans n (dc.size)
  have f := zA f dc
  have l := zA l dc
  refine zG (zr gc (zr (I6 (layE lo hi)) (zI (zI (nQ (W_pre 10 12 2 zk zk zk zk zk zk zk (zY (zY (zV (pt m 0) zf (zV (pt m 0) zf (xI (k := .i64) m 0 (atW ka) Try.underlying80 zk (by first | exact zJ _ | omega) zk zk (zX m (0 + (atW ka) * 1) (pt t 0) zk zf (zK f ((xP (by first | exact zJ _ | omega)).trans (congrArg some hw_p_0))) (zV (pt b1 5) zf (xU b1 5 [(I3 lo), (I3 hi)] zk zf zf (cells_at l 5 zk) (zV (pt b1 7) zf (zX b1 7 (S val) zk zf (zK l rfl) (yM ?_)))))))))))))))))
  intro ll db
  have s := s.trans (db.mono n)
  replace n := Nat.le_trans n (db.size)
  refine yF 10 zk (yL 10 rfl ?_ rfl)
  have i := zA (zA (zA (zA i ab.below) u) dc) db
  have b := (((b.below ab.below).below u).below dc).below db
  refine zc (qY t r xs lo hi val B_ _ n i dp b (by exact bm) zo zo) ?_
  replace q := (q.trans2 (Ch.of_below dc) (fun _ h => h.elim)).trans2 (Ch.of_below db) (fun _ h => h.elim)
  rintro _ k0 ⟨gs, rfl, gh, dl, gi, dm⟩
  have dr : ∀ g, Value.ownBlock gs = some g → (World.heap w).size ≤ g ∨ (Dw m t r) g := fun g hg => (gi g hg).elim (fun x => .inl (Nat.le_trans q.size x)) (fun x => x.elim (fun x => x ▸ df) (fun x => z g x))
  have s := dm.below s n (fun k e => e.elim (fun x => x ▸ dp) (fun x => (World.ownsRow.lt b k x).1))
  replace n := Nat.le_trans n dm.size
  have f := zA f db
  have f := yH f dm (zH f i zi) (b.ne f zi)
  have ah := ah.below db
  have ah := ah.ch_mut dm (ah.ne i zi) (ah.apart b zk)
  have i := gh
  refine zR ?_
  refine ⟨rfl, ip 11 rfl (I6 (layE lo hi)) (yS zk (zB (yA (wR (zG (zG (zr (pt m 0) (zr (pt m 8) (yY (k := .i64) m 8 (atW ka) Try.underlying84 zk (by first | exact zJ _ | omega) zk zk (yK m (8 + (atW ka) * 1) (.bool false) zk zk (zK f ((wO (by first | exact zJ _ | omega)).trans (congrArg some hw_n_2))) (nQ (zF (zZ (zB (wR (zG (zG (zG (zr (pt m 0) (zr (pt m 4) (yY (k := .i64) m 4 (atW ka) Try.underlying83 zk (by first | exact zJ _ | omega) zk zk (yQ m (4 + (atW ka) * 1) gc (wl paP paR paN) _ 86 zk zk ah.one zk f (wl_lr (by first | exact zJ _ | omega)) (wl_tr _ (by first | exact zJ _ | omega)) ?_))))))))))))))))))))))⟩
  intro kt di
  replace n := Nat.le_trans n (Nat.le_of_eq di.size.symm)
  have i := zC i di (zH i f zi)
  have ah := ah.wrote di (ah.ne f zi)
  have dl := dl.wrote di (dl.ne f zi)
  have f := di.here
  refine nR (zG (zG (zEq .i64 (layE lo hi) (layE lo hi) ?_ ?_)))
  ·intro k6
   refine zI (nQ (yB (yG (zP (yJ [(.bool true)] ?_)))))
   have er : (layF eqS xs lo hi val) = (chgX do_ xs lo hi val) := by exact (chgX1 zo).symm
   have ed : (if mayG lo hi = false then ds else putD ds lo hi val) = (chgD do_ ds lo hi val) := by exact (chgD1 zo).symm
   replace q := (q.trans2 dm (fun k e => e.elim (fun x => x ▸ df) (fun x => z k x))).trans2 (Ch.of_wrote di) (fun k e => e ▸ e9)
   exact ⟨_, gc, rfl, f, i, dl.cast er, dr, ah.cast ed, q⟩
  intro gu
  exact (gu rfl).elim
 intro lh
 refine zI (nQ (zF (wR (zEq .i64 do_ 2 ?_ ?_))))
 ·intro k2
  refine zI (nQ (zT (yA (W_pre 8 14 6 zk zk zk zk zk zk zk (zY (zY (zV (pt m 0) zf (zV (pt m 0) zf (xI (k := .i64) m 0 (atW ka) Try.underlying80 zk (by first | exact zJ _ | omega) zk zk (zX m (0 + (atW ka) * 1) (pt t 0) zk zf (zK f ((xP (by first | exact zJ _ | omega)).trans (congrArg some hw_p_0))) (zV (pt b1 5) zf (xU b1 5 [(I3 lo), (I3 hi)] zk zf zf (cells_at l 5 zk) (yM ?_)))))))))))))
  intro lg c4
  have s := s.trans (c4.mono n)
  replace n := Nat.le_trans n (c4.size)
  refine yF 8 zk (yL 8 rfl ?_ rfl)
  have i := zA (zA (zA i ab.below) u) c4
  have b := ((b.below ab.below).below u).below c4
  refine zc (c_cut_S t r xs lo hi B_ _ n i dp b (by exact bm) zo zo) ?_
  replace q := (q.trans2 (Ch.of_below u) (fun _ h => h.elim)).trans2 (Ch.of_below c4) (fun _ h => h.elim)
  rintro _ ln ⟨gr, rfl, gk, c3, gj, dg⟩
  have dt : ∀ g, Value.ownBlock gr = some g → (World.heap w).size ≤ g ∨ (Dw m t r) g := fun g hg => (gj g hg).elim (fun x => .inl (Nat.le_trans q.size x)) (fun x => x.elim (fun x => x ▸ df) (fun x => z g x))
  have s := dg.below s n (fun k e => e.elim (fun x => x ▸ dp) (fun x => (World.ownsRow.lt b k x).1))
  replace n := Nat.le_trans n dg.size
  have f := zA f c4
  have f := yH f dg (zH f i zi) (b.ne f zi)
  have l := zA l c4
  have l := yH l dg (zH l i zi) (b.ne l zi)
  have d := ((d.below ab.below).below u).below c4
  have d := d.ch_mut dg (d.ne i zi) (d.apart b zk)
  have i := gk
  refine zR ?_
  refine ⟨rfl, ip 9 rfl (.tuple #[(I6 (cutN xs lo hi)), (I6 (layE lo hi))]) (ip 10 rfl (I6 (cutN xs lo hi)) (ip 11 rfl (I6 (layE lo hi)) (ip 12 rfl (I6 (cutN xs lo hi)) (ip 13 rfl (I6 (layE lo hi)) (yS zk (zB (wR (zG (zr (pt b1 5) (zOA 5 [(I3 lo), (I3 hi)] l (zc (c_cutD ac ds lo hi _ d zo (by exact cz) zo zo) ?_)))))))))))⟩
  rintro _ kx ⟨f6, rfl, c1, dj⟩
  have c1 := c1.base n
  have s := s.trans (dj.mono n)
  replace n := Nat.le_trans n (dj.size)
  have f := zA f dj
  refine zG (zr f6 (zr (I6 (if mayG lo hi = false then 0 else szF (ptsF (strF ds)) lo hi)) (zr (I6 (layE lo hi)) (zI (zI (zI (nW (wR (zG (zG (zr (pt m 0) (zr (pt m 8) (yY (k := .i64) m 8 (atW ka) Try.underlying84 zk (by first | exact zJ _ | omega) zk zk (yK m (8 + (atW ka) * 1) (.bool false) zk zk (zK f ((wO (by first | exact zJ _ | omega)).trans (congrArg some hw_n_2))) (nQ (zF (zZ (zB (wR (zG (zG (zG (zr (pt m 0) (zr (pt m 4) (yY (k := .i64) m 4 (atW ka) Try.underlying83 zk (by first | exact zJ _ | omega) zk zk (yQ m (4 + (atW ka) * 1) f6 (wl paP paR paN) _ 86 zk zk c1.one zk f (wl_lr (by first | exact zJ _ | omega)) (wl_tr _ (by first | exact zJ _ | omega)) ?_))))))))))))))))))))))))))
  intro la de
  replace n := Nat.le_trans n (Nat.le_of_eq de.size.symm)
  have i := zA i dj
  have i := zC i de (zH i f zi)
  have c3 := c3.below dj
  have c3 := c3.wrote de (c3.ne f zi)
  have c1 := c1.wrote de (c1.ne f zi)
  have f := de.here
  refine nR (zG (zG (zEq .i64 (cutN xs lo hi) (if mayG lo hi = false then 0 else szF (ptsF (strF ds)) lo hi) ?_ ?_)))
  ·intro kk
   refine zG (zw (zG (zw (zG (zw (zEq .i64 (layE lo hi) (layE lo hi) ?_ ?_))))))
   ·intro k8
    refine xN (zI (nQ (yB (yG (zP (yJ [(.bool true)] ?_))))))
    have er : (cutM xs lo hi) = (chgX do_ xs lo hi val) := by exact (chgX2 zo).symm
    have ed : (if mayG lo hi = false then ds else cutD ds lo hi) = (chgD do_ ds lo hi val) := by exact (chgD2 zo).symm
    replace q := ((q.trans2 dg (fun k e => e.elim (fun x => x ▸ df) (fun x => z k x))).trans2 (Ch.of_below dj) (fun _ h => h.elim)).trans2 (Ch.of_wrote de) (fun k e => e ▸ e9)
    exact ⟨_, f6, rfl, f, i, c3.cast er, dt, c1.cast ed, q⟩
   intro gz
   exact (gz rfl).elim
  intro gy
  exfalso; exact gy (hrel.cutE lo hi)
 intro k7
 refine zI (nQ (zF (wR (zEq .i64 do_ 3 ?_ ?_))))
 ·intro k9
  have i := zA (zA i ab.below) u
  have b := (b.below ab.below).below u
  refine zI (nQ (zT (yA (yV zk zk (zY (zY (zV (pt m 0) zf (zV (pt m 0) zf (xI (k := .i64) m 0 (atW ka) Try.underlying80 zk (by first | exact zJ _ | omega) zk zk (zX m (0 + (atW ka) * 1) (pt t 0) zk zf (zK f ((xP (by first | exact zJ _ | omega)).trans (congrArg some hw_p_0))) (zV (pt b1 5) zf (zV (pt b1 5) zf (zX b1 5 (I3 lo) zk zf (zK l rfl) (yR 46 [(pt t 0), (I3 lo)] (.tuple #[(S ((atM ([] : List UInt8) xs lo).1)), (.bool ((atM ([] : List UInt8) xs lo).2))]) zg (fun wq hbq => c_at_S t r xs lo wq (zA i hbq) (b.rd.below hbq) (by exact bm)) (zY (zV (S ((atM ([] : List UInt8) xs lo).1)) zf (zV (.bool ((atM ([] : List UInt8) xs lo).2)) zf (xA (xA (yM ?_))))))))))))))))))))
  intro li c7
  have s := s.trans (c7.mono n)
  replace n := Nat.le_trans n (c7.size)
  have f := zA f c7
  have l := zA l c7
  have d := ((d.below ab.below).below u).below c7
  refine zB (yA (wR (zG (zG (zr (pt m 0) (zr (pt m 8) (yY (k := .i64) m 8 (atW ka) Try.underlying84 zk (by first | exact zJ _ | omega) zk zk (yK m (8 + (atW ka) * 1) (.bool false) zk zk (zK f ((wO (by first | exact zJ _ | omega)).trans (congrArg some hw_n_2))) (nQ (zF (zZ (zB (wR (zG (zr (pt b1 5) (wB 5 l rfl (zc (c_atD ac ds lo _ d.rd zo) ?_)))))))))))))))))
  replace q := (q.trans2 (Ch.of_below u) (fun _ h => h.elim)).trans2 (Ch.of_below c7) (fun _ h => h.elim)
  rintro _ k3 ⟨rfl, dd⟩
  have s := s.trans (dd.mono n)
  replace n := Nat.le_trans n (dd.size)
  refine zG (zr (S ((atD ds lo).1)) (zr (.bool ((atD ds lo).2)) (zI (zI (nR (zG (zG (vC ((atM ([] : List UInt8) xs lo).1) ((atD ds lo).1) rfl zk zk ?_ ?_))))))))
  ·intro lj
   refine zG (zw (zG (zw (zG (zw (L_bEq ((atM ([] : List UInt8) xs lo).2) ((atD ds lo).2) zk zk (fun c e => by cases c <;> cases e <;> kernel_rfl) ?_ ?_))))))
   ·intro ky
    refine xN (zI (nQ (yB (yG (zP (yJ [(.bool true)] ?_))))))
    have er : xs = (chgX do_ xs lo hi val) := by exact (chgX3 zo).symm
    have ed : ds = (chgD do_ ds lo hi val) := by exact (chgD3 zo).symm
    replace q := q.trans2 (Ch.of_below dd) (fun _ h => h.elim)
    have i := zA (zA i c7) dd
    have f := zA f dd
    have d := d.below dd
    have b := (b.below c7).below dd
    exact ⟨_, ac, rfl, (by rw [wT hw_r_1]; exact f), i, b.cast er, z, d.cast ed, q⟩
   intro gm
   exfalso; exact gm (by rw [hrel.at])
  intro gq
  exfalso; exact gq (by rw [hrel.at])
 intro lc
 refine zI (nQ (zF (zZ (zS (zB (yA (xY 17 zk zk zk ?_)))))))
 intro lb p
 have s := s.trans (p.mono n)
 replace n := Nat.le_trans n (p.size)
 refine ip 0 rfl (pt m 0) (ip 1 rfl (N6 (atW ka)) (ip 2 rfl (pt m 0) (ip 3 rfl (pt m 0) (ip 6 rfl (pt b1 5) (I_all3 4 7 13 zk ?_ ?_ ?_)))))
 ·skip
  refine yL 4 rfl ?_ rfl
  refine yY (k := .i64) m 0 (atW ka) Try.underlying80 zk (by first | exact zJ _ | omega) zk zk (zR ?_)
  refine ⟨rfl, I_all3 5 7 13 zk ?_ ?_ ?_⟩
  ·skip
   refine yL 5 rfl ?_ rfl
   have f := zA f p
   refine yK m (0 + (atW ka) * 1) (pt t 0) zk zk (zK f ((xP (by first | exact zJ _ | omega)).trans (congrArg some hw_p_0))) (zR ?_)
   refine ⟨rfl, wM 7 13 zk ?_ ?_⟩
   ·skip
    refine yL 7 rfl ?_ rfl
    have l := zA l p
    refine zOA 5 [(I3 lo), (I3 hi)] l (zR ?_)
    refine ⟨rfl, wM 8 13 zk ?_ ?_⟩
    ·skip
     refine yL 8 rfl ?_ rfl
     have i := zA (zA (zA i ab.below) u) p
     have b := ((b.below ab.below).below u).below p
     refine zc (xW t r xs lo hi _ i b.rd (by exact bm) zo) ?_
     replace q := (q.trans2 (Ch.of_below u) (fun _ h => h.elim)).trans2 (Ch.of_below p) (fun _ h => h.elim)
     rintro _ ko ⟨rfl, c8⟩
     have s := s.trans (c8.mono n)
     replace n := Nat.le_trans n (c8.size)
     refine zR ?_
     refine ⟨rfl, ip 9 rfl (.tuple #[(Value.agg #[(I3 ((metV ([] : List UInt8) (metG xs lo hi)).1)), (I3 ((metV ([] : List UInt8) (metG xs lo hi)).2.1))]), (S ((metV ([] : List UInt8) (metG xs lo hi)).2.2.1)), (.bool ((metV ([] : List UInt8) (metG xs lo hi)).2.2.2))]) (ip 10 rfl (Value.agg #[(I3 ((metV ([] : List UInt8) (metG xs lo hi)).1)), (I3 ((metV ([] : List UInt8) (metG xs lo hi)).2.1))]) (ip 11 rfl (S ((metV ([] : List UInt8) (metG xs lo hi)).2.2.1)) (ip 12 rfl (.bool ((metV ([] : List UInt8) (metG xs lo hi)).2.2.2)) (yF 13 zk (yL 13 rfl ?_ rfl)))))⟩
     refine zN [(I3 0), (I3 0)] 29 ?_
     intro gd k4 b9
     have ad : B_ ≤ gd := by rw [b9.num]; exact n
     replace q := q.trans2 (Ch.of_below c8) (fun _ h => h.elim)
     have aa : (World.heap w).size ≤ gd ∨ (Dw m t r) gd := .inl (by rw [b9.num]; exact q.size)
     have s := s.trans (b9.below.mono n)
     replace n := Nat.le_trans n (b9.below.size)
     have a := b9.here
     refine zR ?_
     refine ⟨rfl, yF 14 zk (yL 14 rfl ?_ rfl)⟩
     refine qC [(I3 ((metV ([] : List UInt8) (metG xs lo hi)).1)), (I3 ((metV ([] : List UInt8) (metG xs lo hi)).2.1))] a ?_
     intro ku c2
     replace n := Nat.le_trans n (Nat.le_of_eq c2.size.symm)
     have f := zA (zA f c8) b9.below
     have f := zC f c2 (zH f a zi)
     have i := zA (zA i c8) b9.below
     have i := zC i c2 (zH i a zi)
     have l := zA (zA l c8) b9.below
     have l := zC l c2 (zH l a zi)
     have d := ((((d.below ab.below).below u).below p).below c8).below b9.below
     have d := d.wrote c2 (d.ne a zi)
     have b := (b.below c8).below b9.below
     have b := b.wrote c2 (b.ne a zi)
     have a := c2.here
     refine zR ?_
     refine ⟨rfl, ip 15 rfl (S ((metV ([] : List UInt8) (metG xs lo hi)).2.2.1)) (ip 16 rfl (.bool ((metV ([] : List UInt8) (metG xs lo hi)).2.2.2)) (yS zk (zB (yA (wR (zG (zG (zr (pt m 0) (zr (pt m 8) (yY (k := .i64) m 8 (atW ka) Try.underlying84 zk (by first | exact zJ _ | omega) zk zk (yK m (8 + (atW ka) * 1) (.bool false) zk zk (zK f ((wO (by first | exact zJ _ | omega)).trans (congrArg some hw_n_2))) (nQ (zF (zZ (zB (wR (zG (zr (pt b1 5) (zOA 5 [(I3 lo), (I3 hi)] l (zc (wK ac ds lo hi _ d.rd zo (by exact cz) zo zo) ?_))))))))))))))))))))⟩
     replace q := (q.trans2 (Ch.of_below b9.below) (fun _ h => h.elim)).trans2 (Ch.of_wrote c2) (fun k e => e ▸ aa)
     rintro _ ks ⟨rfl, c6⟩
     have s := s.trans (c2.below ad)
     have s := s.trans (c6.mono n)
     replace n := Nat.le_trans n (c6.size)
     refine zG (zr (Value.agg #[(I3 ((meetsD ds lo hi).1)), (I3 ((meetsD ds lo hi).2.1))]) (zr (S ((meetsD ds lo hi).2.2.1)) (zr (.bool ((meetsD ds lo hi).2.2.2)) (zN [(I3 0), (I3 0)] 29 ?_))))
     intro f9 k5 b0
     have a := zA a c6
     have o := qB (yD a) b0
     have ag : B_ ≤ f9 := by rw [b0.num]; exact n
     replace q := q.trans2 (Ch.of_below c6) (fun _ h => h.elim)
     have y : (World.heap w).size ≤ f9 ∨ (Dw m t r) f9 := .inl (by rw [b0.num]; exact q.size)
     have s := s.trans (b0.below.mono n)
     replace n := Nat.le_trans n (b0.below.size)
     have j := b0.here
     refine qC [(I3 ((meetsD ds lo hi).1)), (I3 ((meetsD ds lo hi).2.1))] j ?_
     intro lk c5
     replace n := Nat.le_trans n (Nat.le_of_eq c5.size.symm)
     have f := zA (zA f c6) b0.below
     have f := zC f c5 (zH f j zi)
     have i := zA (zA i c6) b0.below
     have i := zC i c5 (zH i j zi)
     have d := (d.below c6).below b0.below
     have d := d.wrote c5 (d.ne j zi)
     have b := (b.below c6).below b0.below
     have b := b.wrote c5 (b.ne j zi)
     have j := c5.here
     have a := zC (zA a b0.below) c5 o
     refine zI (zI (nR (wG a (wG j (xE [(I3 ((metV ([] : List UInt8) (metG xs lo hi)).1)), (I3 ((metV ([] : List UInt8) (metG xs lo hi)).2.1))] [(I3 ((meetsD ds lo hi).1)), (I3 ((meetsD ds lo hi).2.1))] (((metV ([] : List UInt8) (metG xs lo hi)).1) == ((meetsD ds lo hi).1) && ((metV ([] : List UInt8) (metG xs lo hi)).2.1) == ((meetsD ds lo hi).2.1)) zk zk zk (xF ((metV ([] : List UInt8) (metG xs lo hi)).1) ((metV ([] : List UInt8) (metG xs lo hi)).2.1) ((meetsD ds lo hi).1) ((meetsD ds lo hi).2.1)) ?_ ?_)))))
     ·intro gg
      replace gg : ((metV ([] : List UInt8) (metG xs lo hi)).1) = ((meetsD ds lo hi).1) ∧ ((metV ([] : List UInt8) (metG xs lo hi)).2.1) = ((meetsD ds lo hi).2.1) := by simpa using gg
      refine zG (zw (zG (zw (zG (zw (vC ((metV ([] : List UInt8) (metG xs lo hi)).2.2.1) ((meetsD ds lo hi).2.2.1) rfl zk zk ?_ ?_))))))
      ·intro lf
       refine xN (zG (zw (zG (zw (zG (zw (L_bEq ((metV ([] : List UInt8) (metG xs lo hi)).2.2.2) ((meetsD ds lo hi).2.2.2) zk zk (fun c e => by cases c <;> cases e <;> kernel_rfl) ?_ ?_)))))))
       ·intro kz
        refine xN (zI (nQ (yB (yJ [(.bool true)] ?_))))
        have er : xs = (chgX do_ xs lo hi val) := by exact (chgX3 zo).symm
        have ed : ds = (chgD do_ ds lo hi val) := by exact (chgD3 zo).symm
        replace q := (q.trans2 (Ch.of_below b0.below) (fun _ h => h.elim)).trans2 (Ch.of_wrote c5) (fun k e => e ▸ y)
        exact ⟨_, ac, rfl, (by rw [wT hw_r_1]; exact f), i, b.cast er, z, d.cast ed, q⟩
       intro gb
       exfalso; first | exact gb (by rw [hrel.meets]) | (rw [hrel.meets] at gb; simp at gb; done)
      intro f8
      exfalso; first | exact f8 (by rw [hrel.meets]) | (rw [hrel.meets] at f8; simp at f8; done)
     intro ga
     exfalso; first | exact ga (by rw [hrel.meets]) | (rw [hrel.meets] at ga; simp at ga; done)
    skip
    refine yL 13 rfl ?_ rfl
    refine zN [(I3 0), (I3 0)] 29 ?_
    intro f7 g9 a5
    have ad : B_ ≤ f7 := by rw [a5.num]; exact n
    replace q := (q.trans2 (Ch.of_below u) (fun _ h => h.elim)).trans2 (Ch.of_below p) (fun _ h => h.elim)
    have aa : (World.heap w).size ≤ f7 ∨ (Dw m t r) f7 := .inl (by rw [a5.num]; exact q.size)
    have s := s.trans (a5.below.mono n)
    replace n := Nat.le_trans n (a5.below.size)
    have a := a5.here
    refine zR ?_
    refine ⟨rfl, yF 8 zk (yL 8 rfl ?_ rfl)⟩
    have i := zA (zA (zA (zA i ab.below) u) p) a5.below
    have b := (((b.below ab.below).below u).below p).below a5.below
    refine zc (xW t r xs lo hi _ i b.rd (by exact bm) zo) ?_
    replace q := q.trans2 (Ch.of_below a5.below) (fun _ h => h.elim)
    rintro _ jc ⟨rfl, bh⟩
    have s := s.trans (bh.mono n)
    replace n := Nat.le_trans n (bh.size)
    refine zR ?_
    refine ⟨rfl, ip 9 rfl (.tuple #[(Value.agg #[(I3 ((metV ([] : List UInt8) (metG xs lo hi)).1)), (I3 ((metV ([] : List UInt8) (metG xs lo hi)).2.1))]), (S ((metV ([] : List UInt8) (metG xs lo hi)).2.2.1)), (.bool ((metV ([] : List UInt8) (metG xs lo hi)).2.2.2))]) (ip 10 rfl (Value.agg #[(I3 ((metV ([] : List UInt8) (metG xs lo hi)).1)), (I3 ((metV ([] : List UInt8) (metG xs lo hi)).2.1))]) (ip 11 rfl (S ((metV ([] : List UInt8) (metG xs lo hi)).2.2.1)) (ip 12 rfl (.bool ((metV ([] : List UInt8) (metG xs lo hi)).2.2.2)) (yF 14 zk (yL 14 rfl ?_ rfl)))))⟩
    have a := zA a bh
    refine qC [(I3 ((metV ([] : List UInt8) (metG xs lo hi)).1)), (I3 ((metV ([] : List UInt8) (metG xs lo hi)).2.1))] a ?_
    intro kh bn
    replace n := Nat.le_trans n (Nat.le_of_eq bn.size.symm)
    have f := zA (zA f a5.below) bh
    have f := zC f bn (zH f a zi)
    have i := zA i bh
    have i := zC i bn (zH i a zi)
    have l := zA (zA l a5.below) bh
    have l := zC l bn (zH l a zi)
    have d := ((((d.below ab.below).below u).below p).below a5.below).below bh
    have d := d.wrote bn (d.ne a zi)
    have b := b.below bh
    have b := b.wrote bn (b.ne a zi)
    have a := bn.here
    refine zR ?_
    refine ⟨rfl, ip 15 rfl (S ((metV ([] : List UInt8) (metG xs lo hi)).2.2.1)) (ip 16 rfl (.bool ((metV ([] : List UInt8) (metG xs lo hi)).2.2.2)) (yS zk (zB (yA (wR (zG (zG (zr (pt m 0) (zr (pt m 8) (yY (k := .i64) m 8 (atW ka) Try.underlying84 zk (by first | exact zJ _ | omega) zk zk (yK m (8 + (atW ka) * 1) (.bool false) zk zk (zK f ((wO (by first | exact zJ _ | omega)).trans (congrArg some hw_n_2))) (nQ (zF (zZ (zB (wR (zG (zr (pt b1 5) (zOA 5 [(I3 lo), (I3 hi)] l (zc (wK ac ds lo hi _ d.rd zo (by exact cz) zo zo) ?_))))))))))))))))))))⟩
    replace q := (q.trans2 (Ch.of_below bh) (fun _ h => h.elim)).trans2 (Ch.of_wrote bn) (fun k e => e ▸ aa)
    rintro _ hm ⟨rfl, cj⟩
    have s := s.trans (bn.below ad)
    have s := s.trans (cj.mono n)
    replace n := Nat.le_trans n (cj.size)
    refine zG (zr (Value.agg #[(I3 ((meetsD ds lo hi).1)), (I3 ((meetsD ds lo hi).2.1))]) (zr (S ((meetsD ds lo hi).2.2.1)) (zr (.bool ((meetsD ds lo hi).2.2.2)) (zN [(I3 0), (I3 0)] 29 ?_))))
    intro el ih aj
    have a := zA a cj
    have o := qB (yD a) aj
    have ag : B_ ≤ el := by rw [aj.num]; exact n
    replace q := q.trans2 (Ch.of_below cj) (fun _ h => h.elim)
    have y : (World.heap w).size ≤ el ∨ (Dw m t r) el := .inl (by rw [aj.num]; exact q.size)
    have s := s.trans (aj.below.mono n)
    replace n := Nat.le_trans n (aj.below.size)
    have j := aj.here
    refine qC [(I3 ((meetsD ds lo hi).1)), (I3 ((meetsD ds lo hi).2.1))] j ?_
    intro hw b8
    replace n := Nat.le_trans n (Nat.le_of_eq b8.size.symm)
    have f := zA (zA f cj) aj.below
    have f := zC f b8 (zH f j zi)
    have i := zA (zA i cj) aj.below
    have i := zC i b8 (zH i j zi)
    have d := (d.below cj).below aj.below
    have d := d.wrote b8 (d.ne j zi)
    have b := (b.below cj).below aj.below
    have b := b.wrote b8 (b.ne j zi)
    have j := b8.here
    have a := zC (zA a aj.below) b8 o
    refine zI (zI (nR (wG a (wG j (xE [(I3 ((metV ([] : List UInt8) (metG xs lo hi)).1)), (I3 ((metV ([] : List UInt8) (metG xs lo hi)).2.1))] [(I3 ((meetsD ds lo hi).1)), (I3 ((meetsD ds lo hi).2.1))] (((metV ([] : List UInt8) (metG xs lo hi)).1) == ((meetsD ds lo hi).1) && ((metV ([] : List UInt8) (metG xs lo hi)).2.1) == ((meetsD ds lo hi).2.1)) zk zk zk (xF ((metV ([] : List UInt8) (metG xs lo hi)).1) ((metV ([] : List UInt8) (metG xs lo hi)).2.1) ((meetsD ds lo hi).1) ((meetsD ds lo hi).2.1)) ?_ ?_)))))
    ·intro f5
     replace f5 : ((metV ([] : List UInt8) (metG xs lo hi)).1) = ((meetsD ds lo hi).1) ∧ ((metV ([] : List UInt8) (metG xs lo hi)).2.1) = ((meetsD ds lo hi).2.1) := by simpa using f5
     refine zG (zw (zG (zw (zG (zw (vC ((metV ([] : List UInt8) (metG xs lo hi)).2.2.1) ((meetsD ds lo hi).2.2.1) rfl zk zk ?_ ?_))))))
     ·intro ik
      refine xN (zG (zw (zG (zw (zG (zw (L_bEq ((metV ([] : List UInt8) (metG xs lo hi)).2.2.2) ((meetsD ds lo hi).2.2.2) zk zk (fun c e => by cases c <;> cases e <;> kernel_rfl) ?_ ?_)))))))
      ·intro g2
       refine xN (zI (nQ (yB (yJ [(.bool true)] ?_))))
       have er : xs = (chgX do_ xs lo hi val) := by exact (chgX3 zo).symm
       have ed : ds = (chgD do_ ds lo hi val) := by exact (chgD3 zo).symm
       replace q := (q.trans2 (Ch.of_below aj.below) (fun _ h => h.elim)).trans2 (Ch.of_wrote b8) (fun k e => e ▸ y)
       exact ⟨_, ac, rfl, (by rw [wT hw_r_1]; exact f), i, b.cast er, z, d.cast ed, q⟩
      intro ec
      exfalso; first | exact ec (by rw [hrel.meets]) | (rw [hrel.meets] at ec; simp at ec; done)
     intro d8
     exfalso; first | exact d8 (by rw [hrel.meets]) | (rw [hrel.meets] at d8; simp at d8; done)
    intro ef
    exfalso; first | exact ef (by rw [hrel.meets]) | (rw [hrel.meets] at ef; simp at ef; done)
   skip
   refine yL 13 rfl ?_ rfl
   refine zN [(I3 0), (I3 0)] 29 ?_
   intro dv hl a3
   have ad : B_ ≤ dv := by rw [a3.num]; exact n
   replace q := (q.trans2 (Ch.of_below u) (fun _ h => h.elim)).trans2 (Ch.of_below p) (fun _ h => h.elim)
   have aa : (World.heap w).size ≤ dv ∨ (Dw m t r) dv := .inl (by rw [a3.num]; exact q.size)
   have s := s.trans (a3.below.mono n)
   replace n := Nat.le_trans n (a3.below.size)
   have a := a3.here
   refine zR ?_
   refine ⟨rfl, yF 7 zk (yL 7 rfl ?_ rfl)⟩
   have l := zA (zA l p) a3.below
   refine zOA 5 [(I3 lo), (I3 hi)] l (zR ?_)
   refine ⟨rfl, yF 8 zk (yL 8 rfl ?_ rfl)⟩
   have i := zA (zA (zA (zA i ab.below) u) p) a3.below
   have b := (((b.below ab.below).below u).below p).below a3.below
   refine zc (xW t r xs lo hi _ i b.rd (by exact bm) zo) ?_
   replace q := q.trans2 (Ch.of_below a3.below) (fun _ h => h.elim)
   rintro _ kg ⟨rfl, a8⟩
   have s := s.trans (a8.mono n)
   replace n := Nat.le_trans n (a8.size)
   refine zR ?_
   refine ⟨rfl, ip 9 rfl (.tuple #[(Value.agg #[(I3 ((metV ([] : List UInt8) (metG xs lo hi)).1)), (I3 ((metV ([] : List UInt8) (metG xs lo hi)).2.1))]), (S ((metV ([] : List UInt8) (metG xs lo hi)).2.2.1)), (.bool ((metV ([] : List UInt8) (metG xs lo hi)).2.2.2))]) (ip 10 rfl (Value.agg #[(I3 ((metV ([] : List UInt8) (metG xs lo hi)).1)), (I3 ((metV ([] : List UInt8) (metG xs lo hi)).2.1))]) (ip 11 rfl (S ((metV ([] : List UInt8) (metG xs lo hi)).2.2.1)) (ip 12 rfl (.bool ((metV ([] : List UInt8) (metG xs lo hi)).2.2.2)) (yF 14 zk (yL 14 rfl ?_ rfl)))))⟩
   have a := zA a a8
   refine qC [(I3 ((metV ([] : List UInt8) (metG xs lo hi)).1)), (I3 ((metV ([] : List UInt8) (metG xs lo hi)).2.1))] a ?_
   intro ki bu
   replace n := Nat.le_trans n (Nat.le_of_eq bu.size.symm)
   have f := zA (zA f a3.below) a8
   have f := zC f bu (zH f a zi)
   have i := zA i a8
   have i := zC i bu (zH i a zi)
   have l := zA l a8
   have l := zC l bu (zH l a zi)
   have d := ((((d.below ab.below).below u).below p).below a3.below).below a8
   have d := d.wrote bu (d.ne a zi)
   have b := b.below a8
   have b := b.wrote bu (b.ne a zi)
   have a := bu.here
   refine zR ?_
   refine ⟨rfl, ip 15 rfl (S ((metV ([] : List UInt8) (metG xs lo hi)).2.2.1)) (ip 16 rfl (.bool ((metV ([] : List UInt8) (metG xs lo hi)).2.2.2)) (yS zk (zB (yA (wR (zG (zG (zr (pt m 0) (zr (pt m 8) (yY (k := .i64) m 8 (atW ka) Try.underlying84 zk (by first | exact zJ _ | omega) zk zk (yK m (8 + (atW ka) * 1) (.bool false) zk zk (zK f ((wO (by first | exact zJ _ | omega)).trans (congrArg some hw_n_2))) (nQ (zF (zZ (zB (wR (zG (zr (pt b1 5) (zOA 5 [(I3 lo), (I3 hi)] l (zc (wK ac ds lo hi _ d.rd zo (by exact cz) zo zo) ?_))))))))))))))))))))⟩
   replace q := (q.trans2 (Ch.of_below a8) (fun _ h => h.elim)).trans2 (Ch.of_wrote bu) (fun k e => e ▸ aa)
   rintro _ i0 ⟨rfl, cc⟩
   have s := s.trans (bu.below ad)
   have s := s.trans (cc.mono n)
   replace n := Nat.le_trans n (cc.size)
   refine zG (zr (Value.agg #[(I3 ((meetsD ds lo hi).1)), (I3 ((meetsD ds lo hi).2.1))]) (zr (S ((meetsD ds lo hi).2.2.1)) (zr (.bool ((meetsD ds lo hi).2.2.2)) (zN [(I3 0), (I3 0)] 29 ?_))))
   intro ey ig ai
   have a := zA a cc
   have o := qB (yD a) ai
   have ag : B_ ≤ ey := by rw [ai.num]; exact n
   replace q := q.trans2 (Ch.of_below cc) (fun _ h => h.elim)
   have y : (World.heap w).size ≤ ey ∨ (Dw m t r) ey := .inl (by rw [ai.num]; exact q.size)
   have s := s.trans (ai.below.mono n)
   replace n := Nat.le_trans n (ai.below.size)
   have j := ai.here
   refine qC [(I3 ((meetsD ds lo hi).1)), (I3 ((meetsD ds lo hi).2.1))] j ?_
   intro i1 b5
   replace n := Nat.le_trans n (Nat.le_of_eq b5.size.symm)
   have f := zA (zA f cc) ai.below
   have f := zC f b5 (zH f j zi)
   have i := zA (zA i cc) ai.below
   have i := zC i b5 (zH i j zi)
   have d := (d.below cc).below ai.below
   have d := d.wrote b5 (d.ne j zi)
   have b := (b.below cc).below ai.below
   have b := b.wrote b5 (b.ne j zi)
   have j := b5.here
   have a := zC (zA a ai.below) b5 o
   refine zI (zI (nR (wG a (wG j (xE [(I3 ((metV ([] : List UInt8) (metG xs lo hi)).1)), (I3 ((metV ([] : List UInt8) (metG xs lo hi)).2.1))] [(I3 ((meetsD ds lo hi).1)), (I3 ((meetsD ds lo hi).2.1))] (((metV ([] : List UInt8) (metG xs lo hi)).1) == ((meetsD ds lo hi).1) && ((metV ([] : List UInt8) (metG xs lo hi)).2.1) == ((meetsD ds lo hi).2.1)) zk zk zk (xF ((metV ([] : List UInt8) (metG xs lo hi)).1) ((metV ([] : List UInt8) (metG xs lo hi)).2.1) ((meetsD ds lo hi).1) ((meetsD ds lo hi).2.1)) ?_ ?_)))))
   ·intro ft
    replace ft : ((metV ([] : List UInt8) (metG xs lo hi)).1) = ((meetsD ds lo hi).1) ∧ ((metV ([] : List UInt8) (metG xs lo hi)).2.1) = ((meetsD ds lo hi).2.1) := by simpa using ft
    refine zG (zw (zG (zw (zG (zw (vC ((metV ([] : List UInt8) (metG xs lo hi)).2.2.1) ((meetsD ds lo hi).2.2.1) rfl zk zk ?_ ?_))))))
    ·intro hk
     refine xN (zG (zw (zG (zw (zG (zw (L_bEq ((metV ([] : List UInt8) (metG xs lo hi)).2.2.2) ((meetsD ds lo hi).2.2.2) zk zk (fun c e => by cases c <;> cases e <;> kernel_rfl) ?_ ?_)))))))
     ·intro g3
      refine xN (zI (nQ (yB (yJ [(.bool true)] ?_))))
      have er : xs = (chgX do_ xs lo hi val) := by exact (chgX3 zo).symm
      have ed : ds = (chgD do_ ds lo hi val) := by exact (chgD3 zo).symm
      replace q := (q.trans2 (Ch.of_below ai.below) (fun _ h => h.elim)).trans2 (Ch.of_wrote b5) (fun k e => e ▸ y)
      exact ⟨_, ac, rfl, (by rw [wT hw_r_1]; exact f), i, b.cast er, z, d.cast ed, q⟩
     intro en
     exfalso; first | exact en (by rw [hrel.meets]) | (rw [hrel.meets] at en; simp at en; done)
    intro ei
    exfalso; first | exact ei (by rw [hrel.meets]) | (rw [hrel.meets] at ei; simp at ei; done)
   intro ej
   exfalso; first | exact ej (by rw [hrel.meets]) | (rw [hrel.meets] at ej; simp at ej; done)
  ·skip
   refine yL 7 rfl ?_ rfl
   have l := zA l p
   refine zOA 5 [(I3 lo), (I3 hi)] l (zR ?_)
   refine ⟨rfl, wM 5 13 zk ?_ ?_⟩
   ·skip
    refine yL 5 rfl ?_ rfl
    have f := zA f p
    refine yK m (0 + (atW ka) * 1) (pt t 0) zk zk (zK f ((xP (by first | exact zJ _ | omega)).trans (congrArg some hw_p_0))) (zR ?_)
    refine ⟨rfl, wM 8 13 zk ?_ ?_⟩
    ·skip
     refine yL 8 rfl ?_ rfl
     have i := zA (zA (zA i ab.below) u) p
     have b := ((b.below ab.below).below u).below p
     refine zc (xW t r xs lo hi _ i b.rd (by exact bm) zo) ?_
     replace q := (q.trans2 (Ch.of_below u) (fun _ h => h.elim)).trans2 (Ch.of_below p) (fun _ h => h.elim)
     rintro _ ic ⟨rfl, cs⟩
     have s := s.trans (cs.mono n)
     replace n := Nat.le_trans n (cs.size)
     refine zR ?_
     refine ⟨rfl, ip 9 rfl (.tuple #[(Value.agg #[(I3 ((metV ([] : List UInt8) (metG xs lo hi)).1)), (I3 ((metV ([] : List UInt8) (metG xs lo hi)).2.1))]), (S ((metV ([] : List UInt8) (metG xs lo hi)).2.2.1)), (.bool ((metV ([] : List UInt8) (metG xs lo hi)).2.2.2))]) (ip 10 rfl (Value.agg #[(I3 ((metV ([] : List UInt8) (metG xs lo hi)).1)), (I3 ((metV ([] : List UInt8) (metG xs lo hi)).2.1))]) (ip 11 rfl (S ((metV ([] : List UInt8) (metG xs lo hi)).2.2.1)) (ip 12 rfl (.bool ((metV ([] : List UInt8) (metG xs lo hi)).2.2.2)) (yF 13 zk (yL 13 rfl ?_ rfl)))))⟩
     refine zN [(I3 0), (I3 0)] 29 ?_
     intro es i7 a1
     have ad : B_ ≤ es := by rw [a1.num]; exact n
     replace q := q.trans2 (Ch.of_below cs) (fun _ h => h.elim)
     have aa : (World.heap w).size ≤ es ∨ (Dw m t r) es := .inl (by rw [a1.num]; exact q.size)
     have s := s.trans (a1.below.mono n)
     replace n := Nat.le_trans n (a1.below.size)
     have a := a1.here
     refine zR ?_
     refine ⟨rfl, yF 14 zk (yL 14 rfl ?_ rfl)⟩
     refine qC [(I3 ((metV ([] : List UInt8) (metG xs lo hi)).1)), (I3 ((metV ([] : List UInt8) (metG xs lo hi)).2.1))] a ?_
     intro hn bs
     replace n := Nat.le_trans n (Nat.le_of_eq bs.size.symm)
     have f := zA (zA f cs) a1.below
     have f := zC f bs (zH f a zi)
     have i := zA (zA i cs) a1.below
     have i := zC i bs (zH i a zi)
     have l := zA (zA l cs) a1.below
     have l := zC l bs (zH l a zi)
     have d := ((((d.below ab.below).below u).below p).below cs).below a1.below
     have d := d.wrote bs (d.ne a zi)
     have b := (b.below cs).below a1.below
     have b := b.wrote bs (b.ne a zi)
     have a := bs.here
     refine zR ?_
     refine ⟨rfl, ip 15 rfl (S ((metV ([] : List UInt8) (metG xs lo hi)).2.2.1)) (ip 16 rfl (.bool ((metV ([] : List UInt8) (metG xs lo hi)).2.2.2)) (yS zk (zB (yA (wR (zG (zG (zr (pt m 0) (zr (pt m 8) (yY (k := .i64) m 8 (atW ka) Try.underlying84 zk (by first | exact zJ _ | omega) zk zk (yK m (8 + (atW ka) * 1) (.bool false) zk zk (zK f ((wO (by first | exact zJ _ | omega)).trans (congrArg some hw_n_2))) (nQ (zF (zZ (zB (wR (zG (zr (pt b1 5) (zOA 5 [(I3 lo), (I3 hi)] l (zc (wK ac ds lo hi _ d.rd zo (by exact cz) zo zo) ?_))))))))))))))))))))⟩
     replace q := (q.trans2 (Ch.of_below a1.below) (fun _ h => h.elim)).trans2 (Ch.of_wrote bs) (fun k e => e ▸ aa)
     rintro _ j5 ⟨rfl, cm⟩
     have s := s.trans (bs.below ad)
     have s := s.trans (cm.mono n)
     replace n := Nat.le_trans n (cm.size)
     refine zG (zr (Value.agg #[(I3 ((meetsD ds lo hi).1)), (I3 ((meetsD ds lo hi).2.1))]) (zr (S ((meetsD ds lo hi).2.2.1)) (zr (.bool ((meetsD ds lo hi).2.2.2)) (zN [(I3 0), (I3 0)] 29 ?_))))
     intro fk id ao
     have a := zA a cm
     have o := qB (yD a) ao
     have ag : B_ ≤ fk := by rw [ao.num]; exact n
     replace q := q.trans2 (Ch.of_below cm) (fun _ h => h.elim)
     have y : (World.heap w).size ≤ fk ∨ (Dw m t r) fk := .inl (by rw [ao.num]; exact q.size)
     have s := s.trans (ao.below.mono n)
     replace n := Nat.le_trans n (ao.below.size)
     have j := ao.here
     refine qC [(I3 ((meetsD ds lo hi).1)), (I3 ((meetsD ds lo hi).2.1))] j ?_
     intro jz cb
     replace n := Nat.le_trans n (Nat.le_of_eq cb.size.symm)
     have f := zA (zA f cm) ao.below
     have f := zC f cb (zH f j zi)
     have i := zA (zA i cm) ao.below
     have i := zC i cb (zH i j zi)
     have d := (d.below cm).below ao.below
     have d := d.wrote cb (d.ne j zi)
     have b := (b.below cm).below ao.below
     have b := b.wrote cb (b.ne j zi)
     have j := cb.here
     have a := zC (zA a ao.below) cb o
     refine zI (zI (nR (wG a (wG j (xE [(I3 ((metV ([] : List UInt8) (metG xs lo hi)).1)), (I3 ((metV ([] : List UInt8) (metG xs lo hi)).2.1))] [(I3 ((meetsD ds lo hi).1)), (I3 ((meetsD ds lo hi).2.1))] (((metV ([] : List UInt8) (metG xs lo hi)).1) == ((meetsD ds lo hi).1) && ((metV ([] : List UInt8) (metG xs lo hi)).2.1) == ((meetsD ds lo hi).2.1)) zk zk zk (xF ((metV ([] : List UInt8) (metG xs lo hi)).1) ((metV ([] : List UInt8) (metG xs lo hi)).2.1) ((meetsD ds lo hi).1) ((meetsD ds lo hi).2.1)) ?_ ?_)))))
     ·intro fx
      replace fx : ((metV ([] : List UInt8) (metG xs lo hi)).1) = ((meetsD ds lo hi).1) ∧ ((metV ([] : List UInt8) (metG xs lo hi)).2.1) = ((meetsD ds lo hi).2.1) := by simpa using fx
      refine zG (zw (zG (zw (zG (zw (vC ((metV ([] : List UInt8) (metG xs lo hi)).2.2.1) ((meetsD ds lo hi).2.2.1) rfl zk zk ?_ ?_))))))
      ·intro ha
       refine xN (zG (zw (zG (zw (zG (zw (L_bEq ((metV ([] : List UInt8) (metG xs lo hi)).2.2.2) ((meetsD ds lo hi).2.2.2) zk zk (fun c e => by cases c <;> cases e <;> kernel_rfl) ?_ ?_)))))))
       ·intro iu
        refine xN (zI (nQ (yB (yJ [(.bool true)] ?_))))
        have er : xs = (chgX do_ xs lo hi val) := by exact (chgX3 zo).symm
        have ed : ds = (chgD do_ ds lo hi val) := by exact (chgD3 zo).symm
        replace q := (q.trans2 (Ch.of_below ao.below) (fun _ h => h.elim)).trans2 (Ch.of_wrote cb) (fun k e => e ▸ y)
        exact ⟨_, ac, rfl, (by rw [wT hw_r_1]; exact f), i, b.cast er, z, d.cast ed, q⟩
       intro ee
       exfalso; first | exact ee (by rw [hrel.meets]) | (rw [hrel.meets] at ee; simp at ee; done)
      intro d4
      exfalso; first | exact d4 (by rw [hrel.meets]) | (rw [hrel.meets] at d4; simp at d4; done)
     intro eh
     exfalso; first | exact eh (by rw [hrel.meets]) | (rw [hrel.meets] at eh; simp at eh; done)
    skip
    refine yL 13 rfl ?_ rfl
    refine zN [(I3 0), (I3 0)] 29 ?_
    intro fh ix a6
    have ad : B_ ≤ fh := by rw [a6.num]; exact n
    replace q := (q.trans2 (Ch.of_below u) (fun _ h => h.elim)).trans2 (Ch.of_below p) (fun _ h => h.elim)
    have aa : (World.heap w).size ≤ fh ∨ (Dw m t r) fh := .inl (by rw [a6.num]; exact q.size)
    have s := s.trans (a6.below.mono n)
    replace n := Nat.le_trans n (a6.below.size)
    have a := a6.here
    refine zR ?_
    refine ⟨rfl, yF 8 zk (yL 8 rfl ?_ rfl)⟩
    have i := zA (zA (zA (zA i ab.below) u) p) a6.below
    have b := (((b.below ab.below).below u).below p).below a6.below
    refine zc (xW t r xs lo hi _ i b.rd (by exact bm) zo) ?_
    replace q := q.trans2 (Ch.of_below a6.below) (fun _ h => h.elim)
    rintro _ iv ⟨rfl, bp⟩
    have s := s.trans (bp.mono n)
    replace n := Nat.le_trans n (bp.size)
    refine zR ?_
    refine ⟨rfl, ip 9 rfl (.tuple #[(Value.agg #[(I3 ((metV ([] : List UInt8) (metG xs lo hi)).1)), (I3 ((metV ([] : List UInt8) (metG xs lo hi)).2.1))]), (S ((metV ([] : List UInt8) (metG xs lo hi)).2.2.1)), (.bool ((metV ([] : List UInt8) (metG xs lo hi)).2.2.2))]) (ip 10 rfl (Value.agg #[(I3 ((metV ([] : List UInt8) (metG xs lo hi)).1)), (I3 ((metV ([] : List UInt8) (metG xs lo hi)).2.1))]) (ip 11 rfl (S ((metV ([] : List UInt8) (metG xs lo hi)).2.2.1)) (ip 12 rfl (.bool ((metV ([] : List UInt8) (metG xs lo hi)).2.2.2)) (yF 14 zk (yL 14 rfl ?_ rfl)))))⟩
    have a := zA a bp
    refine qC [(I3 ((metV ([] : List UInt8) (metG xs lo hi)).1)), (I3 ((metV ([] : List UInt8) (metG xs lo hi)).2.1))] a ?_
    intro jf bc
    replace n := Nat.le_trans n (Nat.le_of_eq bc.size.symm)
    have f := zA (zA f a6.below) bp
    have f := zC f bc (zH f a zi)
    have i := zA i bp
    have i := zC i bc (zH i a zi)
    have l := zA (zA l a6.below) bp
    have l := zC l bc (zH l a zi)
    have d := ((((d.below ab.below).below u).below p).below a6.below).below bp
    have d := d.wrote bc (d.ne a zi)
    have b := b.below bp
    have b := b.wrote bc (b.ne a zi)
    have a := bc.here
    refine zR ?_
    refine ⟨rfl, ip 15 rfl (S ((metV ([] : List UInt8) (metG xs lo hi)).2.2.1)) (ip 16 rfl (.bool ((metV ([] : List UInt8) (metG xs lo hi)).2.2.2)) (yS zk (zB (yA (wR (zG (zG (zr (pt m 0) (zr (pt m 8) (yY (k := .i64) m 8 (atW ka) Try.underlying84 zk (by first | exact zJ _ | omega) zk zk (yK m (8 + (atW ka) * 1) (.bool false) zk zk (zK f ((wO (by first | exact zJ _ | omega)).trans (congrArg some hw_n_2))) (nQ (zF (zZ (zB (wR (zG (zr (pt b1 5) (zOA 5 [(I3 lo), (I3 hi)] l (zc (wK ac ds lo hi _ d.rd zo (by exact cz) zo zo) ?_))))))))))))))))))))⟩
    replace q := (q.trans2 (Ch.of_below bp) (fun _ h => h.elim)).trans2 (Ch.of_wrote bc) (fun k e => e ▸ aa)
    rintro _ hh ⟨rfl, ct⟩
    have s := s.trans (bc.below ad)
    have s := s.trans (ct.mono n)
    replace n := Nat.le_trans n (ct.size)
    refine zG (zr (Value.agg #[(I3 ((meetsD ds lo hi).1)), (I3 ((meetsD ds lo hi).2.1))]) (zr (S ((meetsD ds lo hi).2.2.1)) (zr (.bool ((meetsD ds lo hi).2.2.2)) (zN [(I3 0), (I3 0)] 29 ?_))))
    intro eu jg ar
    have a := zA a ct
    have o := qB (yD a) ar
    have ag : B_ ≤ eu := by rw [ar.num]; exact n
    replace q := q.trans2 (Ch.of_below ct) (fun _ h => h.elim)
    have y : (World.heap w).size ≤ eu ∨ (Dw m t r) eu := .inl (by rw [ar.num]; exact q.size)
    have s := s.trans (ar.below.mono n)
    replace n := Nat.le_trans n (ar.below.size)
    have j := ar.here
    refine qC [(I3 ((meetsD ds lo hi).1)), (I3 ((meetsD ds lo hi).2.1))] j ?_
    intro g1 b6
    replace n := Nat.le_trans n (Nat.le_of_eq b6.size.symm)
    have f := zA (zA f ct) ar.below
    have f := zC f b6 (zH f j zi)
    have i := zA (zA i ct) ar.below
    have i := zC i b6 (zH i j zi)
    have d := (d.below ct).below ar.below
    have d := d.wrote b6 (d.ne j zi)
    have b := (b.below ct).below ar.below
    have b := b.wrote b6 (b.ne j zi)
    have j := b6.here
    have a := zC (zA a ar.below) b6 o
    refine zI (zI (nR (wG a (wG j (xE [(I3 ((metV ([] : List UInt8) (metG xs lo hi)).1)), (I3 ((metV ([] : List UInt8) (metG xs lo hi)).2.1))] [(I3 ((meetsD ds lo hi).1)), (I3 ((meetsD ds lo hi).2.1))] (((metV ([] : List UInt8) (metG xs lo hi)).1) == ((meetsD ds lo hi).1) && ((metV ([] : List UInt8) (metG xs lo hi)).2.1) == ((meetsD ds lo hi).2.1)) zk zk zk (xF ((metV ([] : List UInt8) (metG xs lo hi)).1) ((metV ([] : List UInt8) (metG xs lo hi)).2.1) ((meetsD ds lo hi).1) ((meetsD ds lo hi).2.1)) ?_ ?_)))))
    ·intro f2
     replace f2 : ((metV ([] : List UInt8) (metG xs lo hi)).1) = ((meetsD ds lo hi).1) ∧ ((metV ([] : List UInt8) (metG xs lo hi)).2.1) = ((meetsD ds lo hi).2.1) := by simpa using f2
     refine zG (zw (zG (zw (zG (zw (vC ((metV ([] : List UInt8) (metG xs lo hi)).2.2.1) ((meetsD ds lo hi).2.2.1) rfl zk zk ?_ ?_))))))
     ·intro h0
      refine xN (zG (zw (zG (zw (zG (zw (L_bEq ((metV ([] : List UInt8) (metG xs lo hi)).2.2.2) ((meetsD ds lo hi).2.2.2) zk zk (fun c e => by cases c <;> cases e <;> kernel_rfl) ?_ ?_)))))))
      ·intro j1
       refine xN (zI (nQ (yB (yJ [(.bool true)] ?_))))
       have er : xs = (chgX do_ xs lo hi val) := by exact (chgX3 zo).symm
       have ed : ds = (chgD do_ ds lo hi val) := by exact (chgD3 zo).symm
       replace q := (q.trans2 (Ch.of_below ar.below) (fun _ h => h.elim)).trans2 (Ch.of_wrote b6) (fun k e => e ▸ y)
       exact ⟨_, ac, rfl, (by rw [wT hw_r_1]; exact f), i, b.cast er, z, d.cast ed, q⟩
      intro fj
      exfalso; first | exact fj (by rw [hrel.meets]) | (rw [hrel.meets] at fj; simp at fj; done)
     intro ea
     exfalso; first | exact ea (by rw [hrel.meets]) | (rw [hrel.meets] at ea; simp at ea; done)
    intro fe
    exfalso; first | exact fe (by rw [hrel.meets]) | (rw [hrel.meets] at fe; simp at fe; done)
   skip
   refine yL 13 rfl ?_ rfl
   refine zN [(I3 0), (I3 0)] 29 ?_
   intro e6 j6 az
   have ad : B_ ≤ e6 := by rw [az.num]; exact n
   replace q := (q.trans2 (Ch.of_below u) (fun _ h => h.elim)).trans2 (Ch.of_below p) (fun _ h => h.elim)
   have aa : (World.heap w).size ≤ e6 ∨ (Dw m t r) e6 := .inl (by rw [az.num]; exact q.size)
   have s := s.trans (az.below.mono n)
   replace n := Nat.le_trans n (az.below.size)
   have a := az.here
   refine zR ?_
   refine ⟨rfl, yF 5 zk (yL 5 rfl ?_ rfl)⟩
   have f := zA (zA f p) az.below
   refine yK m (0 + (atW ka) * 1) (pt t 0) zk zk (zK f ((xP (by first | exact zJ _ | omega)).trans (congrArg some hw_p_0))) (zR ?_)
   refine ⟨rfl, yF 8 zk (yL 8 rfl ?_ rfl)⟩
   have i := zA (zA (zA (zA i ab.below) u) p) az.below
   have b := (((b.below ab.below).below u).below p).below az.below
   refine zc (xW t r xs lo hi _ i b.rd (by exact bm) zo) ?_
   replace q := q.trans2 (Ch.of_below az.below) (fun _ h => h.elim)
   rintro _ jv ⟨rfl, bw⟩
   have s := s.trans (bw.mono n)
   replace n := Nat.le_trans n (bw.size)
   refine zR ?_
   refine ⟨rfl, ip 9 rfl (.tuple #[(Value.agg #[(I3 ((metV ([] : List UInt8) (metG xs lo hi)).1)), (I3 ((metV ([] : List UInt8) (metG xs lo hi)).2.1))]), (S ((metV ([] : List UInt8) (metG xs lo hi)).2.2.1)), (.bool ((metV ([] : List UInt8) (metG xs lo hi)).2.2.2))]) (ip 10 rfl (Value.agg #[(I3 ((metV ([] : List UInt8) (metG xs lo hi)).1)), (I3 ((metV ([] : List UInt8) (metG xs lo hi)).2.1))]) (ip 11 rfl (S ((metV ([] : List UInt8) (metG xs lo hi)).2.2.1)) (ip 12 rfl (.bool ((metV ([] : List UInt8) (metG xs lo hi)).2.2.2)) (yF 14 zk (yL 14 rfl ?_ rfl)))))⟩
   have a := zA a bw
   refine qC [(I3 ((metV ([] : List UInt8) (metG xs lo hi)).1)), (I3 ((metV ([] : List UInt8) (metG xs lo hi)).2.1))] a ?_
   intro ja bi
   replace n := Nat.le_trans n (Nat.le_of_eq bi.size.symm)
   have f := zA f bw
   have f := zC f bi (zH f a zi)
   have i := zA i bw
   have i := zC i bi (zH i a zi)
   have l := zA (zA l az.below) bw
   have l := zC l bi (zH l a zi)
   have d := ((((d.below ab.below).below u).below p).below az.below).below bw
   have d := d.wrote bi (d.ne a zi)
   have b := b.below bw
   have b := b.wrote bi (b.ne a zi)
   have a := bi.here
   refine zR ?_
   refine ⟨rfl, ip 15 rfl (S ((metV ([] : List UInt8) (metG xs lo hi)).2.2.1)) (ip 16 rfl (.bool ((metV ([] : List UInt8) (metG xs lo hi)).2.2.2)) (yS zk (zB (yA (wR (zG (zG (zr (pt m 0) (zr (pt m 8) (yY (k := .i64) m 8 (atW ka) Try.underlying84 zk (by first | exact zJ _ | omega) zk zk (yK m (8 + (atW ka) * 1) (.bool false) zk zk (zK f ((wO (by first | exact zJ _ | omega)).trans (congrArg some hw_n_2))) (nQ (zF (zZ (zB (wR (zG (zr (pt b1 5) (zOA 5 [(I3 lo), (I3 hi)] l (zc (wK ac ds lo hi _ d.rd zo (by exact cz) zo zo) ?_))))))))))))))))))))⟩
   replace q := (q.trans2 (Ch.of_below bw) (fun _ h => h.elim)).trans2 (Ch.of_wrote bi) (fun k e => e ▸ aa)
   rintro _ j2 ⟨rfl, ce⟩
   have s := s.trans (bi.below ad)
   have s := s.trans (ce.mono n)
   replace n := Nat.le_trans n (ce.size)
   refine zG (zr (Value.agg #[(I3 ((meetsD ds lo hi).1)), (I3 ((meetsD ds lo hi).2.1))]) (zr (S ((meetsD ds lo hi).2.2.1)) (zr (.bool ((meetsD ds lo hi).2.2.2)) (zN [(I3 0), (I3 0)] 29 ?_))))
   intro fl jq al
   have a := zA a ce
   have o := qB (yD a) al
   have ag : B_ ≤ fl := by rw [al.num]; exact n
   replace q := q.trans2 (Ch.of_below ce) (fun _ h => h.elim)
   have y : (World.heap w).size ≤ fl ∨ (Dw m t r) fl := .inl (by rw [al.num]; exact q.size)
   have s := s.trans (al.below.mono n)
   replace n := Nat.le_trans n (al.below.size)
   have j := al.here
   refine qC [(I3 ((meetsD ds lo hi).1)), (I3 ((meetsD ds lo hi).2.1))] j ?_
   intro jt cl
   replace n := Nat.le_trans n (Nat.le_of_eq cl.size.symm)
   have f := zA (zA f ce) al.below
   have f := zC f cl (zH f j zi)
   have i := zA (zA i ce) al.below
   have i := zC i cl (zH i j zi)
   have d := (d.below ce).below al.below
   have d := d.wrote cl (d.ne j zi)
   have b := (b.below ce).below al.below
   have b := b.wrote cl (b.ne j zi)
   have j := cl.here
   have a := zC (zA a al.below) cl o
   refine zI (zI (nR (wG a (wG j (xE [(I3 ((metV ([] : List UInt8) (metG xs lo hi)).1)), (I3 ((metV ([] : List UInt8) (metG xs lo hi)).2.1))] [(I3 ((meetsD ds lo hi).1)), (I3 ((meetsD ds lo hi).2.1))] (((metV ([] : List UInt8) (metG xs lo hi)).1) == ((meetsD ds lo hi).1) && ((metV ([] : List UInt8) (metG xs lo hi)).2.1) == ((meetsD ds lo hi).2.1)) zk zk zk (xF ((metV ([] : List UInt8) (metG xs lo hi)).1) ((metV ([] : List UInt8) (metG xs lo hi)).2.1) ((meetsD ds lo hi).1) ((meetsD ds lo hi).2.1)) ?_ ?_)))))
   ·intro f0
    replace f0 : ((metV ([] : List UInt8) (metG xs lo hi)).1) = ((meetsD ds lo hi).1) ∧ ((metV ([] : List UInt8) (metG xs lo hi)).2.1) = ((meetsD ds lo hi).2.1) := by simpa using f0
    refine zG (zw (zG (zw (zG (zw (vC ((metV ([] : List UInt8) (metG xs lo hi)).2.2.1) ((meetsD ds lo hi).2.2.1) rfl zk zk ?_ ?_))))))
    ·intro hv
     refine xN (zG (zw (zG (zw (zG (zw (L_bEq ((metV ([] : List UInt8) (metG xs lo hi)).2.2.2) ((meetsD ds lo hi).2.2.2) zk zk (fun c e => by cases c <;> cases e <;> kernel_rfl) ?_ ?_)))))))
     ·intro hj
      refine xN (zI (nQ (yB (yJ [(.bool true)] ?_))))
      have er : xs = (chgX do_ xs lo hi val) := by exact (chgX3 zo).symm
      have ed : ds = (chgD do_ ds lo hi val) := by exact (chgD3 zo).symm
      replace q := (q.trans2 (Ch.of_below al.below) (fun _ h => h.elim)).trans2 (Ch.of_wrote cl) (fun k e => e ▸ y)
      exact ⟨_, ac, rfl, (by rw [wT hw_r_1]; exact f), i, b.cast er, z, d.cast ed, q⟩
     intro ep
     exfalso; first | exact ep (by rw [hrel.meets]) | (rw [hrel.meets] at ep; simp at ep; done)
    intro fq
    exfalso; first | exact fq (by rw [hrel.meets]) | (rw [hrel.meets] at fq; simp at fq; done)
   intro dx
   exfalso; first | exact dx (by rw [hrel.meets]) | (rw [hrel.meets] at dx; simp at dx; done)
  skip
  refine yL 13 rfl ?_ rfl
  refine zN [(I3 0), (I3 0)] 29 ?_
  intro e7 kj af
  have ad : B_ ≤ e7 := by rw [af.num]; exact n
  replace q := (q.trans2 (Ch.of_below u) (fun _ h => h.elim)).trans2 (Ch.of_below p) (fun _ h => h.elim)
  have aa : (World.heap w).size ≤ e7 ∨ (Dw m t r) e7 := .inl (by rw [af.num]; exact q.size)
  have s := s.trans (af.below.mono n)
  replace n := Nat.le_trans n (af.below.size)
  have a := af.here
  refine zR ?_
  refine ⟨rfl, wM 5 7 zk ?_ ?_⟩
  ·skip
   refine yL 5 rfl ?_ rfl
   have f := zA (zA f p) af.below
   refine yK m (0 + (atW ka) * 1) (pt t 0) zk zk (zK f ((xP (by first | exact zJ _ | omega)).trans (congrArg some hw_p_0))) (zR ?_)
   refine ⟨rfl, yF 7 zk (yL 7 rfl ?_ rfl)⟩
   have l := zA (zA l p) af.below
   refine zOA 5 [(I3 lo), (I3 hi)] l (zR ?_)
   refine ⟨rfl, yF 8 zk (yL 8 rfl ?_ rfl)⟩
   have i := zA (zA (zA (zA i ab.below) u) p) af.below
   have b := (((b.below ab.below).below u).below p).below af.below
   refine zc (xW t r xs lo hi _ i b.rd (by exact bm) zo) ?_
   replace q := q.trans2 (Ch.of_below af.below) (fun _ h => h.elim)
   rintro _ iz ⟨rfl, a9⟩
   have s := s.trans (a9.mono n)
   replace n := Nat.le_trans n (a9.size)
   refine zR ?_
   refine ⟨rfl, ip 9 rfl (.tuple #[(Value.agg #[(I3 ((metV ([] : List UInt8) (metG xs lo hi)).1)), (I3 ((metV ([] : List UInt8) (metG xs lo hi)).2.1))]), (S ((metV ([] : List UInt8) (metG xs lo hi)).2.2.1)), (.bool ((metV ([] : List UInt8) (metG xs lo hi)).2.2.2))]) (ip 10 rfl (Value.agg #[(I3 ((metV ([] : List UInt8) (metG xs lo hi)).1)), (I3 ((metV ([] : List UInt8) (metG xs lo hi)).2.1))]) (ip 11 rfl (S ((metV ([] : List UInt8) (metG xs lo hi)).2.2.1)) (ip 12 rfl (.bool ((metV ([] : List UInt8) (metG xs lo hi)).2.2.2)) (yF 14 zk (yL 14 rfl ?_ rfl)))))⟩
   have a := zA a a9
   refine qC [(I3 ((metV ([] : List UInt8) (metG xs lo hi)).1)), (I3 ((metV ([] : List UInt8) (metG xs lo hi)).2.1))] a ?_
   intro ia ba
   replace n := Nat.le_trans n (Nat.le_of_eq ba.size.symm)
   have f := zA f a9
   have f := zC f ba (zH f a zi)
   have i := zA i a9
   have i := zC i ba (zH i a zi)
   have l := zA l a9
   have l := zC l ba (zH l a zi)
   have d := ((((d.below ab.below).below u).below p).below af.below).below a9
   have d := d.wrote ba (d.ne a zi)
   have b := b.below a9
   have b := b.wrote ba (b.ne a zi)
   have a := ba.here
   refine zR ?_
   refine ⟨rfl, ip 15 rfl (S ((metV ([] : List UInt8) (metG xs lo hi)).2.2.1)) (ip 16 rfl (.bool ((metV ([] : List UInt8) (metG xs lo hi)).2.2.2)) (yS zk (zB (yA (wR (zG (zG (zr (pt m 0) (zr (pt m 8) (yY (k := .i64) m 8 (atW ka) Try.underlying84 zk (by first | exact zJ _ | omega) zk zk (yK m (8 + (atW ka) * 1) (.bool false) zk zk (zK f ((wO (by first | exact zJ _ | omega)).trans (congrArg some hw_n_2))) (nQ (zF (zZ (zB (wR (zG (zr (pt b1 5) (zOA 5 [(I3 lo), (I3 hi)] l (zc (wK ac ds lo hi _ d.rd zo (by exact cz) zo zo) ?_))))))))))))))))))))⟩
   replace q := (q.trans2 (Ch.of_below a9) (fun _ h => h.elim)).trans2 (Ch.of_wrote ba) (fun k e => e ▸ aa)
   rintro _ h3 ⟨rfl, cy⟩
   have s := s.trans (ba.below ad)
   have s := s.trans (cy.mono n)
   replace n := Nat.le_trans n (cy.size)
   refine zG (zr (Value.agg #[(I3 ((meetsD ds lo hi).1)), (I3 ((meetsD ds lo hi).2.1))]) (zr (S ((meetsD ds lo hi).2.2.1)) (zr (.bool ((meetsD ds lo hi).2.2.2)) (zN [(I3 0), (I3 0)] 29 ?_))))
   intro fg ie av
   have a := zA a cy
   have o := qB (yD a) av
   have ag : B_ ≤ fg := by rw [av.num]; exact n
   replace q := q.trans2 (Ch.of_below cy) (fun _ h => h.elim)
   have y : (World.heap w).size ≤ fg ∨ (Dw m t r) fg := .inl (by rw [av.num]; exact q.size)
   have s := s.trans (av.below.mono n)
   replace n := Nat.le_trans n (av.below.size)
   have j := av.here
   refine qC [(I3 ((meetsD ds lo hi).1)), (I3 ((meetsD ds lo hi).2.1))] j ?_
   intro jy cq
   replace n := Nat.le_trans n (Nat.le_of_eq cq.size.symm)
   have f := zA (zA f cy) av.below
   have f := zC f cq (zH f j zi)
   have i := zA (zA i cy) av.below
   have i := zC i cq (zH i j zi)
   have d := (d.below cy).below av.below
   have d := d.wrote cq (d.ne j zi)
   have b := (b.below cy).below av.below
   have b := b.wrote cq (b.ne j zi)
   have j := cq.here
   have a := zC (zA a av.below) cq o
   refine zI (zI (nR (wG a (wG j (xE [(I3 ((metV ([] : List UInt8) (metG xs lo hi)).1)), (I3 ((metV ([] : List UInt8) (metG xs lo hi)).2.1))] [(I3 ((meetsD ds lo hi).1)), (I3 ((meetsD ds lo hi).2.1))] (((metV ([] : List UInt8) (metG xs lo hi)).1) == ((meetsD ds lo hi).1) && ((metV ([] : List UInt8) (metG xs lo hi)).2.1) == ((meetsD ds lo hi).2.1)) zk zk zk (xF ((metV ([] : List UInt8) (metG xs lo hi)).1) ((metV ([] : List UInt8) (metG xs lo hi)).2.1) ((meetsD ds lo hi).1) ((meetsD ds lo hi).2.1)) ?_ ?_)))))
   ·intro fw
    replace fw : ((metV ([] : List UInt8) (metG xs lo hi)).1) = ((meetsD ds lo hi).1) ∧ ((metV ([] : List UInt8) (metG xs lo hi)).2.1) = ((meetsD ds lo hi).2.1) := by simpa using fw
    refine zG (zw (zG (zw (zG (zw (vC ((metV ([] : List UInt8) (metG xs lo hi)).2.2.1) ((meetsD ds lo hi).2.2.1) rfl zk zk ?_ ?_))))))
    ·intro hu
     refine xN (zG (zw (zG (zw (zG (zw (L_bEq ((metV ([] : List UInt8) (metG xs lo hi)).2.2.2) ((meetsD ds lo hi).2.2.2) zk zk (fun c e => by cases c <;> cases e <;> kernel_rfl) ?_ ?_)))))))
     ·intro g5
      refine xN (zI (nQ (yB (yJ [(.bool true)] ?_))))
      have er : xs = (chgX do_ xs lo hi val) := by exact (chgX3 zo).symm
      have ed : ds = (chgD do_ ds lo hi val) := by exact (chgD3 zo).symm
      replace q := (q.trans2 (Ch.of_below av.below) (fun _ h => h.elim)).trans2 (Ch.of_wrote cq) (fun k e => e ▸ y)
      exact ⟨_, ac, rfl, (by rw [wT hw_r_1]; exact f), i, b.cast er, z, d.cast ed, q⟩
     intro eo
     exfalso; first | exact eo (by rw [hrel.meets]) | (rw [hrel.meets] at eo; simp at eo; done)
    intro e0
    exfalso; first | exact e0 (by rw [hrel.meets]) | (rw [hrel.meets] at e0; simp at e0; done)
   intro ev
   exfalso; first | exact ev (by rw [hrel.meets]) | (rw [hrel.meets] at ev; simp at ev; done)
  skip
  refine yL 7 rfl ?_ rfl
  have l := zA (zA l p) af.below
  refine zOA 5 [(I3 lo), (I3 hi)] l (zR ?_)
  refine ⟨rfl, yF 5 zk (yL 5 rfl ?_ rfl)⟩
  have f := zA (zA f p) af.below
  refine yK m (0 + (atW ka) * 1) (pt t 0) zk zk (zK f ((xP (by first | exact zJ _ | omega)).trans (congrArg some hw_p_0))) (zR ?_)
  refine ⟨rfl, yF 8 zk (yL 8 rfl ?_ rfl)⟩
  have i := zA (zA (zA (zA i ab.below) u) p) af.below
  have b := (((b.below ab.below).below u).below p).below af.below
  refine zc (xW t r xs lo hi _ i b.rd (by exact bm) zo) ?_
  replace q := q.trans2 (Ch.of_below af.below) (fun _ h => h.elim)
  rintro _ g8 ⟨rfl, bf⟩
  have s := s.trans (bf.mono n)
  replace n := Nat.le_trans n (bf.size)
  refine zR ?_
  refine ⟨rfl, ip 9 rfl (.tuple #[(Value.agg #[(I3 ((metV ([] : List UInt8) (metG xs lo hi)).1)), (I3 ((metV ([] : List UInt8) (metG xs lo hi)).2.1))]), (S ((metV ([] : List UInt8) (metG xs lo hi)).2.2.1)), (.bool ((metV ([] : List UInt8) (metG xs lo hi)).2.2.2))]) (ip 10 rfl (Value.agg #[(I3 ((metV ([] : List UInt8) (metG xs lo hi)).1)), (I3 ((metV ([] : List UInt8) (metG xs lo hi)).2.1))]) (ip 11 rfl (S ((metV ([] : List UInt8) (metG xs lo hi)).2.2.1)) (ip 12 rfl (.bool ((metV ([] : List UInt8) (metG xs lo hi)).2.2.2)) (yF 14 zk (yL 14 rfl ?_ rfl)))))⟩
  have a := zA a bf
  refine qC [(I3 ((metV ([] : List UInt8) (metG xs lo hi)).1)), (I3 ((metV ([] : List UInt8) (metG xs lo hi)).2.1))] a ?_
  intro j0 br
  replace n := Nat.le_trans n (Nat.le_of_eq br.size.symm)
  have f := zA f bf
  have f := zC f br (zH f a zi)
  have i := zA i bf
  have i := zC i br (zH i a zi)
  have l := zA l bf
  have l := zC l br (zH l a zi)
  have d := ((((d.below ab.below).below u).below p).below af.below).below bf
  have d := d.wrote br (d.ne a zi)
  have b := b.below bf
  have b := b.wrote br (b.ne a zi)
  have a := br.here
  refine zR ?_
  refine ⟨rfl, ip 15 rfl (S ((metV ([] : List UInt8) (metG xs lo hi)).2.2.1)) (ip 16 rfl (.bool ((metV ([] : List UInt8) (metG xs lo hi)).2.2.2)) (yS zk (zB (yA (wR (zG (zG (zr (pt m 0) (zr (pt m 8) (yY (k := .i64) m 8 (atW ka) Try.underlying84 zk (by first | exact zJ _ | omega) zk zk (yK m (8 + (atW ka) * 1) (.bool false) zk zk (zK f ((wO (by first | exact zJ _ | omega)).trans (congrArg some hw_n_2))) (nQ (zF (zZ (zB (wR (zG (zr (pt b1 5) (zOA 5 [(I3 lo), (I3 hi)] l (zc (wK ac ds lo hi _ d.rd zo (by exact cz) zo zo) ?_))))))))))))))))))))⟩
  replace q := (q.trans2 (Ch.of_below bf) (fun _ h => h.elim)).trans2 (Ch.of_wrote br) (fun k e => e ▸ aa)
  rintro _ jw ⟨rfl, cx⟩
  have s := s.trans (br.below ad)
  have s := s.trans (cx.mono n)
  replace n := Nat.le_trans n (cx.size)
  refine zG (zr (Value.agg #[(I3 ((meetsD ds lo hi).1)), (I3 ((meetsD ds lo hi).2.1))]) (zr (S ((meetsD ds lo hi).2.2.1)) (zr (.bool ((meetsD ds lo hi).2.2.2)) (zN [(I3 0), (I3 0)] 29 ?_))))
  intro d1 jo ap
  have a := zA a cx
  have o := qB (yD a) ap
  have ag : B_ ≤ d1 := by rw [ap.num]; exact n
  replace q := q.trans2 (Ch.of_below cx) (fun _ h => h.elim)
  have y : (World.heap w).size ≤ d1 ∨ (Dw m t r) d1 := .inl (by rw [ap.num]; exact q.size)
  have s := s.trans (ap.below.mono n)
  replace n := Nat.le_trans n (ap.below.size)
  have j := ap.here
  refine qC [(I3 ((meetsD ds lo hi).1)), (I3 ((meetsD ds lo hi).2.1))] j ?_
  intro he cu
  replace n := Nat.le_trans n (Nat.le_of_eq cu.size.symm)
  have f := zA (zA f cx) ap.below
  have f := zC f cu (zH f j zi)
  have i := zA (zA i cx) ap.below
  have i := zC i cu (zH i j zi)
  have d := (d.below cx).below ap.below
  have d := d.wrote cu (d.ne j zi)
  have b := (b.below cx).below ap.below
  have b := b.wrote cu (b.ne j zi)
  have j := cu.here
  have a := zC (zA a ap.below) cu o
  refine zI (zI (nR (wG a (wG j (xE [(I3 ((metV ([] : List UInt8) (metG xs lo hi)).1)), (I3 ((metV ([] : List UInt8) (metG xs lo hi)).2.1))] [(I3 ((meetsD ds lo hi).1)), (I3 ((meetsD ds lo hi).2.1))] (((metV ([] : List UInt8) (metG xs lo hi)).1) == ((meetsD ds lo hi).1) && ((metV ([] : List UInt8) (metG xs lo hi)).2.1) == ((meetsD ds lo hi).2.1)) zk zk zk (xF ((metV ([] : List UInt8) (metG xs lo hi)).1) ((metV ([] : List UInt8) (metG xs lo hi)).2.1) ((meetsD ds lo hi).1) ((meetsD ds lo hi).2.1)) ?_ ?_)))))
  ·intro f3
   replace f3 : ((metV ([] : List UInt8) (metG xs lo hi)).1) = ((meetsD ds lo hi).1) ∧ ((metV ([] : List UInt8) (metG xs lo hi)).2.1) = ((meetsD ds lo hi).2.1) := by simpa using f3
   refine zG (zw (zG (zw (zG (zw (vC ((metV ([] : List UInt8) (metG xs lo hi)).2.2.1) ((meetsD ds lo hi).2.2.1) rfl zk zk ?_ ?_))))))
   ·intro i4
    refine xN (zG (zw (zG (zw (zG (zw (L_bEq ((metV ([] : List UInt8) (metG xs lo hi)).2.2.2) ((meetsD ds lo hi).2.2.2) zk zk (fun c e => by cases c <;> cases e <;> kernel_rfl) ?_ ?_)))))))
    ·intro j9
     refine xN (zI (nQ (yB (yJ [(.bool true)] ?_))))
     have er : xs = (chgX do_ xs lo hi val) := by exact (chgX3 zo).symm
     have ed : ds = (chgD do_ ds lo hi val) := by exact (chgD3 zo).symm
     replace q := (q.trans2 (Ch.of_below ap.below) (fun _ h => h.elim)).trans2 (Ch.of_wrote cu) (fun k e => e ▸ y)
     exact ⟨_, ac, rfl, (by rw [wT hw_r_1]; exact f), i, b.cast er, z, d.cast ed, q⟩
    intro e8
    exfalso; first | exact e8 (by rw [hrel.meets]) | (rw [hrel.meets] at e8; simp at e8; done)
   intro fi
   exfalso; first | exact fi (by rw [hrel.meets]) | (rw [hrel.meets] at fi; simp at fi; done)
  intro fr
  exfalso; first | exact fr (by rw [hrel.meets]) | (rw [hrel.meets] at fr; simp at fr; done)
 ·skip
  refine yL 7 rfl ?_ rfl
  have l := zA l p
  refine zOA 5 [(I3 lo), (I3 hi)] l (zR ?_)
  refine ⟨rfl, wM 4 13 zk ?_ ?_⟩
  ·skip
   refine yL 4 rfl ?_ rfl
   refine yY (k := .i64) m 0 (atW ka) Try.underlying80 zk (by first | exact zJ _ | omega) zk zk (zR ?_)
   refine ⟨rfl, wM 5 13 zk ?_ ?_⟩
   ·skip
    refine yL 5 rfl ?_ rfl
    have f := zA f p
    refine yK m (0 + (atW ka) * 1) (pt t 0) zk zk (zK f ((xP (by first | exact zJ _ | omega)).trans (congrArg some hw_p_0))) (zR ?_)
    refine ⟨rfl, wM 8 13 zk ?_ ?_⟩
    ·skip
     refine yL 8 rfl ?_ rfl
     have i := zA (zA (zA i ab.below) u) p
     have b := ((b.below ab.below).below u).below p
     refine zc (xW t r xs lo hi _ i b.rd (by exact bm) zo) ?_
     replace q := (q.trans2 (Ch.of_below u) (fun _ h => h.elim)).trans2 (Ch.of_below p) (fun _ h => h.elim)
     rintro _ jk ⟨rfl, c0⟩
     have s := s.trans (c0.mono n)
     replace n := Nat.le_trans n (c0.size)
     refine zR ?_
     refine ⟨rfl, ip 9 rfl (.tuple #[(Value.agg #[(I3 ((metV ([] : List UInt8) (metG xs lo hi)).1)), (I3 ((metV ([] : List UInt8) (metG xs lo hi)).2.1))]), (S ((metV ([] : List UInt8) (metG xs lo hi)).2.2.1)), (.bool ((metV ([] : List UInt8) (metG xs lo hi)).2.2.2))]) (ip 10 rfl (Value.agg #[(I3 ((metV ([] : List UInt8) (metG xs lo hi)).1)), (I3 ((metV ([] : List UInt8) (metG xs lo hi)).2.1))]) (ip 11 rfl (S ((metV ([] : List UInt8) (metG xs lo hi)).2.2.1)) (ip 12 rfl (.bool ((metV ([] : List UInt8) (metG xs lo hi)).2.2.2)) (yF 13 zk (yL 13 rfl ?_ rfl)))))⟩
     refine zN [(I3 0), (I3 0)] 29 ?_
     intro dz i9 a0
     have ad : B_ ≤ dz := by rw [a0.num]; exact n
     replace q := q.trans2 (Ch.of_below c0) (fun _ h => h.elim)
     have aa : (World.heap w).size ≤ dz ∨ (Dw m t r) dz := .inl (by rw [a0.num]; exact q.size)
     have s := s.trans (a0.below.mono n)
     replace n := Nat.le_trans n (a0.below.size)
     have a := a0.here
     refine zR ?_
     refine ⟨rfl, yF 14 zk (yL 14 rfl ?_ rfl)⟩
     refine qC [(I3 ((metV ([] : List UInt8) (metG xs lo hi)).1)), (I3 ((metV ([] : List UInt8) (metG xs lo hi)).2.1))] a ?_
     intro ht bo
     replace n := Nat.le_trans n (Nat.le_of_eq bo.size.symm)
     have f := zA (zA f c0) a0.below
     have f := zC f bo (zH f a zi)
     have i := zA (zA i c0) a0.below
     have i := zC i bo (zH i a zi)
     have l := zA (zA l c0) a0.below
     have l := zC l bo (zH l a zi)
     have d := ((((d.below ab.below).below u).below p).below c0).below a0.below
     have d := d.wrote bo (d.ne a zi)
     have b := (b.below c0).below a0.below
     have b := b.wrote bo (b.ne a zi)
     have a := bo.here
     refine zR ?_
     refine ⟨rfl, ip 15 rfl (S ((metV ([] : List UInt8) (metG xs lo hi)).2.2.1)) (ip 16 rfl (.bool ((metV ([] : List UInt8) (metG xs lo hi)).2.2.2)) (yS zk (zB (yA (wR (zG (zG (zr (pt m 0) (zr (pt m 8) (yY (k := .i64) m 8 (atW ka) Try.underlying84 zk (by first | exact zJ _ | omega) zk zk (yK m (8 + (atW ka) * 1) (.bool false) zk zk (zK f ((wO (by first | exact zJ _ | omega)).trans (congrArg some hw_n_2))) (nQ (zF (zZ (zB (wR (zG (zr (pt b1 5) (zOA 5 [(I3 lo), (I3 hi)] l (zc (wK ac ds lo hi _ d.rd zo (by exact cz) zo zo) ?_))))))))))))))))))))⟩
     replace q := (q.trans2 (Ch.of_below a0.below) (fun _ h => h.elim)).trans2 (Ch.of_wrote bo) (fun k e => e ▸ aa)
     rintro _ j4 ⟨rfl, cw⟩
     have s := s.trans (bo.below ad)
     have s := s.trans (cw.mono n)
     replace n := Nat.le_trans n (cw.size)
     refine zG (zr (Value.agg #[(I3 ((meetsD ds lo hi).1)), (I3 ((meetsD ds lo hi).2.1))]) (zr (S ((meetsD ds lo hi).2.2.1)) (zr (.bool ((meetsD ds lo hi).2.2.2)) (zN [(I3 0), (I3 0)] 29 ?_))))
     intro d3 js ak
     have a := zA a cw
     have o := qB (yD a) ak
     have ag : B_ ≤ d3 := by rw [ak.num]; exact n
     replace q := q.trans2 (Ch.of_below cw) (fun _ h => h.elim)
     have y : (World.heap w).size ≤ d3 ∨ (Dw m t r) d3 := .inl (by rw [ak.num]; exact q.size)
     have s := s.trans (ak.below.mono n)
     replace n := Nat.le_trans n (ak.below.size)
     have j := ak.here
     refine qC [(I3 ((meetsD ds lo hi).1)), (I3 ((meetsD ds lo hi).2.1))] j ?_
     intro kd ca
     replace n := Nat.le_trans n (Nat.le_of_eq ca.size.symm)
     have f := zA (zA f cw) ak.below
     have f := zC f ca (zH f j zi)
     have i := zA (zA i cw) ak.below
     have i := zC i ca (zH i j zi)
     have d := (d.below cw).below ak.below
     have d := d.wrote ca (d.ne j zi)
     have b := (b.below cw).below ak.below
     have b := b.wrote ca (b.ne j zi)
     have j := ca.here
     have a := zC (zA a ak.below) ca o
     refine zI (zI (nR (wG a (wG j (xE [(I3 ((metV ([] : List UInt8) (metG xs lo hi)).1)), (I3 ((metV ([] : List UInt8) (metG xs lo hi)).2.1))] [(I3 ((meetsD ds lo hi).1)), (I3 ((meetsD ds lo hi).2.1))] (((metV ([] : List UInt8) (metG xs lo hi)).1) == ((meetsD ds lo hi).1) && ((metV ([] : List UInt8) (metG xs lo hi)).2.1) == ((meetsD ds lo hi).2.1)) zk zk zk (xF ((metV ([] : List UInt8) (metG xs lo hi)).1) ((metV ([] : List UInt8) (metG xs lo hi)).2.1) ((meetsD ds lo hi).1) ((meetsD ds lo hi).2.1)) ?_ ?_)))))
     ·intro fv
      replace fv : ((metV ([] : List UInt8) (metG xs lo hi)).1) = ((meetsD ds lo hi).1) ∧ ((metV ([] : List UInt8) (metG xs lo hi)).2.1) = ((meetsD ds lo hi).2.1) := by simpa using fv
      refine zG (zw (zG (zw (zG (zw (vC ((metV ([] : List UInt8) (metG xs lo hi)).2.2.1) ((meetsD ds lo hi).2.2.1) rfl zk zk ?_ ?_))))))
      ·intro h4
       refine xN (zG (zw (zG (zw (zG (zw (L_bEq ((metV ([] : List UInt8) (metG xs lo hi)).2.2.2) ((meetsD ds lo hi).2.2.2) zk zk (fun c e => by cases c <;> cases e <;> kernel_rfl) ?_ ?_)))))))
       ·intro hf
        refine xN (zI (nQ (yB (yJ [(.bool true)] ?_))))
        have er : xs = (chgX do_ xs lo hi val) := by exact (chgX3 zo).symm
        have ed : ds = (chgD do_ ds lo hi val) := by exact (chgD3 zo).symm
        replace q := (q.trans2 (Ch.of_below ak.below) (fun _ h => h.elim)).trans2 (Ch.of_wrote ca) (fun k e => e ▸ y)
        exact ⟨_, ac, rfl, (by rw [wT hw_r_1]; exact f), i, b.cast er, z, d.cast ed, q⟩
       intro e4
       exfalso; first | exact e4 (by rw [hrel.meets]) | (rw [hrel.meets] at e4; simp at e4; done)
      intro fp
      exfalso; first | exact fp (by rw [hrel.meets]) | (rw [hrel.meets] at fp; simp at fp; done)
     intro ex
     exfalso; first | exact ex (by rw [hrel.meets]) | (rw [hrel.meets] at ex; simp at ex; done)
    skip
    refine yL 13 rfl ?_ rfl
    refine zN [(I3 0), (I3 0)] 29 ?_
    intro et jd a2
    have ad : B_ ≤ et := by rw [a2.num]; exact n
    replace q := (q.trans2 (Ch.of_below u) (fun _ h => h.elim)).trans2 (Ch.of_below p) (fun _ h => h.elim)
    have aa : (World.heap w).size ≤ et ∨ (Dw m t r) et := .inl (by rw [a2.num]; exact q.size)
    have s := s.trans (a2.below.mono n)
    replace n := Nat.le_trans n (a2.below.size)
    have a := a2.here
    refine zR ?_
    refine ⟨rfl, yF 8 zk (yL 8 rfl ?_ rfl)⟩
    have i := zA (zA (zA (zA i ab.below) u) p) a2.below
    have b := (((b.below ab.below).below u).below p).below a2.below
    refine zc (xW t r xs lo hi _ i b.rd (by exact bm) zo) ?_
    replace q := q.trans2 (Ch.of_below a2.below) (fun _ h => h.elim)
    rintro _ i5 ⟨rfl, bx⟩
    have s := s.trans (bx.mono n)
    replace n := Nat.le_trans n (bx.size)
    refine zR ?_
    refine ⟨rfl, ip 9 rfl (.tuple #[(Value.agg #[(I3 ((metV ([] : List UInt8) (metG xs lo hi)).1)), (I3 ((metV ([] : List UInt8) (metG xs lo hi)).2.1))]), (S ((metV ([] : List UInt8) (metG xs lo hi)).2.2.1)), (.bool ((metV ([] : List UInt8) (metG xs lo hi)).2.2.2))]) (ip 10 rfl (Value.agg #[(I3 ((metV ([] : List UInt8) (metG xs lo hi)).1)), (I3 ((metV ([] : List UInt8) (metG xs lo hi)).2.1))]) (ip 11 rfl (S ((metV ([] : List UInt8) (metG xs lo hi)).2.2.1)) (ip 12 rfl (.bool ((metV ([] : List UInt8) (metG xs lo hi)).2.2.2)) (yF 14 zk (yL 14 rfl ?_ rfl)))))⟩
    have a := zA a bx
    refine qC [(I3 ((metV ([] : List UInt8) (metG xs lo hi)).1)), (I3 ((metV ([] : List UInt8) (metG xs lo hi)).2.1))] a ?_
    intro io bj
    replace n := Nat.le_trans n (Nat.le_of_eq bj.size.symm)
    have f := zA (zA f a2.below) bx
    have f := zC f bj (zH f a zi)
    have i := zA i bx
    have i := zC i bj (zH i a zi)
    have l := zA (zA l a2.below) bx
    have l := zC l bj (zH l a zi)
    have d := ((((d.below ab.below).below u).below p).below a2.below).below bx
    have d := d.wrote bj (d.ne a zi)
    have b := b.below bx
    have b := b.wrote bj (b.ne a zi)
    have a := bj.here
    refine zR ?_
    refine ⟨rfl, ip 15 rfl (S ((metV ([] : List UInt8) (metG xs lo hi)).2.2.1)) (ip 16 rfl (.bool ((metV ([] : List UInt8) (metG xs lo hi)).2.2.2)) (yS zk (zB (yA (wR (zG (zG (zr (pt m 0) (zr (pt m 8) (yY (k := .i64) m 8 (atW ka) Try.underlying84 zk (by first | exact zJ _ | omega) zk zk (yK m (8 + (atW ka) * 1) (.bool false) zk zk (zK f ((wO (by first | exact zJ _ | omega)).trans (congrArg some hw_n_2))) (nQ (zF (zZ (zB (wR (zG (zr (pt b1 5) (zOA 5 [(I3 lo), (I3 hi)] l (zc (wK ac ds lo hi _ d.rd zo (by exact cz) zo zo) ?_))))))))))))))))))))⟩
    replace q := (q.trans2 (Ch.of_below bx) (fun _ h => h.elim)).trans2 (Ch.of_wrote bj) (fun k e => e ▸ aa)
    rintro _ g4 ⟨rfl, ch⟩
    have s := s.trans (bj.below ad)
    have s := s.trans (ch.mono n)
    replace n := Nat.le_trans n (ch.size)
    refine zG (zr (Value.agg #[(I3 ((meetsD ds lo hi).1)), (I3 ((meetsD ds lo hi).2.1))]) (zr (S ((meetsD ds lo hi).2.2.1)) (zr (.bool ((meetsD ds lo hi).2.2.2)) (zN [(I3 0), (I3 0)] 29 ?_))))
    intro d7 h9 aw
    have a := zA a ch
    have o := qB (yD a) aw
    have ag : B_ ≤ d7 := by rw [aw.num]; exact n
    replace q := q.trans2 (Ch.of_below ch) (fun _ h => h.elim)
    have y : (World.heap w).size ≤ d7 ∨ (Dw m t r) d7 := .inl (by rw [aw.num]; exact q.size)
    have s := s.trans (aw.below.mono n)
    replace n := Nat.le_trans n (aw.below.size)
    have j := aw.here
    refine qC [(I3 ((meetsD ds lo hi).1)), (I3 ((meetsD ds lo hi).2.1))] j ?_
    intro hr cd
    replace n := Nat.le_trans n (Nat.le_of_eq cd.size.symm)
    have f := zA (zA f ch) aw.below
    have f := zC f cd (zH f j zi)
    have i := zA (zA i ch) aw.below
    have i := zC i cd (zH i j zi)
    have d := (d.below ch).below aw.below
    have d := d.wrote cd (d.ne j zi)
    have b := (b.below ch).below aw.below
    have b := b.wrote cd (b.ne j zi)
    have j := cd.here
    have a := zC (zA a aw.below) cd o
    refine zI (zI (nR (wG a (wG j (xE [(I3 ((metV ([] : List UInt8) (metG xs lo hi)).1)), (I3 ((metV ([] : List UInt8) (metG xs lo hi)).2.1))] [(I3 ((meetsD ds lo hi).1)), (I3 ((meetsD ds lo hi).2.1))] (((metV ([] : List UInt8) (metG xs lo hi)).1) == ((meetsD ds lo hi).1) && ((metV ([] : List UInt8) (metG xs lo hi)).2.1) == ((meetsD ds lo hi).2.1)) zk zk zk (xF ((metV ([] : List UInt8) (metG xs lo hi)).1) ((metV ([] : List UInt8) (metG xs lo hi)).2.1) ((meetsD ds lo hi).1) ((meetsD ds lo hi).2.1)) ?_ ?_)))))
    ·intro fy
     replace fy : ((metV ([] : List UInt8) (metG xs lo hi)).1) = ((meetsD ds lo hi).1) ∧ ((metV ([] : List UInt8) (metG xs lo hi)).2.1) = ((meetsD ds lo hi).2.1) := by simpa using fy
     refine zG (zw (zG (zw (zG (zw (vC ((metV ([] : List UInt8) (metG xs lo hi)).2.2.1) ((meetsD ds lo hi).2.2.1) rfl zk zk ?_ ?_))))))
     ·intro hx
      refine xN (zG (zw (zG (zw (zG (zw (L_bEq ((metV ([] : List UInt8) (metG xs lo hi)).2.2.2) ((meetsD ds lo hi).2.2.2) zk zk (fun c e => by cases c <;> cases e <;> kernel_rfl) ?_ ?_)))))))
      ·intro ir
       refine xN (zI (nQ (yB (yJ [(.bool true)] ?_))))
       have er : xs = (chgX do_ xs lo hi val) := by exact (chgX3 zo).symm
       have ed : ds = (chgD do_ ds lo hi val) := by exact (chgD3 zo).symm
       replace q := (q.trans2 (Ch.of_below aw.below) (fun _ h => h.elim)).trans2 (Ch.of_wrote cd) (fun k e => e ▸ y)
       exact ⟨_, ac, rfl, (by rw [wT hw_r_1]; exact f), i, b.cast er, z, d.cast ed, q⟩
      intro d5
      exfalso; first | exact d5 (by rw [hrel.meets]) | (rw [hrel.meets] at d5; simp at d5; done)
     intro du
     exfalso; first | exact du (by rw [hrel.meets]) | (rw [hrel.meets] at du; simp at du; done)
    intro eg
    exfalso; first | exact eg (by rw [hrel.meets]) | (rw [hrel.meets] at eg; simp at eg; done)
   skip
   refine yL 13 rfl ?_ rfl
   refine zN [(I3 0), (I3 0)] 29 ?_
   intro d9 im a4
   have ad : B_ ≤ d9 := by rw [a4.num]; exact n
   replace q := (q.trans2 (Ch.of_below u) (fun _ h => h.elim)).trans2 (Ch.of_below p) (fun _ h => h.elim)
   have aa : (World.heap w).size ≤ d9 ∨ (Dw m t r) d9 := .inl (by rw [a4.num]; exact q.size)
   have s := s.trans (a4.below.mono n)
   replace n := Nat.le_trans n (a4.below.size)
   have a := a4.here
   refine zR ?_
   refine ⟨rfl, yF 5 zk (yL 5 rfl ?_ rfl)⟩
   have f := zA (zA f p) a4.below
   refine yK m (0 + (atW ka) * 1) (pt t 0) zk zk (zK f ((xP (by first | exact zJ _ | omega)).trans (congrArg some hw_p_0))) (zR ?_)
   refine ⟨rfl, yF 8 zk (yL 8 rfl ?_ rfl)⟩
   have i := zA (zA (zA (zA i ab.below) u) p) a4.below
   have b := (((b.below ab.below).below u).below p).below a4.below
   refine zc (xW t r xs lo hi _ i b.rd (by exact bm) zo) ?_
   replace q := q.trans2 (Ch.of_below a4.below) (fun _ h => h.elim)
   rintro _ il ⟨rfl, bq⟩
   have s := s.trans (bq.mono n)
   replace n := Nat.le_trans n (bq.size)
   refine zR ?_
   refine ⟨rfl, ip 9 rfl (.tuple #[(Value.agg #[(I3 ((metV ([] : List UInt8) (metG xs lo hi)).1)), (I3 ((metV ([] : List UInt8) (metG xs lo hi)).2.1))]), (S ((metV ([] : List UInt8) (metG xs lo hi)).2.2.1)), (.bool ((metV ([] : List UInt8) (metG xs lo hi)).2.2.2))]) (ip 10 rfl (Value.agg #[(I3 ((metV ([] : List UInt8) (metG xs lo hi)).1)), (I3 ((metV ([] : List UInt8) (metG xs lo hi)).2.1))]) (ip 11 rfl (S ((metV ([] : List UInt8) (metG xs lo hi)).2.2.1)) (ip 12 rfl (.bool ((metV ([] : List UInt8) (metG xs lo hi)).2.2.2)) (yF 14 zk (yL 14 rfl ?_ rfl)))))⟩
   have a := zA a bq
   refine qC [(I3 ((metV ([] : List UInt8) (metG xs lo hi)).1)), (I3 ((metV ([] : List UInt8) (metG xs lo hi)).2.1))] a ?_
   intro g7 bg
   replace n := Nat.le_trans n (Nat.le_of_eq bg.size.symm)
   have f := zA f bq
   have f := zC f bg (zH f a zi)
   have i := zA i bq
   have i := zC i bg (zH i a zi)
   have l := zA (zA l a4.below) bq
   have l := zC l bg (zH l a zi)
   have d := ((((d.below ab.below).below u).below p).below a4.below).below bq
   have d := d.wrote bg (d.ne a zi)
   have b := b.below bq
   have b := b.wrote bg (b.ne a zi)
   have a := bg.here
   refine zR ?_
   refine ⟨rfl, ip 15 rfl (S ((metV ([] : List UInt8) (metG xs lo hi)).2.2.1)) (ip 16 rfl (.bool ((metV ([] : List UInt8) (metG xs lo hi)).2.2.2)) (yS zk (zB (yA (wR (zG (zG (zr (pt m 0) (zr (pt m 8) (yY (k := .i64) m 8 (atW ka) Try.underlying84 zk (by first | exact zJ _ | omega) zk zk (yK m (8 + (atW ka) * 1) (.bool false) zk zk (zK f ((wO (by first | exact zJ _ | omega)).trans (congrArg some hw_n_2))) (nQ (zF (zZ (zB (wR (zG (zr (pt b1 5) (zOA 5 [(I3 lo), (I3 hi)] l (zc (wK ac ds lo hi _ d.rd zo (by exact cz) zo zo) ?_))))))))))))))))))))⟩
   replace q := (q.trans2 (Ch.of_below bq) (fun _ h => h.elim)).trans2 (Ch.of_wrote bg) (fun k e => e ▸ aa)
   rintro _ ii ⟨rfl, cn⟩
   have s := s.trans (bg.below ad)
   have s := s.trans (cn.mono n)
   replace n := Nat.le_trans n (cn.size)
   refine zG (zr (Value.agg #[(I3 ((meetsD ds lo hi).1)), (I3 ((meetsD ds lo hi).2.1))]) (zr (S ((meetsD ds lo hi).2.2.1)) (zr (.bool ((meetsD ds lo hi).2.2.2)) (zN [(I3 0), (I3 0)] 29 ?_))))
   intro e1 jx ax
   have a := zA a cn
   have o := qB (yD a) ax
   have ag : B_ ≤ e1 := by rw [ax.num]; exact n
   replace q := q.trans2 (Ch.of_below cn) (fun _ h => h.elim)
   have y : (World.heap w).size ≤ e1 ∨ (Dw m t r) e1 := .inl (by rw [ax.num]; exact q.size)
   have s := s.trans (ax.below.mono n)
   replace n := Nat.le_trans n (ax.below.size)
   have j := ax.here
   refine qC [(I3 ((meetsD ds lo hi).1)), (I3 ((meetsD ds lo hi).2.1))] j ?_
   intro je ci
   replace n := Nat.le_trans n (Nat.le_of_eq ci.size.symm)
   have f := zA (zA f cn) ax.below
   have f := zC f ci (zH f j zi)
   have i := zA (zA i cn) ax.below
   have i := zC i ci (zH i j zi)
   have d := (d.below cn).below ax.below
   have d := d.wrote ci (d.ne j zi)
   have b := (b.below cn).below ax.below
   have b := b.wrote ci (b.ne j zi)
   have j := ci.here
   have a := zC (zA a ax.below) ci o
   refine zI (zI (nR (wG a (wG j (xE [(I3 ((metV ([] : List UInt8) (metG xs lo hi)).1)), (I3 ((metV ([] : List UInt8) (metG xs lo hi)).2.1))] [(I3 ((meetsD ds lo hi).1)), (I3 ((meetsD ds lo hi).2.1))] (((metV ([] : List UInt8) (metG xs lo hi)).1) == ((meetsD ds lo hi).1) && ((metV ([] : List UInt8) (metG xs lo hi)).2.1) == ((meetsD ds lo hi).2.1)) zk zk zk (xF ((metV ([] : List UInt8) (metG xs lo hi)).1) ((metV ([] : List UInt8) (metG xs lo hi)).2.1) ((meetsD ds lo hi).1) ((meetsD ds lo hi).2.1)) ?_ ?_)))))
   ·intro f1
    replace f1 : ((metV ([] : List UInt8) (metG xs lo hi)).1) = ((meetsD ds lo hi).1) ∧ ((metV ([] : List UInt8) (metG xs lo hi)).2.1) = ((meetsD ds lo hi).2.1) := by simpa using f1
    refine zG (zw (zG (zw (zG (zw (vC ((metV ([] : List UInt8) (metG xs lo hi)).2.2.1) ((meetsD ds lo hi).2.2.1) rfl zk zk ?_ ?_))))))
    ·intro h6
     refine xN (zG (zw (zG (zw (zG (zw (L_bEq ((metV ([] : List UInt8) (metG xs lo hi)).2.2.2) ((meetsD ds lo hi).2.2.2) zk zk (fun c e => by cases c <;> cases e <;> kernel_rfl) ?_ ?_)))))))
     ·intro iy
      refine xN (zI (nQ (yB (yJ [(.bool true)] ?_))))
      have er : xs = (chgX do_ xs lo hi val) := by exact (chgX3 zo).symm
      have ed : ds = (chgD do_ ds lo hi val) := by exact (chgD3 zo).symm
      replace q := (q.trans2 (Ch.of_below ax.below) (fun _ h => h.elim)).trans2 (Ch.of_wrote ci) (fun k e => e ▸ y)
      exact ⟨_, ac, rfl, (by rw [wT hw_r_1]; exact f), i, b.cast er, z, d.cast ed, q⟩
     intro dw
     exfalso; first | exact dw (by rw [hrel.meets]) | (rw [hrel.meets] at dw; simp at dw; done)
    intro dy
    exfalso; first | exact dy (by rw [hrel.meets]) | (rw [hrel.meets] at dy; simp at dy; done)
   intro ez
   exfalso; first | exact ez (by rw [hrel.meets]) | (rw [hrel.meets] at ez; simp at ez; done)
  skip
  refine yL 13 rfl ?_ rfl
  refine zN [(I3 0), (I3 0)] 29 ?_
  intro ew i3 ay
  have ad : B_ ≤ ew := by rw [ay.num]; exact n
  replace q := (q.trans2 (Ch.of_below u) (fun _ h => h.elim)).trans2 (Ch.of_below p) (fun _ h => h.elim)
  have aa : (World.heap w).size ≤ ew ∨ (Dw m t r) ew := .inl (by rw [ay.num]; exact q.size)
  have s := s.trans (ay.below.mono n)
  replace n := Nat.le_trans n (ay.below.size)
  have a := ay.here
  refine zR ?_
  refine ⟨rfl, yF 4 zk (yL 4 rfl ?_ rfl)⟩
  refine yY (k := .i64) m 0 (atW ka) Try.underlying80 zk (by first | exact zJ _ | omega) zk zk (zR ?_)
  refine ⟨rfl, yF 5 zk (yL 5 rfl ?_ rfl)⟩
  have f := zA (zA f p) ay.below
  refine yK m (0 + (atW ka) * 1) (pt t 0) zk zk (zK f ((xP (by first | exact zJ _ | omega)).trans (congrArg some hw_p_0))) (zR ?_)
  refine ⟨rfl, yF 8 zk (yL 8 rfl ?_ rfl)⟩
  have i := zA (zA (zA (zA i ab.below) u) p) ay.below
  have b := (((b.below ab.below).below u).below p).below ay.below
  refine zc (xW t r xs lo hi _ i b.rd (by exact bm) zo) ?_
  replace q := q.trans2 (Ch.of_below ay.below) (fun _ h => h.elim)
  rintro _ j7 ⟨rfl, bb⟩
  have s := s.trans (bb.mono n)
  replace n := Nat.le_trans n (bb.size)
  refine zR ?_
  refine ⟨rfl, ip 9 rfl (.tuple #[(Value.agg #[(I3 ((metV ([] : List UInt8) (metG xs lo hi)).1)), (I3 ((metV ([] : List UInt8) (metG xs lo hi)).2.1))]), (S ((metV ([] : List UInt8) (metG xs lo hi)).2.2.1)), (.bool ((metV ([] : List UInt8) (metG xs lo hi)).2.2.2))]) (ip 10 rfl (Value.agg #[(I3 ((metV ([] : List UInt8) (metG xs lo hi)).1)), (I3 ((metV ([] : List UInt8) (metG xs lo hi)).2.1))]) (ip 11 rfl (S ((metV ([] : List UInt8) (metG xs lo hi)).2.2.1)) (ip 12 rfl (.bool ((metV ([] : List UInt8) (metG xs lo hi)).2.2.2)) (yF 14 zk (yL 14 rfl ?_ rfl)))))⟩
  have a := zA a bb
  refine qC [(I3 ((metV ([] : List UInt8) (metG xs lo hi)).1)), (I3 ((metV ([] : List UInt8) (metG xs lo hi)).2.1))] a ?_
  intro i6 bd
  replace n := Nat.le_trans n (Nat.le_of_eq bd.size.symm)
  have f := zA f bb
  have f := zC f bd (zH f a zi)
  have i := zA i bb
  have i := zC i bd (zH i a zi)
  have l := zA (zA l ay.below) bb
  have l := zC l bd (zH l a zi)
  have d := ((((d.below ab.below).below u).below p).below ay.below).below bb
  have d := d.wrote bd (d.ne a zi)
  have b := b.below bb
  have b := b.wrote bd (b.ne a zi)
  have a := bd.here
  refine zR ?_
  refine ⟨rfl, ip 15 rfl (S ((metV ([] : List UInt8) (metG xs lo hi)).2.2.1)) (ip 16 rfl (.bool ((metV ([] : List UInt8) (metG xs lo hi)).2.2.2)) (yS zk (zB (yA (wR (zG (zG (zr (pt m 0) (zr (pt m 8) (yY (k := .i64) m 8 (atW ka) Try.underlying84 zk (by first | exact zJ _ | omega) zk zk (yK m (8 + (atW ka) * 1) (.bool false) zk zk (zK f ((wO (by first | exact zJ _ | omega)).trans (congrArg some hw_n_2))) (nQ (zF (zZ (zB (wR (zG (zr (pt b1 5) (zOA 5 [(I3 lo), (I3 hi)] l (zc (wK ac ds lo hi _ d.rd zo (by exact cz) zo zo) ?_))))))))))))))))))))⟩
  replace q := (q.trans2 (Ch.of_below bb) (fun _ h => h.elim)).trans2 (Ch.of_wrote bd) (fun k e => e ▸ aa)
  rintro _ iw ⟨rfl, cf⟩
  have s := s.trans (bd.below ad)
  have s := s.trans (cf.mono n)
  replace n := Nat.le_trans n (cf.size)
  refine zG (zr (Value.agg #[(I3 ((meetsD ds lo hi).1)), (I3 ((meetsD ds lo hi).2.1))]) (zr (S ((meetsD ds lo hi).2.2.1)) (zr (.bool ((meetsD ds lo hi).2.2.2)) (zN [(I3 0), (I3 0)] 29 ?_))))
  intro fb jp am
  have a := zA a cf
  have o := qB (yD a) am
  have ag : B_ ≤ fb := by rw [am.num]; exact n
  replace q := q.trans2 (Ch.of_below cf) (fun _ h => h.elim)
  have y : (World.heap w).size ≤ fb ∨ (Dw m t r) fb := .inl (by rw [am.num]; exact q.size)
  have s := s.trans (am.below.mono n)
  replace n := Nat.le_trans n (am.below.size)
  have j := am.here
  refine qC [(I3 ((meetsD ds lo hi).1)), (I3 ((meetsD ds lo hi).2.1))] j ?_
  intro ho b7
  replace n := Nat.le_trans n (Nat.le_of_eq b7.size.symm)
  have f := zA (zA f cf) am.below
  have f := zC f b7 (zH f j zi)
  have i := zA (zA i cf) am.below
  have i := zC i b7 (zH i j zi)
  have d := (d.below cf).below am.below
  have d := d.wrote b7 (d.ne j zi)
  have b := (b.below cf).below am.below
  have b := b.wrote b7 (b.ne j zi)
  have j := b7.here
  have a := zC (zA a am.below) b7 o
  refine zI (zI (nR (wG a (wG j (xE [(I3 ((metV ([] : List UInt8) (metG xs lo hi)).1)), (I3 ((metV ([] : List UInt8) (metG xs lo hi)).2.1))] [(I3 ((meetsD ds lo hi).1)), (I3 ((meetsD ds lo hi).2.1))] (((metV ([] : List UInt8) (metG xs lo hi)).1) == ((meetsD ds lo hi).1) && ((metV ([] : List UInt8) (metG xs lo hi)).2.1) == ((meetsD ds lo hi).2.1)) zk zk zk (xF ((metV ([] : List UInt8) (metG xs lo hi)).1) ((metV ([] : List UInt8) (metG xs lo hi)).2.1) ((meetsD ds lo hi).1) ((meetsD ds lo hi).2.1)) ?_ ?_)))))
  ·intro fs
   replace fs : ((metV ([] : List UInt8) (metG xs lo hi)).1) = ((meetsD ds lo hi).1) ∧ ((metV ([] : List UInt8) (metG xs lo hi)).2.1) = ((meetsD ds lo hi).2.1) := by simpa using fs
   refine zG (zw (zG (zw (zG (zw (vC ((metV ([] : List UInt8) (metG xs lo hi)).2.2.1) ((meetsD ds lo hi).2.2.1) rfl zk zk ?_ ?_))))))
   ·intro g6
    refine xN (zG (zw (zG (zw (zG (zw (L_bEq ((metV ([] : List UInt8) (metG xs lo hi)).2.2.2) ((meetsD ds lo hi).2.2.2) zk zk (fun c e => by cases c <;> cases e <;> kernel_rfl) ?_ ?_)))))))
    ·intro jn
     refine xN (zI (nQ (yB (yJ [(.bool true)] ?_))))
     have er : xs = (chgX do_ xs lo hi val) := by exact (chgX3 zo).symm
     have ed : ds = (chgD do_ ds lo hi val) := by exact (chgD3 zo).symm
     replace q := (q.trans2 (Ch.of_below am.below) (fun _ h => h.elim)).trans2 (Ch.of_wrote b7) (fun k e => e ▸ y)
     exact ⟨_, ac, rfl, (by rw [wT hw_r_1]; exact f), i, b.cast er, z, d.cast ed, q⟩
    intro fn
    exfalso; first | exact fn (by rw [hrel.meets]) | (rw [hrel.meets] at fn; simp at fn; done)
   intro e2
   exfalso; first | exact e2 (by rw [hrel.meets]) | (rw [hrel.meets] at e2; simp at e2; done)
  intro d6
  exfalso; first | exact d6 (by rw [hrel.meets]) | (rw [hrel.meets] at d6; simp at d6; done)
 skip
 refine yL 13 rfl ?_ rfl
 refine zN [(I3 0), (I3 0)] 29 ?_
 intro ek jj ae
 have ad : B_ ≤ ek := by rw [ae.num]; exact n
 replace q := (q.trans2 (Ch.of_below u) (fun _ h => h.elim)).trans2 (Ch.of_below p) (fun _ h => h.elim)
 have aa : (World.heap w).size ≤ ek ∨ (Dw m t r) ek := .inl (by rw [ae.num]; exact q.size)
 have s := s.trans (ae.below.mono n)
 replace n := Nat.le_trans n (ae.below.size)
 have a := ae.here
 refine zR ?_
 refine ⟨rfl, wM 4 7 zk ?_ ?_⟩
 ·skip
  refine yL 4 rfl ?_ rfl
  refine yY (k := .i64) m 0 (atW ka) Try.underlying80 zk (by first | exact zJ _ | omega) zk zk (zR ?_)
  refine ⟨rfl, wM 5 7 zk ?_ ?_⟩
  ·skip
   refine yL 5 rfl ?_ rfl
   have f := zA (zA f p) ae.below
   refine yK m (0 + (atW ka) * 1) (pt t 0) zk zk (zK f ((xP (by first | exact zJ _ | omega)).trans (congrArg some hw_p_0))) (zR ?_)
   refine ⟨rfl, yF 7 zk (yL 7 rfl ?_ rfl)⟩
   have l := zA (zA l p) ae.below
   refine zOA 5 [(I3 lo), (I3 hi)] l (zR ?_)
   refine ⟨rfl, yF 8 zk (yL 8 rfl ?_ rfl)⟩
   have i := zA (zA (zA (zA i ab.below) u) p) ae.below
   have b := (((b.below ab.below).below u).below p).below ae.below
   refine zc (xW t r xs lo hi _ i b.rd (by exact bm) zo) ?_
   replace q := q.trans2 (Ch.of_below ae.below) (fun _ h => h.elim)
   rintro _ hp ⟨rfl, bz⟩
   have s := s.trans (bz.mono n)
   replace n := Nat.le_trans n (bz.size)
   refine zR ?_
   refine ⟨rfl, ip 9 rfl (.tuple #[(Value.agg #[(I3 ((metV ([] : List UInt8) (metG xs lo hi)).1)), (I3 ((metV ([] : List UInt8) (metG xs lo hi)).2.1))]), (S ((metV ([] : List UInt8) (metG xs lo hi)).2.2.1)), (.bool ((metV ([] : List UInt8) (metG xs lo hi)).2.2.2))]) (ip 10 rfl (Value.agg #[(I3 ((metV ([] : List UInt8) (metG xs lo hi)).1)), (I3 ((metV ([] : List UInt8) (metG xs lo hi)).2.1))]) (ip 11 rfl (S ((metV ([] : List UInt8) (metG xs lo hi)).2.2.1)) (ip 12 rfl (.bool ((metV ([] : List UInt8) (metG xs lo hi)).2.2.2)) (yF 14 zk (yL 14 rfl ?_ rfl)))))⟩
   have a := zA a bz
   refine qC [(I3 ((metV ([] : List UInt8) (metG xs lo hi)).1)), (I3 ((metV ([] : List UInt8) (metG xs lo hi)).2.1))] a ?_
   intro j3 bt
   replace n := Nat.le_trans n (Nat.le_of_eq bt.size.symm)
   have f := zA f bz
   have f := zC f bt (zH f a zi)
   have i := zA i bz
   have i := zC i bt (zH i a zi)
   have l := zA l bz
   have l := zC l bt (zH l a zi)
   have d := ((((d.below ab.below).below u).below p).below ae.below).below bz
   have d := d.wrote bt (d.ne a zi)
   have b := b.below bz
   have b := b.wrote bt (b.ne a zi)
   have a := bt.here
   refine zR ?_
   refine ⟨rfl, ip 15 rfl (S ((metV ([] : List UInt8) (metG xs lo hi)).2.2.1)) (ip 16 rfl (.bool ((metV ([] : List UInt8) (metG xs lo hi)).2.2.2)) (yS zk (zB (yA (wR (zG (zG (zr (pt m 0) (zr (pt m 8) (yY (k := .i64) m 8 (atW ka) Try.underlying84 zk (by first | exact zJ _ | omega) zk zk (yK m (8 + (atW ka) * 1) (.bool false) zk zk (zK f ((wO (by first | exact zJ _ | omega)).trans (congrArg some hw_n_2))) (nQ (zF (zZ (zB (wR (zG (zr (pt b1 5) (zOA 5 [(I3 lo), (I3 hi)] l (zc (wK ac ds lo hi _ d.rd zo (by exact cz) zo zo) ?_))))))))))))))))))))⟩
   replace q := (q.trans2 (Ch.of_below bz) (fun _ h => h.elim)).trans2 (Ch.of_wrote bt) (fun k e => e ▸ aa)
   rintro _ jm ⟨rfl, cg⟩
   have s := s.trans (bt.below ad)
   have s := s.trans (cg.mono n)
   replace n := Nat.le_trans n (cg.size)
   refine zG (zr (Value.agg #[(I3 ((meetsD ds lo hi).1)), (I3 ((meetsD ds lo hi).2.1))]) (zr (S ((meetsD ds lo hi).2.2.1)) (zr (.bool ((meetsD ds lo hi).2.2.2)) (zN [(I3 0), (I3 0)] 29 ?_))))
   intro ff h2 au
   have a := zA a cg
   have o := qB (yD a) au
   have ag : B_ ≤ ff := by rw [au.num]; exact n
   replace q := q.trans2 (Ch.of_below cg) (fun _ h => h.elim)
   have y : (World.heap w).size ≤ ff ∨ (Dw m t r) ff := .inl (by rw [au.num]; exact q.size)
   have s := s.trans (au.below.mono n)
   replace n := Nat.le_trans n (au.below.size)
   have j := au.here
   refine qC [(I3 ((meetsD ds lo hi).1)), (I3 ((meetsD ds lo hi).2.1))] j ?_
   intro j8 ck
   replace n := Nat.le_trans n (Nat.le_of_eq ck.size.symm)
   have f := zA (zA f cg) au.below
   have f := zC f ck (zH f j zi)
   have i := zA (zA i cg) au.below
   have i := zC i ck (zH i j zi)
   have d := (d.below cg).below au.below
   have d := d.wrote ck (d.ne j zi)
   have b := (b.below cg).below au.below
   have b := b.wrote ck (b.ne j zi)
   have j := ck.here
   have a := zC (zA a au.below) ck o
   refine zI (zI (nR (wG a (wG j (xE [(I3 ((metV ([] : List UInt8) (metG xs lo hi)).1)), (I3 ((metV ([] : List UInt8) (metG xs lo hi)).2.1))] [(I3 ((meetsD ds lo hi).1)), (I3 ((meetsD ds lo hi).2.1))] (((metV ([] : List UInt8) (metG xs lo hi)).1) == ((meetsD ds lo hi).1) && ((metV ([] : List UInt8) (metG xs lo hi)).2.1) == ((meetsD ds lo hi).2.1)) zk zk zk (xF ((metV ([] : List UInt8) (metG xs lo hi)).1) ((metV ([] : List UInt8) (metG xs lo hi)).2.1) ((meetsD ds lo hi).1) ((meetsD ds lo hi).2.1)) ?_ ?_)))))
   ·intro f4
    replace f4 : ((metV ([] : List UInt8) (metG xs lo hi)).1) = ((meetsD ds lo hi).1) ∧ ((metV ([] : List UInt8) (metG xs lo hi)).2.1) = ((meetsD ds lo hi).2.1) := by simpa using f4
    refine zG (zw (zG (zw (zG (zw (vC ((metV ([] : List UInt8) (metG xs lo hi)).2.2.1) ((meetsD ds lo hi).2.2.1) rfl zk zk ?_ ?_))))))
    ·intro ju
     refine xN (zG (zw (zG (zw (zG (zw (L_bEq ((metV ([] : List UInt8) (metG xs lo hi)).2.2.2) ((meetsD ds lo hi).2.2.2) zk zk (fun c e => by cases c <;> cases e <;> kernel_rfl) ?_ ?_)))))))
     ·intro ib
      refine xN (zI (nQ (yB (yJ [(.bool true)] ?_))))
      have er : xs = (chgX do_ xs lo hi val) := by exact (chgX3 zo).symm
      have ed : ds = (chgD do_ ds lo hi val) := by exact (chgD3 zo).symm
      replace q := (q.trans2 (Ch.of_below au.below) (fun _ h => h.elim)).trans2 (Ch.of_wrote ck) (fun k e => e ▸ y)
      exact ⟨_, ac, rfl, (by rw [wT hw_r_1]; exact f), i, b.cast er, z, d.cast ed, q⟩
     intro d2
     exfalso; first | exact d2 (by rw [hrel.meets]) | (rw [hrel.meets] at d2; simp at d2; done)
    intro d0
    exfalso; first | exact d0 (by rw [hrel.meets]) | (rw [hrel.meets] at d0; simp at d0; done)
   intro fd
   exfalso; first | exact fd (by rw [hrel.meets]) | (rw [hrel.meets] at fd; simp at fd; done)
  skip
  refine yL 7 rfl ?_ rfl
  have l := zA (zA l p) ae.below
  refine zOA 5 [(I3 lo), (I3 hi)] l (zR ?_)
  refine ⟨rfl, yF 5 zk (yL 5 rfl ?_ rfl)⟩
  have f := zA (zA f p) ae.below
  refine yK m (0 + (atW ka) * 1) (pt t 0) zk zk (zK f ((xP (by first | exact zJ _ | omega)).trans (congrArg some hw_p_0))) (zR ?_)
  refine ⟨rfl, yF 8 zk (yL 8 rfl ?_ rfl)⟩
  have i := zA (zA (zA (zA i ab.below) u) p) ae.below
  have b := (((b.below ab.below).below u).below p).below ae.below
  refine zc (xW t r xs lo hi _ i b.rd (by exact bm) zo) ?_
  replace q := q.trans2 (Ch.of_below ae.below) (fun _ h => h.elim)
  rintro _ jl ⟨rfl, be⟩
  have s := s.trans (be.mono n)
  replace n := Nat.le_trans n (be.size)
  refine zR ?_
  refine ⟨rfl, ip 9 rfl (.tuple #[(Value.agg #[(I3 ((metV ([] : List UInt8) (metG xs lo hi)).1)), (I3 ((metV ([] : List UInt8) (metG xs lo hi)).2.1))]), (S ((metV ([] : List UInt8) (metG xs lo hi)).2.2.1)), (.bool ((metV ([] : List UInt8) (metG xs lo hi)).2.2.2))]) (ip 10 rfl (Value.agg #[(I3 ((metV ([] : List UInt8) (metG xs lo hi)).1)), (I3 ((metV ([] : List UInt8) (metG xs lo hi)).2.1))]) (ip 11 rfl (S ((metV ([] : List UInt8) (metG xs lo hi)).2.2.1)) (ip 12 rfl (.bool ((metV ([] : List UInt8) (metG xs lo hi)).2.2.2)) (yF 14 zk (yL 14 rfl ?_ rfl)))))⟩
  have a := zA a be
  refine qC [(I3 ((metV ([] : List UInt8) (metG xs lo hi)).1)), (I3 ((metV ([] : List UInt8) (metG xs lo hi)).2.1))] a ?_
  intro hy bv
  replace n := Nat.le_trans n (Nat.le_of_eq bv.size.symm)
  have f := zA f be
  have f := zC f bv (zH f a zi)
  have i := zA i be
  have i := zC i bv (zH i a zi)
  have l := zA l be
  have l := zC l bv (zH l a zi)
  have d := ((((d.below ab.below).below u).below p).below ae.below).below be
  have d := d.wrote bv (d.ne a zi)
  have b := b.below be
  have b := b.wrote bv (b.ne a zi)
  have a := bv.here
  refine zR ?_
  refine ⟨rfl, ip 15 rfl (S ((metV ([] : List UInt8) (metG xs lo hi)).2.2.1)) (ip 16 rfl (.bool ((metV ([] : List UInt8) (metG xs lo hi)).2.2.2)) (yS zk (zB (yA (wR (zG (zG (zr (pt m 0) (zr (pt m 8) (yY (k := .i64) m 8 (atW ka) Try.underlying84 zk (by first | exact zJ _ | omega) zk zk (yK m (8 + (atW ka) * 1) (.bool false) zk zk (zK f ((wO (by first | exact zJ _ | omega)).trans (congrArg some hw_n_2))) (nQ (zF (zZ (zB (wR (zG (zr (pt b1 5) (zOA 5 [(I3 lo), (I3 hi)] l (zc (wK ac ds lo hi _ d.rd zo (by exact cz) zo zo) ?_))))))))))))))))))))⟩
  replace q := (q.trans2 (Ch.of_below be) (fun _ h => h.elim)).trans2 (Ch.of_wrote bv) (fun k e => e ▸ aa)
  rintro _ h5 ⟨rfl, co⟩
  have s := s.trans (bv.below ad)
  have s := s.trans (co.mono n)
  replace n := Nat.le_trans n (co.size)
  refine zG (zr (Value.agg #[(I3 ((meetsD ds lo hi).1)), (I3 ((meetsD ds lo hi).2.1))]) (zr (S ((meetsD ds lo hi).2.2.1)) (zr (.bool ((meetsD ds lo hi).2.2.2)) (zN [(I3 0), (I3 0)] 29 ?_))))
  intro eb jb aq
  have a := zA a co
  have o := qB (yD a) aq
  have ag : B_ ≤ eb := by rw [aq.num]; exact n
  replace q := q.trans2 (Ch.of_below co) (fun _ h => h.elim)
  have y : (World.heap w).size ≤ eb ∨ (Dw m t r) eb := .inl (by rw [aq.num]; exact q.size)
  have s := s.trans (aq.below.mono n)
  replace n := Nat.le_trans n (aq.below.size)
  have j := aq.here
  refine qC [(I3 ((meetsD ds lo hi).1)), (I3 ((meetsD ds lo hi).2.1))] j ?_
  intro ke cp
  replace n := Nat.le_trans n (Nat.le_of_eq cp.size.symm)
  have f := zA (zA f co) aq.below
  have f := zC f cp (zH f j zi)
  have i := zA (zA i co) aq.below
  have i := zC i cp (zH i j zi)
  have d := (d.below co).below aq.below
  have d := d.wrote cp (d.ne j zi)
  have b := (b.below co).below aq.below
  have b := b.wrote cp (b.ne j zi)
  have j := cp.here
  have a := zC (zA a aq.below) cp o
  refine zI (zI (nR (wG a (wG j (xE [(I3 ((metV ([] : List UInt8) (metG xs lo hi)).1)), (I3 ((metV ([] : List UInt8) (metG xs lo hi)).2.1))] [(I3 ((meetsD ds lo hi).1)), (I3 ((meetsD ds lo hi).2.1))] (((metV ([] : List UInt8) (metG xs lo hi)).1) == ((meetsD ds lo hi).1) && ((metV ([] : List UInt8) (metG xs lo hi)).2.1) == ((meetsD ds lo hi).2.1)) zk zk zk (xF ((metV ([] : List UInt8) (metG xs lo hi)).1) ((metV ([] : List UInt8) (metG xs lo hi)).2.1) ((meetsD ds lo hi).1) ((meetsD ds lo hi).2.1)) ?_ ?_)))))
  ·intro fu
   replace fu : ((metV ([] : List UInt8) (metG xs lo hi)).1) = ((meetsD ds lo hi).1) ∧ ((metV ([] : List UInt8) (metG xs lo hi)).2.1) = ((meetsD ds lo hi).2.1) := by simpa using fu
   refine zG (zw (zG (zw (zG (zw (vC ((metV ([] : List UInt8) (metG xs lo hi)).2.2.1) ((meetsD ds lo hi).2.2.1) rfl zk zk ?_ ?_))))))
   ·intro ij
    refine xN (zG (zw (zG (zw (zG (zw (L_bEq ((metV ([] : List UInt8) (metG xs lo hi)).2.2.2) ((meetsD ds lo hi).2.2.2) zk zk (fun c e => by cases c <;> cases e <;> kernel_rfl) ?_ ?_)))))))
    ·intro hz
     refine xN (zI (nQ (yB (yJ [(.bool true)] ?_))))
     have er : xs = (chgX do_ xs lo hi val) := by exact (chgX3 zo).symm
     have ed : ds = (chgD do_ ds lo hi val) := by exact (chgD3 zo).symm
     replace q := (q.trans2 (Ch.of_below aq.below) (fun _ h => h.elim)).trans2 (Ch.of_wrote cp) (fun k e => e ▸ y)
     exact ⟨_, ac, rfl, (by rw [wT hw_r_1]; exact f), i, b.cast er, z, d.cast ed, q⟩
    intro fo
    exfalso; first | exact fo (by rw [hrel.meets]) | (rw [hrel.meets] at fo; simp at fo; done)
   intro e3
   exfalso; first | exact e3 (by rw [hrel.meets]) | (rw [hrel.meets] at e3; simp at e3; done)
  intro e5
  exfalso; first | exact e5 (by rw [hrel.meets]) | (rw [hrel.meets] at e5; simp at e5; done)
 skip
 refine yL 7 rfl ?_ rfl
 have l := zA (zA l p) ae.below
 refine zOA 5 [(I3 lo), (I3 hi)] l (zR ?_)
 refine ⟨rfl, yF 4 zk (yL 4 rfl ?_ rfl)⟩
 refine yY (k := .i64) m 0 (atW ka) Try.underlying80 zk (by first | exact zJ _ | omega) zk zk (zR ?_)
 refine ⟨rfl, yF 5 zk (yL 5 rfl ?_ rfl)⟩
 have f := zA (zA f p) ae.below
 refine yK m (0 + (atW ka) * 1) (pt t 0) zk zk (zK f ((xP (by first | exact zJ _ | omega)).trans (congrArg some hw_p_0))) (zR ?_)
 refine ⟨rfl, yF 8 zk (yL 8 rfl ?_ rfl)⟩
 have i := zA (zA (zA (zA i ab.below) u) p) ae.below
 have b := (((b.below ab.below).below u).below p).below ae.below
 refine zc (xW t r xs lo hi _ i b.rd (by exact bm) zo) ?_
 replace q := q.trans2 (Ch.of_below ae.below) (fun _ h => h.elim)
 rintro _ kf ⟨rfl, bk⟩
 have s := s.trans (bk.mono n)
 replace n := Nat.le_trans n (bk.size)
 refine zR ?_
 refine ⟨rfl, ip 9 rfl (.tuple #[(Value.agg #[(I3 ((metV ([] : List UInt8) (metG xs lo hi)).1)), (I3 ((metV ([] : List UInt8) (metG xs lo hi)).2.1))]), (S ((metV ([] : List UInt8) (metG xs lo hi)).2.2.1)), (.bool ((metV ([] : List UInt8) (metG xs lo hi)).2.2.2))]) (ip 10 rfl (Value.agg #[(I3 ((metV ([] : List UInt8) (metG xs lo hi)).1)), (I3 ((metV ([] : List UInt8) (metG xs lo hi)).2.1))]) (ip 11 rfl (S ((metV ([] : List UInt8) (metG xs lo hi)).2.2.1)) (ip 12 rfl (.bool ((metV ([] : List UInt8) (metG xs lo hi)).2.2.2)) (yF 14 zk (yL 14 rfl ?_ rfl)))))⟩
 have a := zA a bk
 refine qC [(I3 ((metV ([] : List UInt8) (metG xs lo hi)).1)), (I3 ((metV ([] : List UInt8) (metG xs lo hi)).2.1))] a ?_
 intro h1 bl
 replace n := Nat.le_trans n (Nat.le_of_eq bl.size.symm)
 have f := zA f bk
 have f := zC f bl (zH f a zi)
 have i := zA i bk
 have i := zC i bl (zH i a zi)
 have l := zA l bk
 have l := zC l bl (zH l a zi)
 have d := ((((d.below ab.below).below u).below p).below ae.below).below bk
 have d := d.wrote bl (d.ne a zi)
 have b := b.below bk
 have b := b.wrote bl (b.ne a zi)
 have a := bl.here
 refine zR ?_
 refine ⟨rfl, ip 15 rfl (S ((metV ([] : List UInt8) (metG xs lo hi)).2.2.1)) (ip 16 rfl (.bool ((metV ([] : List UInt8) (metG xs lo hi)).2.2.2)) (yS zk (zB (yA (wR (zG (zG (zr (pt m 0) (zr (pt m 8) (yY (k := .i64) m 8 (atW ka) Try.underlying84 zk (by first | exact zJ _ | omega) zk zk (yK m (8 + (atW ka) * 1) (.bool false) zk zk (zK f ((wO (by first | exact zJ _ | omega)).trans (congrArg some hw_n_2))) (nQ (zF (zZ (zB (wR (zG (zr (pt b1 5) (zOA 5 [(I3 lo), (I3 hi)] l (zc (wK ac ds lo hi _ d.rd zo (by exact cz) zo zo) ?_))))))))))))))))))))⟩
 replace q := (q.trans2 (Ch.of_below bk) (fun _ h => h.elim)).trans2 (Ch.of_wrote bl) (fun k e => e ▸ aa)
 rintro _ i8 ⟨rfl, cv⟩
 have s := s.trans (bl.below ad)
 have s := s.trans (cv.mono n)
 replace n := Nat.le_trans n (cv.size)
 refine zG (zr (Value.agg #[(I3 ((meetsD ds lo hi).1)), (I3 ((meetsD ds lo hi).2.1))]) (zr (S ((meetsD ds lo hi).2.2.1)) (zr (.bool ((meetsD ds lo hi).2.2.2)) (zN [(I3 0), (I3 0)] 29 ?_))))
 intro fa iq an
 have a := zA a cv
 have o := qB (yD a) an
 have ag : B_ ≤ fa := by rw [an.num]; exact n
 replace q := q.trans2 (Ch.of_below cv) (fun _ h => h.elim)
 have y : (World.heap w).size ≤ fa ∨ (Dw m t r) fa := .inl (by rw [an.num]; exact q.size)
 have s := s.trans (an.below.mono n)
 replace n := Nat.le_trans n (an.below.size)
 have j := an.here
 refine qC [(I3 ((meetsD ds lo hi).1)), (I3 ((meetsD ds lo hi).2.1))] j ?_
 intro ji cr
 replace n := Nat.le_trans n (Nat.le_of_eq cr.size.symm)
 have f := zA (zA f cv) an.below
 have f := zC f cr (zH f j zi)
 have i := zA (zA i cv) an.below
 have i := zC i cr (zH i j zi)
 have d := (d.below cv).below an.below
 have d := d.wrote cr (d.ne j zi)
 have b := (b.below cv).below an.below
 have b := b.wrote cr (b.ne j zi)
 have j := cr.here
 have a := zC (zA a an.below) cr o
 refine zI (zI (nR (wG a (wG j (xE [(I3 ((metV ([] : List UInt8) (metG xs lo hi)).1)), (I3 ((metV ([] : List UInt8) (metG xs lo hi)).2.1))] [(I3 ((meetsD ds lo hi).1)), (I3 ((meetsD ds lo hi).2.1))] (((metV ([] : List UInt8) (metG xs lo hi)).1) == ((meetsD ds lo hi).1) && ((metV ([] : List UInt8) (metG xs lo hi)).2.1) == ((meetsD ds lo hi).2.1)) zk zk zk (xF ((metV ([] : List UInt8) (metG xs lo hi)).1) ((metV ([] : List UInt8) (metG xs lo hi)).2.1) ((meetsD ds lo hi).1) ((meetsD ds lo hi).2.1)) ?_ ?_)))))
 ·intro fz
  replace fz : ((metV ([] : List UInt8) (metG xs lo hi)).1) = ((meetsD ds lo hi).1) ∧ ((metV ([] : List UInt8) (metG xs lo hi)).2.1) = ((meetsD ds lo hi).2.1) := by simpa using fz
  refine zG (zw (zG (zw (zG (zw (vC ((metV ([] : List UInt8) (metG xs lo hi)).2.2.1) ((meetsD ds lo hi).2.2.1) rfl zk zk ?_ ?_))))))
  ·intro jr
   refine xN (zG (zw (zG (zw (zG (zw (L_bEq ((metV ([] : List UInt8) (metG xs lo hi)).2.2.2) ((meetsD ds lo hi).2.2.2) zk zk (fun c e => by cases c <;> cases e <;> kernel_rfl) ?_ ?_)))))))
   ·intro jh
    refine xN (zI (nQ (yB (yJ [(.bool true)] ?_))))
    have er : xs = (chgX do_ xs lo hi val) := by exact (chgX3 zo).symm
    have ed : ds = (chgD do_ ds lo hi val) := by exact (chgD3 zo).symm
    replace q := (q.trans2 (Ch.of_below an.below) (fun _ h => h.elim)).trans2 (Ch.of_wrote cr) (fun k e => e ▸ y)
    exact ⟨_, ac, rfl, (by rw [wT hw_r_1]; exact f), i, b.cast er, z, d.cast ed, q⟩
   intro fm
   exfalso; first | exact fm (by rw [hrel.meets]) | (rw [hrel.meets] at fm; simp at fm; done)
  intro fc
  exfalso; first | exact fc (by rw [hrel.meets]) | (rw [hrel.meets] at fc; simp at fc; done)
 intro em
 exfalso; first | exact em (by rw [hrel.meets]) | (rw [hrel.meets] at em; simp at em; done)
end Go.Proofs.Ythjgnnfonofgkaa
end

/- === FKav === -/
section
/- FKav: what a call on the world of chapter 4 leaves alone. My own text. -/
namespace Go.FK
open Go Go.RowKit
theorem obj_ch_w {w w' : World} {bw bm i : Nat} {v : Value} {o : Obj} (h : w.heap[i]? = some o) (hc : Ch (Dw bw bm v) w w') (h1 : i ≠ bw) (h2 : i ≠ bm) (h3 : v.ownBlock ≠ some i) : w'.heap[i]? = some o :=
 zL h hc (fun d => d.elim h1 (fun d => d.elim h2 h3))
theorem turn_new {w w' : World} {k a b : Nat} {o o1 o2 : Obj} (h : w.heap.size ≤ k ∨ (k = a ∨ k = b)) (ho : w'.heap[k]? = some o) (h1 : w'.heap[a]? = some o1) (h2 : w'.heap[b]? = some o2) (n1 : o ≠ o1) (n2 : o ≠ o2) : w.heap.size ≤ k := by
 rcases h with h | rfl | rfl
 ·exact h
 ·rw [ho] at h1; exact absurd (Option.some.inj h1) n1
 ·rw [ho] at h2; exact absurd (Option.some.inj h2) n2
theorem turn_row {α : Type} {w w' : World} {B E k a b : Nat} {enc : α → List Value} {v : Value} {xs : List α} {c1 c2 : Array Value} {E1 E2 : Nat} (h : ∀ g, v.ownBlock = some g → w.heap.size ≤ g ∨ (g = a ∨ g = b)) (hr : Row w' B E k enc v xs)
  (h1 : w'.heap[a]? = some (.cells c1 E1 (0, 0))) (h2 : w'.heap[b]? = some (.cells c2 E2 (0, 0))) (n1 : Nat.beq E1 E = false) (n2 : Nat.beq E2 E = false) : ∀ g, v.ownBlock = some g → w.heap.size ≤ g := fun g hg => by
 have c : E1 ≠ E := fun e => by rw [e, Nat.beq_refl] at n1; cases n1
 have d : E2 ≠ E := fun e => by rw [e, Nat.beq_refl] at n2; cases n2
 rcases h g hg with h | rfl | rfl
 ·exact h
 ·exact absurd hg (hr.ne h1 (by intro cs e; injection e with _ e2 _; exact c e2))
 ·exact absurd hg (hr.ne h2 (by intro cs e; injection e with _ e2 _; exact d e2))
end Go.FK
end
