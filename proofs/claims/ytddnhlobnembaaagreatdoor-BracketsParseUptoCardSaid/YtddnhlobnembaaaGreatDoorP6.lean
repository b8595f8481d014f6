/- Joined by my program pack2.py out of my own texts: Wrb4 Wrb8 As IsF. -/
import Derived.Test.YtddnhlobnembaaaGreatDoorProg
import Derived.Tactics2
import Derived.WalkKit
import Derived.LaidEql
import Derived.Stop.Asserts
import Derived.RowKitTokens
import Derived.BigFrame
import Derived.Test.YtddnhlobnembaaaGreatDoorP1
import Derived.Test.YtddnhlobnembaaaGreatDoorP2
import Derived.Test.YtddnhlobnembaaaGreatDoorP3
import Derived.Test.YtddnhlobnembaaaGreatDoorP4
import Derived.Test.YtddnhlobnembaaaGreatDoorP5
set_option linter.unusedVariables false
set_option linter.unusedSimpArgs false
/- === Wrb4 === -/
section
/- Walks, written by my program walk.py out of the specification rb4.py: each theorem says what one function returns and that it leaves memory as it was. -/
namespace Go.Proofs.YtddnhlobnembaaaGreatDoor
open Go Go.RowKit Go.FK _root_.Go.Proofs.Tryz
set_option maxHeartbeats 4000000
set_option maxRecDepth 100000
theorem eqagg26 (a0 : Int) (a1 : Int) (a2 : Int) (c0 : Int) (c1 : Int) (c2 : Int) (w : World) : (Op.equalIn 10000 26 (.agg #[.int .i32 a0, .int .i32 a1, .int .u8 a2]) (.agg #[.int .i32 c0, .int .i32 c1, .int .u8 c2])).run Tryz.prog w = .ok (a0 == c0 && a1 == c1 && a2 == c2) w := by
 have g : Tryz.prog.underlying 26 = some (.struct (Tryz.prog.fieldsOf 26)) := by kernel_rfl
 have j : Tryz.prog.stoodInHeld 26 = false := by kernel_rfl
 rw [show (10000 : Nat) = 9999 + 1 from rfl, run_equalIn_agg w 9999 26 _ _ g j]
 simp only [Program.fieldsOf, Tryz.underlying26]
 have e := Tryz.isAgg21
 have d := Tryz.sizeOf21
 have b := Tryz.underlying21
 have f := Tryz.isAgg24
 have c := Tryz.sizeOf24
 have a := Tryz.underlying24
 try simp only [S]
 go_simp
 by_cases h : a0 = c0 <;> by_cases k : a1 = c1 <;> by_cases i : a2 = c2 <;> simp [h, k, i]
theorem c_whole8 (al : Nat) (m_rs : Nat) (rs : List (Int × (Int × Int × Int))) (av : Value) (ts : List (Int × Int)) (m : Nat) (t : Value) (ws : List (Int × Int × Int)) (az : Value) (wt : List (Int × Int)) (w : World) (j : w.heap[al]? = some (.cells [(.map (some m_rs)), av].toArray 69 (0, 0))) (i : w.heap[m_rs]? = some (gmObj .i32 vBrk rs)) (b8 : GmAt .i32 vI32 w av ts) (g : w.heap[m]? = some (.cells [t, az].toArray 78 (0, 0))) (ae : Rd w encBrk t ws) (ca : Rd w encTw az wt) (hrel : RelB rs ts ws wt) (hm : rs.length ≤ 1114112) :
  Calls Tryz.prog 13 #[(pt al 0), (pt m 0)] w (Ret fun v w' => v = (.bool true) ∧ Below w.heap.size w w') := by
 refine enterM (args := [(pt al 0), (pt m 0)]) func13 rfl (zk : _ = 37) zk ?_
 have o := Below.refl w.heap.size w
 have ad := ae
 have cd := hrel.len
 refine wR (zN [(pt m 0)] 31 ?_)
 intro b1 w2 a2
 have cb := a2.ge o.size
 have b := a2.here
 refine zN [(.bool false)] 4 ?_
 intro b4 w5 aw
 have o := o.tr a2.below
 have bn := aw.ge o.size
 have f := aw.here
 refine nR (zN [(I6 0)] 3 ?_)
 intro b7 w8 am
 have i := zA (zA i a2.below) aw.below
 have af := yY (yA i) am
 have o := o.tr aw.below
 have bc := am.ge o.size
 have a := am.here
 refine z1 0 (I6 0) [(I6 0)] a ?_
 intro cp ai
 have j := zA (zA (zA j a2.below) aw.below) am.below
 have j := zC j ai (zJ j a zi)
 have g := zA (zA (zA g a2.below) aw.below) am.below
 have g := zC g ai (zJ g a zi)
 have b := zA (zA b aw.below) am.below
 have b := zC b ai (zJ b a zi)
 have f := zA f am.below
 have f := zC f ai (zJ f a zi)
 have a := ai.here
 have i := zC (zA i am.below) ai af
 refine nW (wR (zD (zc (c_Rows al m_rs rs av _ j i) ?_)))
 rintro _ p ⟨ap, rfl, d, ay, ah⟩
 have o := (o.tr am.below).trans (ai.below bc)
 replace ay := Nat.le_trans o.size ay
 refine nQ (zX ?_)
 have j := zA j ah
 have ak : al < p.heap.size := yA j
 have i := zA i ah
 have ac : m_rs < p.heap.size := yA i
 have g := zA g ah
 have ax : m < p.heap.size := yA g
 have b := zA b ah
 have au : b1 < p.heap.size := yA b
 have f := zA f ah
 have an : b4 < p.heap.size := yA f
 have a := zA a ah
 have aq : b7 < p.heap.size := yA a
 have ab : ap < p.heap.size := yA d
 have o := o.tr ah
 have a6 := o.size
 have b9 := o
 refine uL 58 [(pt ap 0)] (rowsB rs) zk (fun _ _ => rfl) (it_Rows12 ap al m_rs rs av (by first | omega | assumption)) ⟨d, j, i⟩ ((fun D A B h hc hd => ⟨zU h.1 hc (fun h => Nat.not_lt.2 (hd _ h) ab), zU h.2.1 hc (fun h => Nat.not_lt.2 (hd _ h) ak), zU h.2.2 hc (fun h => Nat.not_lt.2 (hd _ h) ac)⟩)) (by intro x; rfl) (fun K bb A => ∃ (k : Nat), (A.heap[al]? = some (.cells [(.map (some m_rs)), av].toArray 69 (0, 0))) ∧ (A.heap[m_rs]? = some (gmObj .i32 vBrk rs)) ∧ (A.heap[m]? = some (.cells [t, az].toArray 78 (0, 0))) ∧ (A.heap[b1]? = some (.cells [(pt m 0)].toArray 31 (0, 0))) ∧ (A.heap[b4]? = some (.cells [(.bool false)].toArray 4 (0, 0))) ∧ (A.heap[b7]? = some (.cells [(N6 k)].toArray 3 (0, 0))) ∧ (A.heap[ap]? = some (.cells [(pt al 0)].toArray 27 (0, 0))) ∧ (Below w.heap.size w A) ∧ (k = bb.length)) (fun K c bb A => False) ?_ ?_ ?_ ?_ ?_ ?_
 ·intro A hA
  exact ⟨0, zA j hA, zA i hA, zA g hA, zA b hA, zA f hA, zA a hA, zA d hA, o.trans (hA.mono o.size), by rfl⟩
 ·rintro K bb A B ⟨k, j, i, g, b, f, a, d, o, p1⟩ hc
  exact ⟨k, zU j hc (fun h => Nat.not_lt.2 h.1 ak), zU i hc (fun h => Nat.not_lt.2 h.1 ac), zU g hc (fun h => Nat.not_lt.2 h.1 ax), zU b hc (fun h => Nat.not_lt.2 h.1 au), zU f hc (fun h => Nat.not_lt.2 h.1 an), zU a hc (fun h => Nat.not_lt.2 h.1 aq), zU d hc (fun h => Nat.not_lt.2 h.1 ab), hc.below o o.size (fun k h => Nat.le_trans a6 h.1), p1⟩
 ·intro K c _ A B h hc; exact h.elim
 ·intro l K bb x A hi hN cm hK ba
  obtain ⟨k, j, i, g, b, f, a, d, o, p1⟩ := hi
  have hk := Kp.refl (p.heap.size) K A
  have bs : ¬ Iv (p.heap.size) K al := fun h => Nat.not_lt.2 h.1 ak
  have a5 : ¬ Iv (p.heap.size) K m_rs := fun h => Nat.not_lt.2 h.1 ac
  have bk : ¬ Iv (p.heap.size) K m := fun h => Nat.not_lt.2 h.1 ax
  have bf : ¬ Iv (p.heap.size) K b1 := fun h => Nat.not_lt.2 h.1 au
  have bg : ¬ Iv (p.heap.size) K b4 := fun h => Nat.not_lt.2 h.1 an
  have a4 : ¬ Iv (p.heap.size) K b7 := fun h => Nat.not_lt.2 h.1 aq
  have a9 : ¬ Iv (p.heap.size) K ap := fun h => Nat.not_lt.2 h.1 ab
  have ae := ad.below o
  have d := hN.1
  have j := hN.2.1
  have i := hN.2.2
  have cq := hrel.lt ba
  refine zQ (zN [(I3 0), (I3 0), (U8 0)] 26 ?_)
  intro br ck n
  have ar := yY (yA i) n
  have bm := n.ge o.size
  have a8 : ¬ Iv p.heap.size K br := fun h => by have := h.2; have := n.num; omega
  replace hk := hk.ch (Ch.of_below n.below) hK (fun _ h => h.elim)
  replace hK := Nat.le_trans hK (n.below.size)
  have q := n.here
  refine wG [(I3 x.1), (I3 x.2.1), (U8 x.2.2)] q ?_
  intro ci r
  replace hk := hk.ch (Ch.of_wrote r) hK (fun k e h => a8 (e ▸ h))
  replace hK := Nat.le_trans hK (Nat.le_of_eq r.size.symm)
  have j := zA j n.below
  have j := zC j r (zJ j q zi)
  have g := zA g n.below
  have g := zC g r (zJ g q zi)
  have b := zA b n.below
  have b := zC b r (zJ b q zi)
  have f := zA f n.below
  have f := zC f r (zJ f q zi)
  have a := zA a n.below
  have a := zC a r (zJ a q zi)
  have d := zA d n.below
  have d := zC d r (zJ d q zi)
  have q := r.here
  refine zR (zB ⟨hk, ?_⟩)
  intro b0 z
  have o := (o.tr n.below).trans (r.below bm)
  have o := z.below o o.size (fun k h => Nat.le_trans a6 h.1)
  replace hK := Nat.le_trans hK z.size
  replace hk := Kp.refl (p.heap.size) K b0
  refine zX (zY (zY (W_draws 18 zk zk zk ?_)))
  intro cc s
  replace hk := hk.ch (Ch.of_below s) hK (fun _ h => h.elim)
  replace hK := Nat.le_trans hK (s.size)
  have o := o.tr s
  have g := zA (zU g z bk) s
  have b := zA (zU b z bf) s
  have a := zA (zU a z a4) s
  have ae := ad.below o
  refine I_quiet 0 zk zk zk zk (zZ b7 0 (N6 k) zk zf (zW a rfl) (zZ b1 0 (pt m 0) zk zf (zW b rfl) (yQ (pt m 0) zf (yQ (pt m 0) zf (zZ m 0 t zk zf (zW g rfl) (Lq_len 22 26 (ws).length t rfl underlying22 (ae).len zk (xO .i64 ((k : Nat) : Int) (((ws).length : Nat) : Int) ((ws).length ≤ k) rfl (qZ k ((ws).length)) zk zk ?_ ?_)))))))
  ·intro bz
   replace bz : (ws).length ≤ k := by omega
   exfalso; omega
  intro b5
  replace b5 : k < (ws).length := by omega
  have q := zA (zU q z a8) s
  refine yE (qw (qU br 0 [(I3 x.1), (I3 x.2.1), (U8 x.2.2)] zk zf zf (uH q 0 zk) (qw (zZ b1 0 (pt m 0) zk zf (zW b rfl) (qw (yQ (pt m 0) zf (qw (yQ (pt m 0) zf (qw (zZ m 0 t zk zf (zW g rfl) (qw (zZ b7 0 (N6 k) zk zf (zW a rfl) (qw ?_)))))))))))))
  have hz := zV ws k (by first | omega | assumption); obtain ⟨aa, bp⟩ := hz
  have hz := (ae).at (k := 3) zj bp
  obtain ⟨bl, a7, bu, bt⟩ := hz
  refine yM (k := .i64) t k _ bl a7 qJ bu (by first | omega | assumption) zk zk (qw (qU bl (a7 + k * 3) [(I3 aa.1), (I3 aa.2.1), (U8 aa.2.2)] zk zf zf bt (qw (Lq_aggne [(I3 x.1), (I3 x.2.1), (U8 x.2.2)] [(I3 aa.1), (I3 aa.2.1), (U8 aa.2.2)] (x.1 == aa.1 && x.2.1 == aa.2.1 && x.2.2 == aa.2.2) zk zk zk (eqagg26 x.1 x.2.1 x.2.2 aa.1 aa.2.1 aa.2.2) ?_ ?_))))
  ·intro bv
   exfalso; first | exact brk_ne bv (hrel.at ba p1 za) | exact brk_nb bv (hrel.at ba p1 za)
  intro bo
  replace bo : x.1 = aa.1 ∧ x.2.1 = aa.2.1 ∧ x.2.2 = aa.2.2 := by simpa [and_assoc] using bo
  refine qF (yN ?_)
  intro cj u
  replace hk := hk.ch (Ch.of_below u) hK (fun _ h => h.elim)
  replace hK := Nat.le_trans hK (u.size)
  have a := zA a u
  refine zB (zF (zK (zB (zQ (zO 0 a rfl (xL k 1 (z1 0 (N6 (k + 1)) [(N6 (k + 1))] a ?_)))))))
  intro ce y
  replace hk := hk.ch (Ch.of_wrote y) hK (fun k e h => a4 (e ▸ h))
  replace hK := Nat.le_trans hK (Nat.le_of_eq y.size.symm)
  have j := zA (zA (zU j z bs) s) u
  have j := zC j y (zJ j a zi)
  have g := zA g u
  have g := zC g y (zJ g a zi)
  have b := zA b u
  have b := zC b y (zJ b a zi)
  have f := zA (zA (zU f z bg) s) u
  have f := zC f y (zJ f a zi)
  have d := zA (zA (zU d z a9) s) u
  have d := zC d y (zJ d a zi)
  have a := y.here
  refine zR (zI ?_)
  have o := (o.tr u).trans (y.below bc)
  have i := zC (zA (zA (zU (zC (zA i n.below) r ar) z a5) s) u) y af
  refine wA hk ⟨d, j, i⟩ ⟨(k + 1), j, i, g, b, f, a, d, o, ?_⟩
  (rw [List.length_append, List.length_singleton]; omega)
 ·intro K A hi cn ag
  obtain ⟨k, j, i, g, b, f, a, d, o, p1⟩ := hi
  have ae := ad.below o
  refine zI (zB (zY (xB 7 8 zk zk zk ?_)))
  intro cf aj
  refine ⟨fun w => (w.heap[b7]? = some (.cells [(N6 k)].toArray 3 (0, 0))) ∧ (w.heap[b1]? = some (.cells [(pt m 0)].toArray 31 (0, 0))) ∧ (w.heap[m]? = some (.cells [t, az].toArray 78 (0, 0))), ?_⟩
  have g := zA g aj
  have b := zA b aj
  have a := zA a aj
  refine mt 0 [0, 6, 7] rfl (N6 k) ⟨a, b, g⟩ (yR b7 0 (N6 k) zk zf (fun w2 h2 => zW h2.1 rfl)) (mt 1 [1, 2, 3, 4, 5, 6, 7] rfl (pt m 0) ⟨a, b, g⟩ (yR b1 0 (pt m 0) zk zf (fun w2 h2 => zW h2.2.1 rfl)) (mp 2 rfl (pt m 0) (.inr ⟨a, b, g⟩) zg (mp 3 rfl (pt m 0) (.inr ⟨a, b, g⟩) zg (mt 4 [4, 5, 6, 7] rfl t ⟨a, b, g⟩ (yR m 0 t zk zf (fun w2 h2 => zW h2.2.2 rfl)) (yD 5 zk ?_)))))
  refine yJ 5 rfl ?_ rfl
  have o := o.tr aj
  have ae := ad.below o
  refine zln underlying22 (ae).len (zR ?_)
  refine ⟨rfl, .inr ⟨a, b, g⟩, yD 6 zk (yJ 6 rfl ?_ rfl)⟩
  refine nEq k ((ws).length) ?_ ?_
  ·intro co
   refine zR ?_
   refine ⟨rfl, .inr ⟨a, b, g⟩, yD 7 zk (yJ 7 rfl ?_ rfl)⟩
   have f := zA f aj
   refine z1 0 (.bool true) [(.bool true)] f ?_
   intro cl a3
   have ag := zA ag aj
   have ag := zC ag a3 (zJ ag f zi)
   have f := a3.here
   refine zR ?_
   refine ⟨rfl, .inl zk, yO zk (zB (zS (wQ (ds := [⟨.collected p.heap.size, #[]⟩]) zk (wF ag ?_))))⟩
   intro cg be
   have f := zC f be (zJ f ag zi)
   refine vQ [.cell 4 4] [(.bool true)] rfl ⟨⟨⟨b4, 0, none⟩, zk, wH zk (zW f rfl)⟩, trivial⟩ ?_
   have o := (o.trans (a3.below bn)).trans (be.below a6)
   exact ⟨rfl, o⟩
  intro bq
  exfalso; (rw [p1, hrel.rows] at bq; exact bq rfl)
 intro K c _ x A _ h; exact h.elim
theorem c_told_nil (a : Value) (asked : List (Int)) (w : World) (g : Rd w encI32 a asked) :
  Calls Tryz.prog 12 #[(.pointer none), (.pointer none), a] w (Ret fun v w' => v = (.bool true) ∧ Below w.heap.size w w') := by
 refine enterM (args := [(.pointer none), (.pointer none), a]) func12 rfl (zk : _ = 167) zk ?_
 have e := Below.refl w.heap.size w
 refine wR (zN [(.pointer none)] 31 ?_)
 intro l n f
 have j := f.ge e.size
 have c := f.here
 refine zN [(.bool false)] 4 ?_
 intro k o d
 have e := e.tr f.below
 have h := d.ge e.size
 have b := d.here
 have c := zA c d.below
 refine nW (wR (zD (zr (.bool true) (zD (zs (zs (xG (nQ (zT (wR (zD (zr (.bool true) (zD (zw (zO 0 c rfl (zw (zr (.bool true) (xG (z1 0 (.bool true) [(.bool true)] b ?_)))))))))))))))))))
 intro m i
 have b := i.here
 refine nQ (zS (zH (wQ (ds := []) zk (vQ [.cell 6 4] [(.bool true)] rfl ⟨⟨⟨k, 0, none⟩, zk, wH zk (zW b rfl)⟩, trivial⟩ ?_))))
 have e := (e.tr d.below).trans (i.below h)
 exact ⟨rfl, e⟩
theorem c_told8w (an : Nat) (m_rs : Nat) (rs : List (Int × (Int × Int × Int))) (aw : Value) (ts : List (Int × Int)) (u : Nat) (ae : Value) (ws : List (Int × Int × Int)) (az : Value) (wt : List (Int × Int)) (ar : Value) (asked : List (Int)) (w : World) (r : w.heap[an]? = some (.cells [(.map (some m_rs)), aw].toArray 69 (0, 0))) (p : w.heap[m_rs]? = some (gmObj .i32 vBrk rs)) (ax : GmAt .i32 vI32 w aw ts) (q : w.heap[u]? = some (.cells [ae, az].toArray 78 (0, 0))) (ab : Rd w encBrk ae ws) (aj : Rd w encTw az wt) (z : Rd w encI32 ar asked) (hrel : RelB rs ts ws wt) (hm : rs.length ≤ 1114112) (ht : wt.length ≤ 9223372036854775807) (hv : ∀ x ∈ ws, 0 ≤ x.2.2 ∧ x.2.2 ≤ 255) (ha : asked.length ≤ 9223372036854775807) :
  Calls Tryz.prog 12 #[(pt an 0), (pt u 0), ar] w (Ret fun v w' => v = (.bool true) ∧ Below w.heap.size w w') := by
 refine enterM (args := [(pt an 0), (pt u 0), ar]) func12 rfl (zk : _ = 167) zk ?_
 have t := Below.refl w.heap.size w
 have al := z
 have a1 := ax
 have ac := ab
 have ap := aj
 have qq := hrel.len
 refine wR (zN [(pt u 0)] 31 ?_)
 intro b1 w2 h8
 have mq := h8.ge t.size
 have g := h8.here
 refine zN [(.bool false)] 4 ?_
 intro b4 w5 he
 replace t := t.tr h8.below
 have fp := he.ge t.size
 have n := he.here
 replace g := zA g he.below
 refine nW (wR (zD (zr (.bool false) (zD (zw (zO 0 g rfl (zw (zr (.bool false) (xF (nQ (zF (zK (zB (W_cut (fun s0 w0 => (s0.ds = []) ∧ ([0, 4, 6].map s0.f = [(pt an 0), (pt b1 0), (pt b4 0)]) ∧ (Rd w0 encI32 ar asked) ∧ (GmAt .i32 vI32 w0 aw ts) ∧ (Rd w0 encBrk ae ws) ∧ (Rd w0 encTw az wt) ∧ (w0.heap[an]? = some (.cells [(.map (some m_rs)), aw].toArray 69 (0, 0))) ∧ (w0.heap[m_rs]? = some (gmObj .i32 vBrk rs)) ∧ (w0.heap[u]? = some (.cells [ae, az].toArray 78 (0, 0))) ∧ (w0.heap[b1]? = some (.cells [(pt u 0)].toArray 31 (0, 0))) ∧ (w0.heap[b4]? = some (.cells [(.bool false)].toArray 4 (0, 0))) ∧ (Below w.heap.size w w0)) ?_ ?_))))))))))))))
 ·refine wR (zG (nQ (zX ?_)))
  replace t := t.tr he.below
  replace r := zA (zA r h8.below) he.below
  replace q := zA (zA q h8.below) he.below
  replace z := al.below t
  replace p := zA (zA p h8.below) he.below
  replace ax := a1.below t
  replace ab := ac.below t
  replace aj := ap.below t
  refine yZ (fun m s0 w0 => ∃ (i : Nat), (m = asked.length - i) ∧ (s0.ds = []) ∧ ([0, 2, 4, 6, 7].map s0.f = [(pt an 0), ar, (pt b1 0), (pt b4 0), (N6 i)]) ∧ (Rd w0 encI32 ar asked) ∧ (GmAt .i32 vI32 w0 aw ts) ∧ (Rd w0 encBrk ae ws) ∧ (Rd w0 encTw az wt) ∧ (w0.heap[an]? = some (.cells [(.map (some m_rs)), aw].toArray 69 (0, 0))) ∧ (w0.heap[m_rs]? = some (gmObj .i32 vBrk rs)) ∧ (w0.heap[u]? = some (.cells [ae, az].toArray 78 (0, 0))) ∧ (w0.heap[b1]? = some (.cells [(pt u 0)].toArray 31 (0, 0))) ∧ (w0.heap[b4]? = some (.cells [(.bool false)].toArray 4 (0, 0))) ∧ (Below w.heap.size w w0) ∧ (i ≤ asked.length)) _ ⟨0, rfl, zk, zk, z, ax, ab, aj, r, p, q, g, n, t, (Nat.zero_le _)⟩ ?_
  rintro m7 s8 w9 ⟨i, hm, cd, em, z, ax, ab, aj, r, p, q, g, n, t, i1⟩
  refine yS em (zY (wR (zD (zD (zln underlying23 (z).len (nLt i ((asked).length) ?_ ?_))))))
  ·intro qt
   refine zD (zw (zD (zw (nLt i 60 ?_ ?_))))
   ·intro qv
    refine xG (nQ (zT (zK (zB (zY (zX (wR (zD (zD (zD ?_))))))))))
    have hz := zV asked i (by first | omega | assumption); obtain ⟨a2, hy⟩ := hz
    refine zE1 z yX i hy rfl fun _ => (zc (c_Bracket an m_rs rs aw ts a2 _ r (GmAt.of p) ax) ?_)
    rintro _ qn ⟨rfl, gh⟩
    replace g := zA g gh
    refine zD (zr (I3 ((brkF rs a2).1)) (zr (U8 ((brkF rs a2).2)) (zG (zG (nW (xA zk zk (zZ b1 0 (pt u 0) zk zf (zW g rfl) (yE (yE ?_)))))))))
    replace t := t.tr gh
    replace z := al.below t
    have hz := (z).at (k := 1) zj hy
    obtain ⟨lr, ie, kl, kb⟩ := hz
    replace q := zA q gh
    replace ab := ac.below t
    replace aj := ap.below t
    refine yM (k := .i64) ar i _ lr ie yX kl (by first | omega | assumption) zk zk (zZ lr (ie + i * 1) (I3 a2) zk zf (kb 0 _ rfl) (xX 33 [(pt u 0), (I3 a2)] (.tuple #[(I3 ((brkF (kv ws) a2).1)), (U8 ((brkF (kv ws) a2).2))]) zg (fun wq hbq => c_rBracket u ae ws az wt a2 wq (zA q hbq) (ab.below hbq) (aj.below hbq) (by first | omega | assumption)) (yE (yQ (I3 ((brkF (kv ws) a2).1)) zf (yQ (U8 ((brkF (kv ws) a2).2)) zf (wU (wU (yN ?_))))))))
    intro qx gj
    refine zB (zY (zY (xA zk zk (yE (yE (xO .i32 ((brkF rs a2).1) ((brkF (kv ws) a2).1) ((brkF rs a2).1 ≠ (brkF (kv ws) a2).1) rfl (cmp_ne ((brkF rs a2).1) ((brkF (kv ws) a2).1)) zk zk ?_ ?_))))))
    ·intro lk
     replace lk : (brkF rs a2).1 ≠ (brkF (kv ws) a2).1 := by omega
     exfalso; exact lk (congrArg Prod.fst (hrel.brk _))
    intro mc
    replace mc : (brkF rs a2).1 = (brkF (kv ws) a2).1 := by omega
    refine yE (qw (yE (qw (yE (qw (xO .u8 ((brkF rs a2).2) ((brkF (kv ws) a2).2) ((brkF rs a2).2 ≠ (brkF (kv ws) a2).2) rfl (cmp_ne ((brkF rs a2).2) ((brkF (kv ws) a2).2)) zk zk ?_ ?_))))))
    ·intro ly
     replace ly : (brkF rs a2).2 ≠ (brkF (kv ws) a2).2 := by omega
     exfalso; exact ly (congrArg Prod.snd (hrel.brk _))
    intro mb
    replace mb : (brkF rs a2).2 = (brkF (kv ws) a2).2 := by omega
    refine qF (yE (qw (yE (qw (yE (qw (yE (qw ?_))))))))
    replace t := t.tr gj
    replace z := al.below t
    have hz := (z).at (k := 1) zj hy
    obtain ⟨lx, iu, kg, lu⟩ := hz
    replace r := zA (zA r gh) gj
    replace g := zA g gj
    replace p := zA (zA p gh) gj
    replace ax := a1.below t
    refine yM (k := .i64) ar i _ lx iu yX kg (by first | omega | assumption) zk zk (qw (zZ lx (iu + i * 1) (I3 a2) zk zf (lu 0 _ rfl) (qw (xX 25 [(pt an 0), (I3 a2)] (I3 (twnF ts a2)) zg (fun wq hbq => c_Twin an m_rs rs aw ts a2 wq (zA r hbq) (GmAt.of (zA p hbq)) (ax.below hbq)) (qw (zZ b1 0 (pt u 0) zk zf (zW g rfl) (qw (yE (qw (yE (qw ?_)))))))))))
    have hz := (z).at (k := 1) zj hy
    obtain ⟨l0, ir, lv, ke⟩ := hz
    replace q := zA q gj
    replace ab := ac.below t
    replace aj := ap.below t
    refine yM (k := .i64) ar i _ l0 ir yX lv (by first | omega | assumption) zk zk (qw (zZ l0 (ir + i * 1) (I3 a2) zk zf (ke 0 _ rfl) (qw (xX 34 [(pt u 0), (I3 a2)] (I3 (twF ws wt (askB a2))) zg (fun wq hbq => c_rTwin u ae ws az wt a2 wq (zA q hbq) (ab.below hbq) (aj.below hbq) (by first | omega | assumption) (by first | omega | assumption)) (qw (xO .i32 (twnF ts a2) (twF ws wt (askB a2)) ((twnF ts a2) ≠ (twF ws wt (askB a2))) rfl (cmp_ne (twnF ts a2) (twF ws wt (askB a2))) zk zk ?_ ?_))))))
    ·intro k9
     replace k9 : (twnF ts a2) ≠ (twF ws wt (askB a2)) := by omega
     exfalso; exact k9 (hrel.twn _)
    intro ma
    replace ma : (twnF ts a2) = (twF ws wt (askB a2)) := by omega
    refine qF (yN ?_)
    intro qo gn
    refine zB (zF (zK (zB (wR (zG (nQ (zX ?_)))))))
    replace t := t.tr gn
    replace r := zA r gn
    replace q := zA q gn
    replace g := zA g gn
    replace n := zA (zA (zA n gh) gj) gn
    replace z := al.below t
    replace p := zA p gn
    replace ax := a1.below t
    replace ab := ac.below t
    replace aj := ap.below t
    refine yZ (fun m s0 w0 => ∃ (j : Nat), (m = asked.length - j) ∧ (s0.ds = []) ∧ ([0, 2, 4, 6, 7, 12].map s0.f = [(pt an 0), ar, (pt b1 0), (pt b4 0), (N6 i), (N6 j)]) ∧ (Rd w0 encI32 ar asked) ∧ (GmAt .i32 vI32 w0 aw ts) ∧ (Rd w0 encBrk ae ws) ∧ (Rd w0 encTw az wt) ∧ (w0.heap[an]? = some (.cells [(.map (some m_rs)), aw].toArray 69 (0, 0))) ∧ (w0.heap[m_rs]? = some (gmObj .i32 vBrk rs)) ∧ (w0.heap[u]? = some (.cells [ae, az].toArray 78 (0, 0))) ∧ (w0.heap[b1]? = some (.cells [(pt u 0)].toArray 31 (0, 0))) ∧ (w0.heap[b4]? = some (.cells [(.bool false)].toArray 4 (0, 0))) ∧ (Below w.heap.size w w0) ∧ (j ≤ asked.length)) _ ⟨0, rfl, cd, zk, z, ax, ab, aj, r, p, q, g, n, t, (Nat.zero_le _)⟩ ?_
    rintro q4 qm q0 ⟨j, hm, cd, em, z, ax, ab, aj, r, p, q, g, n, t, i2⟩
    refine yS em (zY (wR (zD (zD (zln underlying23 (z).len (nLt j ((asked).length) ?_ ?_))))))
    ·intro q3
     refine zD (zw (zD (zw (nLt j 60 ?_ ?_))))
     ·intro qr
      refine xG (nQ (zT (zK (zB (zY (zX (zY (xA zk zk (yE (yE (yE ?_)))))))))))
      have hz := zV asked i (by first | omega | assumption); obtain ⟨ek, ia⟩ := hz
      have hz := (z).at (k := 1) zj ia
      obtain ⟨lz, ih, kr, lh⟩ := hz
      refine yM (k := .i64) ar i _ lz ih yX kr (by first | omega | assumption) zk zk (zZ lz (ih + i * 1) (I3 ek) zk zf (lh 0 _ rfl) (yE (yE ?_)))
      have hz := zV asked j (by first | omega | assumption); obtain ⟨ef, ig⟩ := hz
      have hz := (z).at (k := 1) zj ig
      obtain ⟨kf, h9, ky, j6⟩ := hz
      refine yM (k := .i64) ar j _ kf h9 yX ky (by first | omega | assumption) zk zk (zZ kf (h9 + j * 1) (I3 ef) zk zf (j6 0 _ rfl) (xX 26 [(pt an 0), (I3 ek), (I3 ef)] (.bool (mtcF rs ts ek ef)) zg (fun wq hbq => c_Matches an m_rs rs aw ts ek ef wq (zA r hbq) (GmAt.of (zA p hbq)) (ax.below hbq)) (xI (mtcF rs ts ek ef) ?_ ?_)))
      ·intro qz
       refine zZ b1 0 (pt u 0) zk zf (zW g rfl) (yE (yE ?_))
       have hz := (z).at (k := 1) zj ia
       obtain ⟨k7, ib, lq, lj⟩ := hz
       refine yM (k := .i64) ar i _ k7 ib yX lq (by first | omega | assumption) zk zk (zZ k7 (ib + i * 1) (I3 ek) zk zf (lj 0 _ rfl) (yE (yE ?_)))
       have hz := (z).at (k := 1) zj ig
       obtain ⟨ku, ic, kt, kz⟩ := hz
       refine yM (k := .i64) ar j _ ku ic yX kt (by first | omega | assumption) zk zk (zZ ku (ic + j * 1) (I3 ef) zk zf (kz 0 _ rfl) (xX 35 [(pt u 0), (I3 ek), (I3 ef)] (.bool (mtcW ws wt ek ef)) zg (fun wq hbq => c_rMatches u ae ws az wt ek ef wq (zA q hbq) (ab.below hbq) (aj.below hbq) (by first | omega | assumption) (by first | omega | assumption)) (xI (mtcW ws wt ek ef) ?_ ?_)))
       ·intro qp
        refine yQ (.bool false) zf (yN ?_)
        intro qu gk
        refine zB (zF (zK (zI (zB (zQ (zD (xL j 1 (zG (zR ?_)))))))))
        replace t := t.tr gk
        replace r := zA r gk
        replace q := zA q gk
        replace g := zA g gk
        replace n := zA n gk
        replace z := al.below t
        replace p := zA p gk
        replace ax := a1.below t
        replace ab := ac.below t
        replace aj := ap.below t
        exact zB ⟨_, zo, (j + 1), rfl, cd, zk, z, ax, ab, aj, r, p, q, g, n, t, zo⟩
       intro q6
       refine yQ (.bool true) zf (yN ?_)
       intro q2 i3
       replace n := zA n i3
       refine zB (zT (wR (z1 0 (.bool false) [(.bool false)] n ?_)))
       intro qy i8
       replace n := i8.here
       refine nQ (zS (zP (zH (zH (zP (zP (zH (zH (zP (zH (wQ (ds := []) cd (vQ [.cell 6 4] [(.bool false)] rfl ⟨⟨⟨b4, 0, none⟩, zk, wH zk (zW n rfl)⟩, trivial⟩ ?_))))))))))))
       replace t := (t.tr i3).trans (i8.below fp)
       exact ⟨eb (by (exfalso; simp_all [hrel.mtc]; done)), t⟩
      intro q5
      refine zZ b1 0 (pt u 0) zk zf (zW g rfl) (yE (yE ?_))
      have hz := (z).at (k := 1) zj ia
      obtain ⟨j9, io, lp, l9⟩ := hz
      refine yM (k := .i64) ar i _ j9 io yX lp (by first | omega | assumption) zk zk (zZ j9 (io + i * 1) (I3 ek) zk zf (l9 0 _ rfl) (yE (yE ?_)))
      have hz := (z).at (k := 1) zj ig
      obtain ⟨k5, ij, ka, l1⟩ := hz
      refine yM (k := .i64) ar j _ k5 ij yX ka (by first | omega | assumption) zk zk (zZ k5 (ij + j * 1) (I3 ef) zk zf (l1 0 _ rfl) (xX 35 [(pt u 0), (I3 ek), (I3 ef)] (.bool (mtcW ws wt ek ef)) zg (fun wq hbq => c_rMatches u ae ws az wt ek ef wq (zA q hbq) (ab.below hbq) (aj.below hbq) (by first | omega | assumption) (by first | omega | assumption)) (xI (mtcW ws wt ek ef) ?_ ?_)))
      ·intro p3
       refine yQ (.bool true) zf (yN ?_)
       intro nh ip
       replace n := zA n ip
       refine zB (zT (wR (z1 0 (.bool false) [(.bool false)] n ?_)))
       intro qg ii
       replace n := ii.here
       refine nQ (zS (zP (zH (zH (zP (zP (zH (zH (zP (zH (wQ (ds := []) cd (vQ [.cell 6 4] [(.bool false)] rfl ⟨⟨⟨b4, 0, none⟩, zk, wH zk (zW n rfl)⟩, trivial⟩ ?_))))))))))))
       replace t := (t.tr ip).trans (ii.below fp)
       exact ⟨eb (by (exfalso; simp_all [hrel.mtc]; done)), t⟩
      intro m3
      refine yQ (.bool false) zf (yN ?_)
      intro ng fd
      refine zB (zF (zK (zI (zB (zQ (zD (xL j 1 (zG (zR ?_)))))))))
      replace t := t.tr fd
      replace r := zA r fd
      replace q := zA q fd
      replace g := zA g fd
      replace n := zA n fd
      replace z := al.below t
      replace p := zA p fd
      replace ax := a1.below t
      replace ab := ac.below t
      replace aj := ap.below t
      exact zB ⟨_, zo, (j + 1), rfl, cd, zk, z, ax, ab, aj, r, p, q, g, n, t, zo⟩
     intro ml
     exact xG (nQ (zF (yH (zL (zL (yB (zI (zB (zQ (zD (xL i 1 (zG (zR (zB ⟨_, zo, (i + 1), rfl, cd, zk, z, ax, ab, aj, r, p, q, g, n, t, zo⟩))))))))))))))
    intro n3
    exact zD (zs (zs (xF (nQ (zF (yH (zL (zL (yB (zI (zB (zQ (zD (xL i 1 (zG (zR (zB ⟨_, zo, (i + 1), rfl, cd, zk, z, ax, ab, aj, r, p, q, g, n, t, zo⟩)))))))))))))))))
   intro mm
   refine xG (nQ (zF (yH (zL (zL (yB (zB ⟨cd, zk, z, ax, ab, aj, r, p, q, g, n, t⟩)))))))
  intro ns
  refine zD (zs (zs (xF (nQ (zF (yH (zL (zL (yB (zB ⟨cd, zk, z, ax, ab, aj, r, p, q, g, n, t⟩))))))))))
 rintro ok m4 ⟨cd, em, z, ax, ab, aj, r, p, q, g, n, t⟩
 refine yS em (wR (zD (zc (c_Rows an m_rs rs aw _ r p) ?_)))
 rintro _ p6 ⟨ag, rfl, a, g6, fc⟩
 replace g6 := Nat.le_trans t.size g6
 refine zG (nW (wR (zN [(I6 0)] 3 ?_)))
 intro gf mf c9
 replace p := zA p fc
 have ad := yY (yA p) c9
 replace t := t.tr fc
 have cf := c9.ge t.size
 have d := c9.here
 refine z1 0 (I6 0) [(I6 0)] d ?_
 intro oa dt
 replace r := zA (zA r fc) c9.below
 replace r := zC r dt (zJ r d zi)
 replace q := zA (zA q fc) c9.below
 replace q := zC q dt (zJ q d zi)
 replace g := zA (zA g fc) c9.below
 replace g := zC g dt (zJ g d zi)
 replace n := zA (zA n fc) c9.below
 replace n := zC n dt (zJ n d zi)
 replace a := zA a c9.below
 replace a := zC a dt (zJ a d zi)
 replace d := dt.here
 replace t := (t.tr c9.below).trans (dt.below cf)
 replace ab := ac.below t
 refine nQ (zX (W_unroll 5 (zY (zY (xA zk zk (zZ gf 0 (I6 0) zk zf (zW d rfl) (zZ b1 0 (pt u 0) zk zf (zW g rfl) (yQ (pt u 0) zf (yQ (pt u 0) zf (zZ u 0 ae zk zf (zW q rfl) (Lq_len 22 26 (ws).length ae rfl underlying22 (ab).len zk (xO .i64 ((0 : Nat) : Int) (((ws).length : Nat) : Int) (0 ≤ (ws).length) rfl (wN 0 ((ws).length)) zk zk ?_ ?_))))))))))))
 ·intro k6
  replace k6 : 0 ≤ (ws).length := by omega
  refine yN ?_
  intro ox d7
  refine zB (zT (zK (zB (zY (zX (wR (zN [(I6 0)] 3 ?_)))))))
  intro ev ob cs
  replace p := zA (zC (zA p c9.below) dt ad) d7
  have ah := yY (yA p) cs
  replace d := zA d d7
  have af := yY (yA d) cs
  have am := NE.symm af
  replace t := t.tr d7
  have a9 := cs.ge t.size
  have b := cs.here
  refine z1 0 (I6 0) [(I6 0)] b ?_
  intro ak d0
  replace r := zA (zA r d7) cs.below
  replace r := zC r d0 (zJ r b zi)
  replace q := zA (zA q d7) cs.below
  replace q := zC q d0 (zJ q b zi)
  replace g := zA (zA g d7) cs.below
  replace g := zC g d0 (zJ g b zi)
  replace n := zA (zA n d7) cs.below
  replace n := zC n d0 (zJ n b zi)
  replace a := zA (zA a d7) cs.below
  replace a := zC a d0 (zJ a b zi)
  replace b := d0.here
  refine nW (wR (zD (nQ (zX ?_))))
  have g0 : an < ak.heap.size := yA r
  replace p := zC (zA p cs.below) d0 ah
  have el : m_rs < ak.heap.size := yA p
  have hs : u < ak.heap.size := yA q
  have g5 : b1 < ak.heap.size := yA g
  have g4 : b4 < ak.heap.size := yA n
  have d5 : ag < ak.heap.size := yA a
  replace d := zC (zA d cs.below) d0 af
  have gg : gf < ak.heap.size := yA d
  have go : ev < ak.heap.size := yA b
  replace t := (t.tr cs.below).trans (d0.below a9)
  have f0 := t.size
  have mn := t
  refine uL 58 [(pt ag 0)] (rowsB rs) zk (fun _ _ => rfl) (it_Rows12 ag an m_rs rs aw (by first | omega | assumption)) ⟨a, r, p⟩ ((fun D A B h hc hd => ⟨zU h.1 hc (fun h => Nat.not_lt.2 (hd _ h) d5), zU h.2.1 hc (fun h => Nat.not_lt.2 (hd _ h) g0), zU h.2.2 hc (fun h => Nat.not_lt.2 (hd _ h) el)⟩)) (by intro x; rfl) (fun K a7 A => ∃ (k : Nat), (A.heap[an]? = some (.cells [(.map (some m_rs)), aw].toArray 69 (0, 0))) ∧ (A.heap[m_rs]? = some (gmObj .i32 vBrk rs)) ∧ (A.heap[u]? = some (.cells [ae, az].toArray 78 (0, 0))) ∧ (A.heap[b1]? = some (.cells [(pt u 0)].toArray 31 (0, 0))) ∧ (A.heap[b4]? = some (.cells [(.bool false)].toArray 4 (0, 0))) ∧ (A.heap[ag]? = some (.cells [(pt an 0)].toArray 27 (0, 0))) ∧ (A.heap[gf]? = some (.cells [(I6 0)].toArray 3 (0, 0))) ∧ (A.heap[ev]? = some (.cells [(N6 k)].toArray 3 (0, 0))) ∧ (Below w.heap.size w A) ∧ (k = a7.length)) (fun K c a7 A => False) ?_ ?_ ?_ ?_ ?_ ?_
  ·intro A hA
   exact ⟨0, zA r hA, zA p hA, zA q hA, zA g hA, zA n hA, zA a hA, zA d hA, zA b hA, t.trans (hA.mono t.size), by rfl⟩
  ·rintro K a7 A B ⟨k, r, p, q, g, n, a, d, b, t, p1⟩ hc
   exact ⟨k, zU r hc (fun h => Nat.not_lt.2 h.1 g0), zU p hc (fun h => Nat.not_lt.2 h.1 el), zU q hc (fun h => Nat.not_lt.2 h.1 hs), zU g hc (fun h => Nat.not_lt.2 h.1 g5), zU n hc (fun h => Nat.not_lt.2 h.1 g4), zU a hc (fun h => Nat.not_lt.2 h.1 d5), zU d hc (fun h => Nat.not_lt.2 h.1 gg), zU b hc (fun h => Nat.not_lt.2 h.1 go), hc.below t t.size (fun k h => Nat.le_trans f0 h.1), p1⟩
  ·intro K c _ A B h hc; exact h.elim
  ·intro l K a7 x A hi hN iy hK a6
   obtain ⟨k, r, p, q, g, n, a, d, b, t, p1⟩ := hi
   have hk := Kp.refl (ak.heap.size) K A
   have es : ¬ Iv (ak.heap.size) K an := fun h => Nat.not_lt.2 h.1 g0
   have a5 : ¬ Iv (ak.heap.size) K m_rs := fun h => Nat.not_lt.2 h.1 el
   have e2 : ¬ Iv (ak.heap.size) K u := fun h => Nat.not_lt.2 h.1 hs
   have dy : ¬ Iv (ak.heap.size) K b1 := fun h => Nat.not_lt.2 h.1 g5
   have dw : ¬ Iv (ak.heap.size) K b4 := fun h => Nat.not_lt.2 h.1 g4
   have bj : ¬ Iv (ak.heap.size) K ag := fun h => Nat.not_lt.2 h.1 d5
   have cx : ¬ Iv (ak.heap.size) K gf := fun h => Nat.not_lt.2 h.1 gg
   have bb : ¬ Iv (ak.heap.size) K ev := fun h => Nat.not_lt.2 h.1 go
   have ab := ac.below t
   replace a := hN.1
   replace r := hN.2.1
   replace p := hN.2.2
   have iz := hrel.lt a6
   refine zQ (zN [(I3 0), (I3 0), (U8 0)] 26 ?_)
   intro ji p4 b2
   have aq := yY (yA p) b2
   have du := b2.ge t.size
   have bc : ¬ Iv ak.heap.size K ji := fun h => by have := h.2; have := b2.num; omega
   replace hk := hk.ch (Ch.of_below b2.below) hK (fun _ h => h.elim)
   replace hK := Nat.le_trans hK (b2.below.size)
   have aa := b2.here
   refine wG [(I3 x.1), (I3 x.2.1), (U8 x.2.2)] aa ?_
   intro py ct
   replace hk := hk.ch (Ch.of_wrote ct) hK (fun k e h => bc (e ▸ h))
   replace hK := Nat.le_trans hK (Nat.le_of_eq ct.size.symm)
   replace r := zA r b2.below
   replace r := zC r ct (zJ r aa zi)
   replace q := zA q b2.below
   replace q := zC q ct (zJ q aa zi)
   replace g := zA g b2.below
   replace g := zC g ct (zJ g aa zi)
   replace n := zA n b2.below
   replace n := zC n ct (zJ n aa zi)
   replace a := zA a b2.below
   replace a := zC a ct (zJ a aa zi)
   replace d := zA d b2.below
   replace d := zC d ct (zJ d aa zi)
   replace b := zA b b2.below
   replace b := zC b ct (zJ b aa zi)
   replace aa := ct.here
   refine zR (zB ⟨hk, ?_⟩)
   intro l4 c1
   replace t := (t.tr b2.below).trans (ct.below du)
   replace t := c1.below t t.size (fun k h => Nat.le_trans f0 h.1)
   replace hK := Nat.le_trans hK c1.size
   replace hk := Kp.refl (ak.heap.size) K l4
   refine zX (zY (zY (W_draws 18 zk zk zk ?_)))
   intro no cu
   replace hk := hk.ch (Ch.of_below cu) hK (fun _ h => h.elim)
   replace hK := Nat.le_trans hK (cu.size)
   replace t := t.tr cu
   replace q := zA (zU q c1 e2) cu
   replace b := zA (zU b c1 bb) cu
   replace g := zA (zU g c1 dy) cu
   replace ab := ac.below t
   refine I_quiet 0 zk zk zk zk (zZ ev 0 (N6 k) zk zf (zW b rfl) (zZ b1 0 (pt u 0) zk zf (zW g rfl) (yQ (pt u 0) zf (yQ (pt u 0) zf (zZ u 0 ae zk zf (zW q rfl) (Lq_len 22 26 (ws).length ae rfl underlying22 (ab).len zk (xO .i64 ((k : Nat) : Int) (((ws).length : Nat) : Int) ((ws).length ≤ k) rfl (qZ k ((ws).length)) zk zk ?_ ?_)))))))
   ·intro kd
    replace kd : (ws).length ≤ k := by omega
    exfalso; omega
   intro ks
   replace ks : k < (ws).length := by omega
   replace aa := zA (zU aa c1 bc) cu
   refine yE (qw (qU ji 0 [(I3 x.1), (I3 x.2.1), (U8 x.2.2)] zk zf zf (uH aa 0 zk) (qw (zZ b1 0 (pt u 0) zk zf (zW g rfl) (qw (yQ (pt u 0) zf (qw (yQ (pt u 0) zf (qw (zZ u 0 ae zk zf (zW q rfl) (qw (zZ ev 0 (N6 k) zk zf (zW b rfl) (qw ?_)))))))))))))
   have hz := zV ws k (by first | omega | assumption); obtain ⟨c5, ju⟩ := hz
   have hz := (ab).at (k := 3) zj ju
   obtain ⟨jd, hu, jt, jz⟩ := hz
   refine yM (k := .i64) ae k _ jd hu qJ jt (by first | omega | assumption) zk zk (qw (qU jd (hu + k * 3) [(I3 c5.1), (I3 c5.2.1), (U8 c5.2.2)] zk zf zf jz (qw (Lq_aggne [(I3 x.1), (I3 x.2.1), (U8 x.2.2)] [(I3 c5.1), (I3 c5.2.1), (U8 c5.2.2)] (x.1 == c5.1 && x.2.1 == c5.2.1 && x.2.2 == c5.2.2) zk zk zk (eqagg26 x.1 x.2.1 x.2.2 c5.1 c5.2.1 c5.2.2) ?_ ?_))))
   ·intro jn
    exfalso; first | exact brk_ne jn (hrel.at a6 p1 za) | exact brk_nb jn (hrel.at a6 p1 za)
   intro i0
   replace i0 : x.1 = c5.1 ∧ x.2.1 = c5.2.1 ∧ x.2.2 = c5.2.2 := by simpa [and_assoc] using i0
   refine qF (yN ?_)
   intro nn c4
   replace hk := hk.ch (Ch.of_below c4) hK (fun _ h => h.elim)
   replace hK := Nat.le_trans hK (c4.size)
   replace b := zA b c4
   refine zB (zF (zK (zB (wR (zO 0 b rfl (xL k 1 (z1 0 (N6 (k + 1)) [(N6 (k + 1))] b ?_)))))))
   intro os da
   replace hk := hk.ch (Ch.of_wrote da) hK (fun k e h => bb (e ▸ h))
   replace hK := Nat.le_trans hK (Nat.le_of_eq da.size.symm)
   replace r := zA (zA (zU r c1 es) cu) c4
   replace r := zC r da (zJ r b zi)
   replace q := zA q c4
   replace q := zC q da (zJ q b zi)
   replace g := zA g c4
   replace g := zC g da (zJ g b zi)
   replace n := zA (zA (zU n c1 dw) cu) c4
   replace n := zC n da (zJ n b zi)
   replace a := zA (zA (zU a c1 bj) cu) c4
   replace a := zC a da (zJ a b zi)
   replace b := da.here
   replace d := zC (zA (zA (zU d c1 cx) cu) c4) da af
   refine nR (zO 0 b rfl (zO 0 d rfl (nEq (k + 1) 0 ?_ ?_)))
   ·intro nw
    exfalso; omega
   intro pl
   refine nQ (zF (zK (zI ?_)))
   replace t := (t.tr c4).trans (da.below a9)
   replace p := zC (zA (zA (zU (zC (zA p b2.below) ct aq) c1 a5) cu) c4) da ah
   refine wA hk ⟨a, r, p⟩ ⟨(k + 1), r, p, q, g, n, a, d, b, t, ?_⟩
   (rw [List.length_append, List.length_singleton]; omega)
  ·intro K A hi g7 o
   obtain ⟨k, r, p, q, g, n, a, d, b, t, p1⟩ := hi
   have z := al.below t
   have ax := a1.below t
   have ab := ac.below t
   have aj := ap.below t
   refine zI (zB (W_cut (fun s0 w0 => (s0.ds = [⟨.collected ak.heap.size, #[]⟩]) ∧ ([0, 4, 6, 13, 14, 15, 111, 112, 113, 114, 115, 116, 117, 118, 119, 122].map s0.f = [(pt an 0), (pt b1 0), (pt b4 0), (.func (.func 58) #[] #[(pt ag 0)]), (pt gf 0), (pt ev 0), (pt an 0), (.func (.func 58) #[] #[(pt ag 0)]), (I6 0), (pt u 0), (pt u 0), (pt u 0), ae, (N6 ((ws).length)), (.bool true), (.func (.func 58) #[] #[(pt ag 0)])]) ∧ (Rd w0 encI32 ar asked) ∧ (GmAt .i32 vI32 w0 aw ts) ∧ (Rd w0 encBrk ae ws) ∧ (Rd w0 encTw az wt) ∧ (w0.heap[an]? = some (.cells [(.map (some m_rs)), aw].toArray 69 (0, 0))) ∧ (w0.heap[m_rs]? = some (gmObj .i32 vBrk rs)) ∧ (w0.heap[u]? = some (.cells [ae, az].toArray 78 (0, 0))) ∧ (w0.heap[b1]? = some (.cells [(pt u 0)].toArray 31 (0, 0))) ∧ (w0.heap[b4]? = some (.cells [(.bool false)].toArray 4 (0, 0))) ∧ (w0.heap[ag]? = some (.cells [(pt an 0)].toArray 27 (0, 0))) ∧ (w0.heap[gf]? = some (.cells [(I6 0)].toArray 3 (0, 0))) ∧ (w0.heap[ev]? = some (.cells [(N6 k)].toArray 3 (0, 0))) ∧ (w0.heap[ak.heap.size]? = some (.deferred (some []))) ∧ (Below w.heap.size w w0)) ?_ ?_))
   ·refine zY (xA zk zk (zZ ev 0 (N6 k) zk zf (zW b rfl) (zZ gf 0 (I6 0) zk zf (zW d rfl) (xO .i64 ((k : Nat) : Int) ((0 : Nat) : Int) (k ≠ 0) rfl (cmpN_ne k 0) zk zk ?_ ?_))))
    ·intro kc
     replace kc : k ≠ 0 := by omega
     refine yE (qw (zZ ev 0 (N6 k) zk zf (zW b rfl) (qw (zZ b1 0 (pt u 0) zk zf (zW g rfl) (qw (yQ (pt u 0) zf (qw (yQ (pt u 0) zf (qw (zZ u 0 ae zk zf (zW q rfl) (qw (Lq_len 22 26 (ws).length ae rfl underlying22 (ab).len zk (qw (xO .i64 ((k : Nat) : Int) (((ws).length : Nat) : Int) (k ≠ (ws).length) rfl (cmpN_ne k ((ws).length)) zk zk ?_ ?_))))))))))))))
     ·intro ki
      replace ki : k ≠ (ws).length := by omega
      exfalso; first | omega | (rw [hrel.rows] at p1; omega)
     intro kw
     replace kw : k = (ws).length := by omega
     refine qT (yN ?_)
     intro qc dp
     refine zB (zF (zK ?_))
     replace t := t.tr dp
     replace o := zA o dp
     replace r := zA r dp
     replace a := zA a dp
     replace q := zA q dp
     replace d := zA d dp
     replace b := zA b dp
     replace g := zA g dp
     replace n := zA n dp
     replace z := al.below t
     replace p := zA p dp
     replace ax := a1.below t
     replace ab := ac.below t
     replace aj := ap.below t
     refine zB ⟨(congrArg (List.cons _) cd), zk, z, ax, ab, aj, r, p, q, g, n, a, d, b, o, t⟩
    intro kq
    replace kq : k = 0 := by omega
    refine yE (qs (qs (qs (qs (qs (qs (qs (qF (yN ?_)))))))))
    intro nz dn
    refine zB (zF (zK ?_))
    replace t := t.tr dn
    replace o := zA o dn
    replace r := zA r dn
    replace a := zA a dn
    replace q := zA q dn
    replace d := zA d dn
    replace b := zA b dn
    replace g := zA g dn
    replace n := zA n dn
    replace z := al.below t
    replace p := zA p dn
    replace ax := a1.below t
    replace ab := ac.below t
    replace aj := ap.below t
    refine zB ⟨(congrArg (List.cons _) cd), zk, z, ax, ab, aj, r, p, q, g, n, a, d, b, o, t⟩
   rintro nu on ⟨cd, em, z, ax, ab, aj, r, p, q, g, n, a, d, b, o, t⟩
   refine yS em (wR (zO 0 d rfl (zr (.bool false) (nQ (zF (zK (zI (zB (zY (wR (zO 0 d rfl (nQ (zQ (zN [(I6 0)] 3 ?_))))))))))))))
   intro fo ps b3
   have ad := yY (yA p) b3
   have am := yY (yA b) b3
   have af := NE.symm am
   have cf := b3.ge t.size
   have d := b3.here
   refine z1 0 (I6 0) [(I6 0)] d ?_
   intro qd cz
   replace r := zA r b3.below
   replace r := zC r cz (zJ r d zi)
   replace q := zA q b3.below
   replace q := zC q cz (zJ q d zi)
   replace g := zA g b3.below
   replace g := zC g cz (zJ g d zi)
   replace n := zA n b3.below
   replace n := zC n cz (zJ n d zi)
   replace a := zA a b3.below
   replace a := zC a cz (zJ a d zi)
   replace o := zA o b3.below
   replace o := zC o cz (zJ o d zi)
   replace d := cz.here
   refine nQ (zQ (zO 0 d rfl (xL 0 1 (z1 0 (I6 1) [(I6 1)] d ?_))))
   intro o8 db
   replace r := zC r db (zJ r d zi)
   replace q := zC q db (zJ q d zi)
   replace g := zC g db (zJ g d zi)
   replace n := zC n db (zJ n d zi)
   replace a := zC a db (zJ a d zi)
   replace o := zC o db (zJ o d zi)
   replace d := db.here
   replace t := ((t.tr b3.below).trans (cz.below cf)).trans (db.below cf)
   replace ab := ac.below t
   refine zR (thenQ_round (zY (zY (xA zk zk (zZ fo 0 (I6 1) zk zf (zW d rfl) (zZ b1 0 (pt u 0) zk zf (zW g rfl) (yQ (pt u 0) zf (yQ (pt u 0) zf (zZ u 0 ae zk zf (zW q rfl) (Lq_len 22 26 (ws).length ae rfl underlying22 (ab).len zk (xO .i64 ((1 : Nat) : Int) (((ws).length : Nat) : Int) (1 ≤ (ws).length) rfl (wN 1 ((ws).length)) zk zk ?_ ?_)))))))))))
   ·intro l2
    replace l2 : 1 ≤ (ws).length := by omega
    refine yN ?_
    intro o9 di
    refine zB (zT (zK (zB (zY (zX (wR (zN [(I6 0)] 3 ?_)))))))
    intro et po cn
    replace p := zA (zC (zC (zA p b3.below) cz ad) db ad) di
    have ah := yY (yA p) cn
    replace d := zA d di
    have af := yY (yA d) cn
    replace b := zA (zC (zC (zA b b3.below) cz am) db am) di
    have am := NE.symm af
    replace t := t.tr di
    have a9 := cn.ge t.size
    have b := cn.here
    refine z1 0 (I6 0) [(I6 0)] b ?_
    intro ao dj
    replace r := zA (zA r di) cn.below
    replace r := zC r dj (zJ r b zi)
    replace q := zA (zA q di) cn.below
    replace q := zC q dj (zJ q b zi)
    replace g := zA (zA g di) cn.below
    replace g := zC g dj (zJ g b zi)
    replace n := zA (zA n di) cn.below
    replace n := zC n dj (zJ n b zi)
    replace a := zA (zA a di) cn.below
    replace a := zC a dj (zJ a b zi)
    replace o := zA (zA o di) cn.below
    replace o := zC o dj (zJ o b zi)
    replace b := dj.here
    refine nW (wR (zD (nQ (zX ?_))))
    have fu : an < ao.heap.size := yA r
    replace p := zC (zA p cn.below) dj ah
    have dv : m_rs < ao.heap.size := yA p
    have gy : u < ao.heap.size := yA q
    have fz : b1 < ao.heap.size := yA g
    have ga : b4 < ao.heap.size := yA n
    have de : ag < ao.heap.size := yA a
    have er : ak.heap.size < ao.heap.size := yA o
    replace d := zC (zA d cn.below) dj af
    have ff : fo < ao.heap.size := yA d
    have fl : et < ao.heap.size := yA b
    replace t := (t.tr cn.below).trans (dj.below a9)
    have f4 := t.size
    have px := t
    refine uL 58 [(pt ag 0)] (rowsB rs) zk (fun _ _ => rfl) (it_Rows12 ag an m_rs rs aw (by first | omega | assumption)) ⟨a, r, p⟩ ((fun D A B h hc hd => ⟨zU h.1 hc (fun h => Nat.not_lt.2 (hd _ h) de), zU h.2.1 hc (fun h => Nat.not_lt.2 (hd _ h) fu), zU h.2.2 hc (fun h => Nat.not_lt.2 (hd _ h) dv)⟩)) (by intro x; rfl) (fun K a7 A => ∃ (k : Nat), (A.heap[an]? = some (.cells [(.map (some m_rs)), aw].toArray 69 (0, 0))) ∧ (A.heap[m_rs]? = some (gmObj .i32 vBrk rs)) ∧ (A.heap[u]? = some (.cells [ae, az].toArray 78 (0, 0))) ∧ (A.heap[b1]? = some (.cells [(pt u 0)].toArray 31 (0, 0))) ∧ (A.heap[b4]? = some (.cells [(.bool false)].toArray 4 (0, 0))) ∧ (A.heap[ag]? = some (.cells [(pt an 0)].toArray 27 (0, 0))) ∧ (A.heap[ak.heap.size]? = some (.deferred (some []))) ∧ (A.heap[fo]? = some (.cells [(I6 1)].toArray 3 (0, 0))) ∧ (A.heap[et]? = some (.cells [(N6 k)].toArray 3 (0, 0))) ∧ (Below w.heap.size w A) ∧ (k = a7.length) ∧ (k < 1)) (fun K c a7 A => (∃ (k : Nat), (c = .exit 6) ∧ (A.heap[an]? = some (.cells [(.map (some m_rs)), aw].toArray 69 (0, 0))) ∧ (A.heap[m_rs]? = some (gmObj .i32 vBrk rs)) ∧ (A.heap[u]? = some (.cells [ae, az].toArray 78 (0, 0))) ∧ (A.heap[b1]? = some (.cells [(pt u 0)].toArray 31 (0, 0))) ∧ (A.heap[b4]? = some (.cells [(.bool false)].toArray 4 (0, 0))) ∧ (A.heap[ag]? = some (.cells [(pt an 0)].toArray 27 (0, 0))) ∧ (A.heap[ak.heap.size]? = some (.deferred (some []))) ∧ (A.heap[fo]? = some (.cells [(I6 1)].toArray 3 (0, 0))) ∧ (A.heap[et]? = some (.cells [(N6 k)].toArray 3 (0, 0))) ∧ (Below w.heap.size w A) ∧ (k = 1))) ?_ ?_ ?_ ?_ ?_ ?_
    ·intro A hA
     exact ⟨0, zA r hA, zA p hA, zA q hA, zA g hA, zA n hA, zA a hA, zA o hA, zA d hA, zA b hA, t.trans (hA.mono t.size), by rfl, by decide⟩
    ·rintro K a7 A B ⟨k, r, p, q, g, n, a, o, d, b, t, p1, p2⟩ hc
     exact ⟨k, zU r hc (fun h => Nat.not_lt.2 h.1 fu), zU p hc (fun h => Nat.not_lt.2 h.1 dv), zU q hc (fun h => Nat.not_lt.2 h.1 gy), zU g hc (fun h => Nat.not_lt.2 h.1 fz), zU n hc (fun h => Nat.not_lt.2 h.1 ga), zU a hc (fun h => Nat.not_lt.2 h.1 de), zU o hc (fun h => Nat.not_lt.2 h.1 er), zU d hc (fun h => Nat.not_lt.2 h.1 ff), zU b hc (fun h => Nat.not_lt.2 h.1 fl), hc.below t t.size (fun k h => Nat.le_trans f4 h.1), p1, p2⟩
    ·rintro K c a7 A B (⟨k, hn, r, p, q, g, n, a, o, d, b, t, q1⟩) hc
     exact ⟨k, hn, zU r hc (fun h => Nat.not_lt.2 h.1 fu), zU p hc (fun h => Nat.not_lt.2 h.1 dv), zU q hc (fun h => Nat.not_lt.2 h.1 gy), zU g hc (fun h => Nat.not_lt.2 h.1 fz), zU n hc (fun h => Nat.not_lt.2 h.1 ga), zU a hc (fun h => Nat.not_lt.2 h.1 de), zU o hc (fun h => Nat.not_lt.2 h.1 er), zU d hc (fun h => Nat.not_lt.2 h.1 ff), zU b hc (fun h => Nat.not_lt.2 h.1 fl), hc.below t t.size (fun k h => Nat.le_trans f4 h.1), q1⟩
    ·intro l K a7 x A hi hN iy hK a6
     obtain ⟨k, r, p, q, g, n, a, o, d, b, t, p1, p2⟩ := hi
     have hk := Kp.refl (ao.heap.size) K A
     have es : ¬ Iv (ao.heap.size) K an := fun h => Nat.not_lt.2 h.1 fu
     have a5 : ¬ Iv (ao.heap.size) K m_rs := fun h => Nat.not_lt.2 h.1 dv
     have e2 : ¬ Iv (ao.heap.size) K u := fun h => Nat.not_lt.2 h.1 gy
     have dy : ¬ Iv (ao.heap.size) K b1 := fun h => Nat.not_lt.2 h.1 fz
     have dw : ¬ Iv (ao.heap.size) K b4 := fun h => Nat.not_lt.2 h.1 ga
     have bj : ¬ Iv (ao.heap.size) K ag := fun h => Nat.not_lt.2 h.1 de
     have eh : ¬ Iv (ao.heap.size) K ak.heap.size := fun h => Nat.not_lt.2 h.1 er
     have cx : ¬ Iv (ao.heap.size) K fo := fun h => Nat.not_lt.2 h.1 ff
     have bb : ¬ Iv (ao.heap.size) K et := fun h => Nat.not_lt.2 h.1 fl
     have ab := ac.below t
     replace a := hN.1
     replace r := hN.2.1
     replace p := hN.2.2
     have iz := hrel.lt a6
     refine zQ (zN [(I3 0), (I3 0), (U8 0)] 26 ?_)
     intro i4 qi bi
     have aq := yY (yA p) bi
     have du := bi.ge t.size
     have bc : ¬ Iv ao.heap.size K i4 := fun h => by have := h.2; have := bi.num; omega
     replace hk := hk.ch (Ch.of_below bi.below) hK (fun _ h => h.elim)
     replace hK := Nat.le_trans hK (bi.below.size)
     have aa := bi.here
     refine wG [(I3 x.1), (I3 x.2.1), (U8 x.2.2)] aa ?_
     intro ql ca
     replace hk := hk.ch (Ch.of_wrote ca) hK (fun k e h => bc (e ▸ h))
     replace hK := Nat.le_trans hK (Nat.le_of_eq ca.size.symm)
     replace r := zA r bi.below
     replace r := zC r ca (zJ r aa zi)
     replace q := zA q bi.below
     replace q := zC q ca (zJ q aa zi)
     replace g := zA g bi.below
     replace g := zC g ca (zJ g aa zi)
     replace n := zA n bi.below
     replace n := zC n ca (zJ n aa zi)
     replace a := zA a bi.below
     replace a := zC a ca (zJ a aa zi)
     replace o := zA o bi.below
     replace o := zC o ca (zJ o aa zi)
     replace d := zA d bi.below
     replace d := zC d ca (zJ d aa zi)
     replace b := zA b bi.below
     replace b := zC b ca (zJ b aa zi)
     replace aa := ca.here
     refine zR (zB ⟨hk, ?_⟩)
     intro ln cg
     replace t := (t.tr bi.below).trans (ca.below du)
     replace t := cg.below t t.size (fun k h => Nat.le_trans f4 h.1)
     replace hK := Nat.le_trans hK cg.size
     replace hk := Kp.refl (ao.heap.size) K ln
     refine zX (zY (zY (W_draws 18 zk zk zk ?_)))
     intro pv b5
     replace hk := hk.ch (Ch.of_below b5) hK (fun _ h => h.elim)
     replace hK := Nat.le_trans hK (b5.size)
     replace t := t.tr b5
     replace q := zA (zU q cg e2) b5
     replace b := zA (zU b cg bb) b5
     replace g := zA (zU g cg dy) b5
     replace ab := ac.below t
     refine I_quiet 0 zk zk zk zk (zZ et 0 (N6 k) zk zf (zW b rfl) (zZ b1 0 (pt u 0) zk zf (zW g rfl) (yQ (pt u 0) zf (yQ (pt u 0) zf (zZ u 0 ae zk zf (zW q rfl) (Lq_len 22 26 (ws).length ae rfl underlying22 (ab).len zk (xO .i64 ((k : Nat) : Int) (((ws).length : Nat) : Int) ((ws).length ≤ k) rfl (qZ k ((ws).length)) zk zk ?_ ?_)))))))
     ·intro lc
      replace lc : (ws).length ≤ k := by omega
      exfalso; omega
     intro ko
     replace ko : k < (ws).length := by omega
     replace aa := zA (zU aa cg bc) b5
     refine yE (qw (qU i4 0 [(I3 x.1), (I3 x.2.1), (U8 x.2.2)] zk zf zf (uH aa 0 zk) (qw (zZ b1 0 (pt u 0) zk zf (zW g rfl) (qw (yQ (pt u 0) zf (qw (yQ (pt u 0) zf (qw (zZ u 0 ae zk zf (zW q rfl) (qw (zZ et 0 (N6 k) zk zf (zW b rfl) (qw ?_)))))))))))))
     have hz := zV ws k (by first | omega | assumption); obtain ⟨c6, jy⟩ := hz
     have hz := (ab).at (k := 3) zj jy
     obtain ⟨ja, h3, j1, j4⟩ := hz
     refine yM (k := .i64) ae k _ ja h3 qJ j1 (by first | omega | assumption) zk zk (qw (qU ja (h3 + k * 3) [(I3 c6.1), (I3 c6.2.1), (U8 c6.2.2)] zk zf zf j4 (qw (Lq_aggne [(I3 x.1), (I3 x.2.1), (U8 x.2.2)] [(I3 c6.1), (I3 c6.2.1), (U8 c6.2.2)] (x.1 == c6.1 && x.2.1 == c6.2.1 && x.2.2 == c6.2.2) zk zk zk (eqagg26 x.1 x.2.1 x.2.2 c6.1 c6.2.1 c6.2.2) ?_ ?_))))
     ·intro i7
      exfalso; first | exact brk_ne i7 (hrel.at a6 p1 za) | exact brk_nb i7 (hrel.at a6 p1 za)
     intro jf
     replace jf : x.1 = c6.1 ∧ x.2.1 = c6.2.1 ∧ x.2.2 = c6.2.2 := by simpa [and_assoc] using jf
     refine qF (yN ?_)
     intro pm cc
     replace hk := hk.ch (Ch.of_below cc) hK (fun _ h => h.elim)
     replace hK := Nat.le_trans hK (cc.size)
     replace b := zA b cc
     refine zB (zF (zK (zB (wR (zO 0 b rfl (xL k 1 (z1 0 (N6 (k + 1)) [(N6 (k + 1))] b ?_)))))))
     intro ni cb
     replace hk := hk.ch (Ch.of_wrote cb) hK (fun k e h => bb (e ▸ h))
     replace hK := Nat.le_trans hK (Nat.le_of_eq cb.size.symm)
     replace r := zA (zA (zU r cg es) b5) cc
     replace r := zC r cb (zJ r b zi)
     replace q := zA q cc
     replace q := zC q cb (zJ q b zi)
     replace g := zA g cc
     replace g := zC g cb (zJ g b zi)
     replace n := zA (zA (zU n cg dw) b5) cc
     replace n := zC n cb (zJ n b zi)
     replace a := zA (zA (zU a cg bj) b5) cc
     replace a := zC a cb (zJ a b zi)
     replace o := zA (zA (zU o cg eh) b5) cc
     replace o := zC o cb (zJ o b zi)
     replace b := cb.here
     replace d := zC (zA (zA (zU d cg cx) b5) cc) cb af
     refine nR (zO 0 b rfl (zO 0 d rfl (nEq (k + 1) 1 ?_ ?_)))
     ·intro pj
      refine nQ (zT (yH (zxo ?_)))
      replace t := (t.tr cc).trans (cb.below a9)
      replace p := zC (zA (zA (zU (zC (zA p bi.below) ca aq) cg a5) b5) cc) cb ah
      exact round_exit hk (⟨(k + 1), rfl, r, p, q, g, n, a, o, d, b, t, zo⟩)
     intro pu
     refine nQ (zF (zK (zI ?_)))
     replace t := (t.tr cc).trans (cb.below a9)
     replace p := zC (zA (zA (zU (zC (zA p bi.below) ca aq) cg a5) b5) cc) cb ah
     refine wA hk ⟨a, r, p⟩ ⟨(k + 1), r, p, q, g, n, a, o, d, b, t, ?_, zo⟩
     (rw [List.length_append, List.length_singleton]; omega)
    ·intro K A hi g7 s
     obtain ⟨k, r, p, q, g, n, a, o, d, b, t, p1, p2⟩ := hi
     exfalso; (rw [hrel.rows] at p1; omega)
    intro K c f2 x0 A a6 hx g7 s
    obtain ⟨a7, c2⟩ : ∃ a7, a7 = f2 ++ [x0] := ⟨_, rfl⟩
    rw [← c2] at a6; try rw [← c2] at hx
    rcases hx with ⟨k, rfl, r, p, q, g, n, a, o, d, b, t, q1⟩
    have z := al.below t
    have ax := a1.below t
    have ab := ac.below t
    have aj := ap.below t
    have ec : NE ak.heap.size (ao.heap.size) := Nat.ne_of_lt er
    refine yH (yB (zB (W_cut (fun s0 w0 => (s0.ds = [⟨.collected ao.heap.size, #[]⟩, ⟨.collected ak.heap.size, #[]⟩]) ∧ ([0, 4, 6, 13, 14, 15, 111, 112, 113, 114, 115, 116, 117, 118, 119, 120, 121, 122, 159, 160, 161].map s0.f = [(pt an 0), (pt b1 0), (pt b4 0), (.func (.func 58) #[] #[(pt ag 0)]), (pt fo 0), (pt et 0), (pt an 0), (.func (.func 58) #[] #[(pt ag 0)]), (I6 1), (pt u 0), (pt u 0), (pt u 0), ae, (N6 ((ws).length)), (.bool true), (I6 0), (I6 1), (.func (.func 58) #[] #[(pt ag 0)]), (I6 0), (.bool false), (I6 0)]) ∧ (Rd w0 encI32 ar asked) ∧ (GmAt .i32 vI32 w0 aw ts) ∧ (Rd w0 encBrk ae ws) ∧ (Rd w0 encTw az wt) ∧ (w0.heap[an]? = some (.cells [(.map (some m_rs)), aw].toArray 69 (0, 0))) ∧ (w0.heap[m_rs]? = some (gmObj .i32 vBrk rs)) ∧ (w0.heap[u]? = some (.cells [ae, az].toArray 78 (0, 0))) ∧ (w0.heap[b1]? = some (.cells [(pt u 0)].toArray 31 (0, 0))) ∧ (w0.heap[b4]? = some (.cells [(.bool false)].toArray 4 (0, 0))) ∧ (w0.heap[ag]? = some (.cells [(pt an 0)].toArray 27 (0, 0))) ∧ (w0.heap[ak.heap.size]? = some (.deferred (some []))) ∧ (w0.heap[fo]? = some (.cells [(I6 1)].toArray 3 (0, 0))) ∧ (w0.heap[et]? = some (.cells [(N6 k)].toArray 3 (0, 0))) ∧ (w0.heap[ao.heap.size]? = some (.deferred (some []))) ∧ (Below w.heap.size w w0)) ?_ ?_)))
    ·refine zY (xA zk zk (zZ et 0 (N6 k) zk zf (zW b rfl) (zZ fo 0 (I6 1) zk zf (zW d rfl) (xO .i64 ((k : Nat) : Int) ((1 : Nat) : Int) (k ≠ 1) rfl (cmpN_ne k 1) zk zk ?_ ?_))))
     ·intro k8
      replace k8 : k ≠ 1 := by omega
      exfalso; omega
     intro k0
     replace k0 : k = 1 := by omega
     refine yE (qs (qs (qs (qs (qs (qs (qs (qF (yN ?_)))))))))
     intro nr dd
     refine zB (zF (zK ?_))
     replace t := t.tr dd
     replace o := zA o dd
     replace s := zA s dd
     replace r := zA r dd
     replace a := zA a dd
     replace q := zA q dd
     replace d := zA d dd
     replace b := zA b dd
     replace g := zA g dd
     replace n := zA n dd
     replace z := al.below t
     replace p := zA p dd
     replace ax := a1.below t
     replace ab := ac.below t
     replace aj := ap.below t
     refine zB ⟨(congrArg (List.cons _) cd), zk, z, ax, ab, aj, r, p, q, g, n, a, o, d, b, s, t⟩
    rintro nd na ⟨cd, em, z, ax, ab, aj, r, p, q, g, n, a, o, d, b, s, t⟩
    refine yS em (wR (zO 0 d rfl (zr (.bool false) (nQ (zF (zK (zI (zB (zY (wR (zO 0 d rfl (nQ (zQ (zN [(I6 0)] 3 ?_))))))))))))))
    intro fr oi bv
    have ad := yY (yA p) bv
    have am := yY (yA b) bv
    have af := NE.symm am
    have cf := bv.ge t.size
    have d := bv.here
    refine z1 0 (I6 1) [(I6 1)] d ?_
    intro n9 cq
    replace r := zA r bv.below
    replace r := zC r cq (zJ r d zi)
    replace q := zA q bv.below
    replace q := zC q cq (zJ q d zi)
    replace g := zA g bv.below
    replace g := zC g cq (zJ g d zi)
    replace n := zA n bv.below
    replace n := zC n cq (zJ n d zi)
    replace a := zA a bv.below
    replace a := zC a cq (zJ a d zi)
    replace o := zA o bv.below
    replace o := zC o cq (zJ o d zi)
    replace s := zA s bv.below
    replace s := zC s cq (zJ s d zi)
    replace d := cq.here
    refine nQ (zQ (zO 0 d rfl (xL 1 1 (z1 0 (I6 2) [(I6 2)] d ?_))))
    intro qb cw
    replace r := zC r cw (zJ r d zi)
    replace q := zC q cw (zJ q d zi)
    replace g := zC g cw (zJ g d zi)
    replace n := zC n cw (zJ n d zi)
    replace a := zC a cw (zJ a d zi)
    replace o := zC o cw (zJ o d zi)
    replace s := zC s cw (zJ s d zi)
    replace d := cw.here
    replace t := ((t.tr bv.below).trans (cq.below cf)).trans (cw.below cf)
    replace ab := ac.below t
    refine zR (thenQ_round (zY (zY (xA zk zk (zZ fr 0 (I6 2) zk zf (zW d rfl) (zZ b1 0 (pt u 0) zk zf (zW g rfl) (yQ (pt u 0) zf (yQ (pt u 0) zf (zZ u 0 ae zk zf (zW q rfl) (Lq_len 22 26 (ws).length ae rfl underlying22 (ab).len zk (xO .i64 ((2 : Nat) : Int) (((ws).length : Nat) : Int) (2 ≤ (ws).length) rfl (wN 2 ((ws).length)) zk zk ?_ ?_)))))))))))
    ·intro lw
     replace lw : 2 ≤ (ws).length := by omega
     refine yN ?_
     intro mr cy
     refine zB (zT (zK (zB (zY (zX (wR (zN [(I6 0)] 3 ?_)))))))
     intro eo me b7
     replace p := zA (zC (zC (zA p bv.below) cq ad) cw ad) cy
     have ah := yY (yA p) b7
     replace d := zA d cy
     have af := yY (yA d) b7
     replace b := zA (zC (zC (zA b bv.below) cq am) cw am) cy
     have am := NE.symm af
     replace t := t.tr cy
     have a9 := b7.ge t.size
     have b := b7.here
     refine z1 0 (I6 0) [(I6 0)] b ?_
     intro au dc
     replace r := zA (zA r cy) b7.below
     replace r := zC r dc (zJ r b zi)
     replace q := zA (zA q cy) b7.below
     replace q := zC q dc (zJ q b zi)
     replace g := zA (zA g cy) b7.below
     replace g := zC g dc (zJ g b zi)
     replace n := zA (zA n cy) b7.below
     replace n := zC n dc (zJ n b zi)
     replace a := zA (zA a cy) b7.below
     replace a := zC a dc (zJ a b zi)
     replace o := zA (zA o cy) b7.below
     replace o := zC o dc (zJ o b zi)
     replace s := zA (zA s cy) b7.below
     replace s := zC s dc (zJ s b zi)
     replace b := dc.here
     refine nW (wR (zD (nQ (zX ?_))))
     have fv : an < au.heap.size := yA r
     replace p := zC (zA p b7.below) dc ah
     have d3 : m_rs < au.heap.size := yA p
     have g3 : u < au.heap.size := yA q
     have f8 : b1 < au.heap.size := yA g
     have f1 : b4 < au.heap.size := yA n
     have dh : ag < au.heap.size := yA a
     have ez : ak.heap.size < au.heap.size := yA o
     have e0 : ao.heap.size < au.heap.size := yA s
     replace d := zC (zA d b7.below) dc af
     have fk : fr < au.heap.size := yA d
     have e6 : eo < au.heap.size := yA b
     replace t := (t.tr b7.below).trans (dc.below a9)
     have gm := t.size
     have n0 := t
     refine uL 58 [(pt ag 0)] (rowsB rs) zk (fun _ _ => rfl) (it_Rows12 ag an m_rs rs aw (by first | omega | assumption)) ⟨a, r, p⟩ ((fun D A B h hc hd => ⟨zU h.1 hc (fun h => Nat.not_lt.2 (hd _ h) dh), zU h.2.1 hc (fun h => Nat.not_lt.2 (hd _ h) fv), zU h.2.2 hc (fun h => Nat.not_lt.2 (hd _ h) d3)⟩)) (by intro x; rfl) (fun K a7 A => ∃ (k : Nat), (A.heap[an]? = some (.cells [(.map (some m_rs)), aw].toArray 69 (0, 0))) ∧ (A.heap[m_rs]? = some (gmObj .i32 vBrk rs)) ∧ (A.heap[u]? = some (.cells [ae, az].toArray 78 (0, 0))) ∧ (A.heap[b1]? = some (.cells [(pt u 0)].toArray 31 (0, 0))) ∧ (A.heap[b4]? = some (.cells [(.bool false)].toArray 4 (0, 0))) ∧ (A.heap[ag]? = some (.cells [(pt an 0)].toArray 27 (0, 0))) ∧ (A.heap[ak.heap.size]? = some (.deferred (some []))) ∧ (A.heap[ao.heap.size]? = some (.deferred (some []))) ∧ (A.heap[fr]? = some (.cells [(I6 2)].toArray 3 (0, 0))) ∧ (A.heap[eo]? = some (.cells [(N6 k)].toArray 3 (0, 0))) ∧ (Below w.heap.size w A) ∧ (k = a7.length) ∧ (k < 2)) (fun K c a7 A => (∃ (k : Nat), (c = .exit 6) ∧ (A.heap[an]? = some (.cells [(.map (some m_rs)), aw].toArray 69 (0, 0))) ∧ (A.heap[m_rs]? = some (gmObj .i32 vBrk rs)) ∧ (A.heap[u]? = some (.cells [ae, az].toArray 78 (0, 0))) ∧ (A.heap[b1]? = some (.cells [(pt u 0)].toArray 31 (0, 0))) ∧ (A.heap[b4]? = some (.cells [(.bool false)].toArray 4 (0, 0))) ∧ (A.heap[ag]? = some (.cells [(pt an 0)].toArray 27 (0, 0))) ∧ (A.heap[ak.heap.size]? = some (.deferred (some []))) ∧ (A.heap[ao.heap.size]? = some (.deferred (some []))) ∧ (A.heap[fr]? = some (.cells [(I6 2)].toArray 3 (0, 0))) ∧ (A.heap[eo]? = some (.cells [(N6 k)].toArray 3 (0, 0))) ∧ (Below w.heap.size w A) ∧ (k = 2))) ?_ ?_ ?_ ?_ ?_ ?_
     ·intro A hA
      exact ⟨0, zA r hA, zA p hA, zA q hA, zA g hA, zA n hA, zA a hA, zA o hA, zA s hA, zA d hA, zA b hA, t.trans (hA.mono t.size), by rfl, by decide⟩
     ·rintro K a7 A B ⟨k, r, p, q, g, n, a, o, s, d, b, t, p1, p2⟩ hc
      exact ⟨k, zU r hc (fun h => Nat.not_lt.2 h.1 fv), zU p hc (fun h => Nat.not_lt.2 h.1 d3), zU q hc (fun h => Nat.not_lt.2 h.1 g3), zU g hc (fun h => Nat.not_lt.2 h.1 f8), zU n hc (fun h => Nat.not_lt.2 h.1 f1), zU a hc (fun h => Nat.not_lt.2 h.1 dh), zU o hc (fun h => Nat.not_lt.2 h.1 ez), zU s hc (fun h => Nat.not_lt.2 h.1 e0), zU d hc (fun h => Nat.not_lt.2 h.1 fk), zU b hc (fun h => Nat.not_lt.2 h.1 e6), hc.below t t.size (fun k h => Nat.le_trans gm h.1), p1, p2⟩
     ·rintro K c a7 A B (⟨k, hn, r, p, q, g, n, a, o, s, d, b, t, q1⟩) hc
      exact ⟨k, hn, zU r hc (fun h => Nat.not_lt.2 h.1 fv), zU p hc (fun h => Nat.not_lt.2 h.1 d3), zU q hc (fun h => Nat.not_lt.2 h.1 g3), zU g hc (fun h => Nat.not_lt.2 h.1 f8), zU n hc (fun h => Nat.not_lt.2 h.1 f1), zU a hc (fun h => Nat.not_lt.2 h.1 dh), zU o hc (fun h => Nat.not_lt.2 h.1 ez), zU s hc (fun h => Nat.not_lt.2 h.1 e0), zU d hc (fun h => Nat.not_lt.2 h.1 fk), zU b hc (fun h => Nat.not_lt.2 h.1 e6), hc.below t t.size (fun k h => Nat.le_trans gm h.1), q1⟩
     ·intro l K a7 x A hi hN iy hK a6
      obtain ⟨k, r, p, q, g, n, a, o, s, d, b, t, p1, p2⟩ := hi
      have hk := Kp.refl (au.heap.size) K A
      have es : ¬ Iv (au.heap.size) K an := fun h => Nat.not_lt.2 h.1 fv
      have a5 : ¬ Iv (au.heap.size) K m_rs := fun h => Nat.not_lt.2 h.1 d3
      have e2 : ¬ Iv (au.heap.size) K u := fun h => Nat.not_lt.2 h.1 g3
      have dy : ¬ Iv (au.heap.size) K b1 := fun h => Nat.not_lt.2 h.1 f8
      have dw : ¬ Iv (au.heap.size) K b4 := fun h => Nat.not_lt.2 h.1 f1
      have bj : ¬ Iv (au.heap.size) K ag := fun h => Nat.not_lt.2 h.1 dh
      have eh : ¬ Iv (au.heap.size) K ak.heap.size := fun h => Nat.not_lt.2 h.1 ez
      have fx : ¬ Iv (au.heap.size) K ao.heap.size := fun h => Nat.not_lt.2 h.1 e0
      have cx : ¬ Iv (au.heap.size) K fr := fun h => Nat.not_lt.2 h.1 fk
      have bb : ¬ Iv (au.heap.size) K eo := fun h => Nat.not_lt.2 h.1 e6
      have ab := ac.below t
      replace a := hN.1
      replace r := hN.2.1
      replace p := hN.2.2
      have iz := hrel.lt a6
      refine zQ (zN [(I3 0), (I3 0), (U8 0)] 26 ?_)
      intro jb ny ba
      have aq := yY (yA p) ba
      have du := ba.ge t.size
      have bc : ¬ Iv au.heap.size K jb := fun h => by have := h.2; have := ba.num; omega
      replace hk := hk.ch (Ch.of_below ba.below) hK (fun _ h => h.elim)
      replace hK := Nat.le_trans hK (ba.below.size)
      have aa := ba.here
      refine wG [(I3 x.1), (I3 x.2.1), (U8 x.2.2)] aa ?_
      intro m2 bu
      replace hk := hk.ch (Ch.of_wrote bu) hK (fun k e h => bc (e ▸ h))
      replace hK := Nat.le_trans hK (Nat.le_of_eq bu.size.symm)
      replace r := zA r ba.below
      replace r := zC r bu (zJ r aa zi)
      replace q := zA q ba.below
      replace q := zC q bu (zJ q aa zi)
      replace g := zA g ba.below
      replace g := zC g bu (zJ g aa zi)
      replace n := zA n ba.below
      replace n := zC n bu (zJ n aa zi)
      replace a := zA a ba.below
      replace a := zC a bu (zJ a aa zi)
      replace o := zA o ba.below
      replace o := zC o bu (zJ o aa zi)
      replace s := zA s ba.below
      replace s := zC s bu (zJ s aa zi)
      replace d := zA d ba.below
      replace d := zC d bu (zJ d aa zi)
      replace b := zA b ba.below
      replace b := zC b bu (zJ b aa zi)
      replace aa := bu.here
      refine zR (zB ⟨hk, ?_⟩)
      intro kh b8
      replace t := (t.tr ba.below).trans (bu.below du)
      replace t := b8.below t t.size (fun k h => Nat.le_trans gm h.1)
      replace hK := Nat.le_trans hK b8.size
      replace hk := Kp.refl (au.heap.size) K kh
      refine zX (zY (zY (W_draws 18 zk zk zk ?_)))
      intro nl b0
      replace hk := hk.ch (Ch.of_below b0) hK (fun _ h => h.elim)
      replace hK := Nat.le_trans hK (b0.size)
      replace t := t.tr b0
      replace q := zA (zU q b8 e2) b0
      replace b := zA (zU b b8 bb) b0
      replace g := zA (zU g b8 dy) b0
      replace ab := ac.below t
      refine I_quiet 0 zk zk zk zk (zZ eo 0 (N6 k) zk zf (zW b rfl) (zZ b1 0 (pt u 0) zk zf (zW g rfl) (yQ (pt u 0) zf (yQ (pt u 0) zf (zZ u 0 ae zk zf (zW q rfl) (Lq_len 22 26 (ws).length ae rfl underlying22 (ab).len zk (xO .i64 ((k : Nat) : Int) (((ws).length : Nat) : Int) ((ws).length ≤ k) rfl (qZ k ((ws).length)) zk zk ?_ ?_)))))))
      ·intro j7
       replace j7 : (ws).length ≤ k := by omega
       exfalso; omega
      intro l5
      replace l5 : k < (ws).length := by omega
      replace aa := zA (zU aa b8 bc) b0
      refine yE (qw (qU jb 0 [(I3 x.1), (I3 x.2.1), (U8 x.2.2)] zk zf zf (uH aa 0 zk) (qw (zZ b1 0 (pt u 0) zk zf (zW g rfl) (qw (yQ (pt u 0) zf (qw (yQ (pt u 0) zf (qw (zZ u 0 ae zk zf (zW q rfl) (qw (zZ eo 0 (N6 k) zk zf (zW b rfl) (qw ?_)))))))))))))
      have hz := zV ws k (by first | omega | assumption); obtain ⟨c3, j3⟩ := hz
      have hz := (ab).at (k := 3) zj j3
      obtain ⟨jm, h1, jr, js⟩ := hz
      refine yM (k := .i64) ae k _ jm h1 qJ jr (by first | omega | assumption) zk zk (qw (qU jm (h1 + k * 3) [(I3 c3.1), (I3 c3.2.1), (U8 c3.2.2)] zk zf zf js (qw (Lq_aggne [(I3 x.1), (I3 x.2.1), (U8 x.2.2)] [(I3 c3.1), (I3 c3.2.1), (U8 c3.2.2)] (x.1 == c3.1 && x.2.1 == c3.2.1 && x.2.2 == c3.2.2) zk zk zk (eqagg26 x.1 x.2.1 x.2.2 c3.1 c3.2.1 c3.2.2) ?_ ?_))))
      ·intro jc
       exfalso; first | exact brk_ne jc (hrel.at a6 p1 za) | exact brk_nb jc (hrel.at a6 p1 za)
      intro i9
      replace i9 : x.1 = c3.1 ∧ x.2.1 = c3.2.1 ∧ x.2.2 = c3.2.2 := by simpa [and_assoc] using i9
      refine qF (yN ?_)
      intro pq bw
      replace hk := hk.ch (Ch.of_below bw) hK (fun _ h => h.elim)
      replace hK := Nat.le_trans hK (bw.size)
      replace b := zA b bw
      refine zB (zF (zK (zB (wR (zO 0 b rfl (xL k 1 (z1 0 (N6 (k + 1)) [(N6 (k + 1))] b ?_)))))))
      intro mh bt
      replace hk := hk.ch (Ch.of_wrote bt) hK (fun k e h => bb (e ▸ h))
      replace hK := Nat.le_trans hK (Nat.le_of_eq bt.size.symm)
      replace r := zA (zA (zU r b8 es) b0) bw
      replace r := zC r bt (zJ r b zi)
      replace q := zA q bw
      replace q := zC q bt (zJ q b zi)
      replace g := zA g bw
      replace g := zC g bt (zJ g b zi)
      replace n := zA (zA (zU n b8 dw) b0) bw
      replace n := zC n bt (zJ n b zi)
      replace a := zA (zA (zU a b8 bj) b0) bw
      replace a := zC a bt (zJ a b zi)
      replace o := zA (zA (zU o b8 eh) b0) bw
      replace o := zC o bt (zJ o b zi)
      replace s := zA (zA (zU s b8 fx) b0) bw
      replace s := zC s bt (zJ s b zi)
      replace b := bt.here
      replace d := zC (zA (zA (zU d b8 cx) b0) bw) bt af
      refine nR (zO 0 b rfl (zO 0 d rfl (nEq (k + 1) 2 ?_ ?_)))
      ·intro nt
       refine nQ (zT (yH (zxo ?_)))
       replace t := (t.tr bw).trans (bt.below a9)
       replace p := zC (zA (zA (zU (zC (zA p ba.below) bu aq) b8 a5) b0) bw) bt ah
       exact round_exit hk (⟨(k + 1), rfl, r, p, q, g, n, a, o, s, d, b, t, zo⟩)
      intro nk
      refine nQ (zF (zK (zI ?_)))
      replace t := (t.tr bw).trans (bt.below a9)
      replace p := zC (zA (zA (zU (zC (zA p ba.below) bu aq) b8 a5) b0) bw) bt ah
      refine wA hk ⟨a, r, p⟩ ⟨(k + 1), r, p, q, g, n, a, o, s, d, b, t, ?_, zo⟩
      (rw [List.length_append, List.length_singleton]; omega)
     ·intro K A hi g7 y
      obtain ⟨k, r, p, q, g, n, a, o, s, d, b, t, p1, p2⟩ := hi
      exfalso; (rw [hrel.rows] at p1; omega)
     intro K c f2 x0 A a6 hx g7 y
     obtain ⟨a7, c2⟩ : ∃ a7, a7 = f2 ++ [x0] := ⟨_, rfl⟩
     rw [← c2] at a6; try rw [← c2] at hx
     rcases hx with ⟨k, rfl, r, p, q, g, n, a, o, s, d, b, t, q1⟩
     have z := al.below t
     have ax := a1.below t
     have ab := ac.below t
     have aj := ap.below t
     have e8 : NE ak.heap.size (au.heap.size) := Nat.ne_of_lt ez
     have e7 : NE ao.heap.size (au.heap.size) := Nat.ne_of_lt e0
     refine yH (yB (zB (W_cut (fun s0 w0 => (s0.ds = [⟨.collected au.heap.size, #[]⟩, ⟨.collected ao.heap.size, #[]⟩, ⟨.collected ak.heap.size, #[]⟩]) ∧ ([0, 4, 6, 13, 14, 15, 111, 112, 113, 114, 115, 116, 117, 118, 119, 120, 121, 122, 159, 160, 161].map s0.f = [(pt an 0), (pt b1 0), (pt b4 0), (.func (.func 58) #[] #[(pt ag 0)]), (pt fr 0), (pt eo 0), (pt an 0), (.func (.func 58) #[] #[(pt ag 0)]), (I6 2), (pt u 0), (pt u 0), (pt u 0), ae, (N6 ((ws).length)), (.bool true), (I6 1), (I6 2), (.func (.func 58) #[] #[(pt ag 0)]), (I6 1), (.bool false), (I6 1)]) ∧ (Rd w0 encI32 ar asked) ∧ (GmAt .i32 vI32 w0 aw ts) ∧ (Rd w0 encBrk ae ws) ∧ (Rd w0 encTw az wt) ∧ (w0.heap[an]? = some (.cells [(.map (some m_rs)), aw].toArray 69 (0, 0))) ∧ (w0.heap[m_rs]? = some (gmObj .i32 vBrk rs)) ∧ (w0.heap[u]? = some (.cells [ae, az].toArray 78 (0, 0))) ∧ (w0.heap[b1]? = some (.cells [(pt u 0)].toArray 31 (0, 0))) ∧ (w0.heap[b4]? = some (.cells [(.bool false)].toArray 4 (0, 0))) ∧ (w0.heap[ag]? = some (.cells [(pt an 0)].toArray 27 (0, 0))) ∧ (w0.heap[ak.heap.size]? = some (.deferred (some []))) ∧ (w0.heap[ao.heap.size]? = some (.deferred (some []))) ∧ (w0.heap[fr]? = some (.cells [(I6 2)].toArray 3 (0, 0))) ∧ (w0.heap[eo]? = some (.cells [(N6 k)].toArray 3 (0, 0))) ∧ (w0.heap[au.heap.size]? = some (.deferred (some []))) ∧ (Below w.heap.size w w0)) ?_ ?_)))
     ·refine zY (xA zk zk (zZ eo 0 (N6 k) zk zf (zW b rfl) (zZ fr 0 (I6 2) zk zf (zW d rfl) (xO .i64 ((k : Nat) : Int) ((2 : Nat) : Int) (k ≠ 2) rfl (cmpN_ne k 2) zk zk ?_ ?_))))
      ·intro ls
       replace ls : k ≠ 2 := by omega
       exfalso; omega
      intro kx
      replace kx : k = 2 := by omega
      refine yE (qs (qs (qs (qs (qs (qs (qs (qF (yN ?_)))))))))
      intro ot cp
      refine zB (zF (zK ?_))
      replace t := t.tr cp
      replace o := zA o cp
      replace s := zA s cp
      replace y := zA y cp
      replace r := zA r cp
      replace a := zA a cp
      replace q := zA q cp
      replace d := zA d cp
      replace b := zA b cp
      replace g := zA g cp
      replace n := zA n cp
      replace z := al.below t
      replace p := zA p cp
      replace ax := a1.below t
      replace ab := ac.below t
      replace aj := ap.below t
      refine zB ⟨(congrArg (List.cons _) cd), zk, z, ax, ab, aj, r, p, q, g, n, a, o, s, d, b, y, t⟩
     rintro m8 p9 ⟨cd, em, z, ax, ab, aj, r, p, q, g, n, a, o, s, d, b, y, t⟩
     refine yS em (wR (zO 0 d rfl (zr (.bool false) (nQ (zF (zK (zI (zB (zY (wR (zO 0 d rfl (nQ (zQ (zN [(I6 0)] 3 ?_))))))))))))))
     intro fs p0 bl
     have ad := yY (yA p) bl
     have am := yY (yA b) bl
     have af := NE.symm am
     have cf := bl.ge t.size
     have d := bl.here
     refine z1 0 (I6 2) [(I6 2)] d ?_
     intro qh ce
     replace r := zA r bl.below
     replace r := zC r ce (zJ r d zi)
     replace q := zA q bl.below
     replace q := zC q ce (zJ q d zi)
     replace g := zA g bl.below
     replace g := zC g ce (zJ g d zi)
     replace n := zA n bl.below
     replace n := zC n ce (zJ n d zi)
     replace a := zA a bl.below
     replace a := zC a ce (zJ a d zi)
     replace o := zA o bl.below
     replace o := zC o ce (zJ o d zi)
     replace s := zA s bl.below
     replace s := zC s ce (zJ s d zi)
     replace y := zA y bl.below
     replace y := zC y ce (zJ y d zi)
     replace d := ce.here
     refine nQ (zQ (zO 0 d rfl (xL 2 1 (z1 0 (I6 3) [(I6 3)] d ?_))))
     intro m1 cl
     replace r := zC r cl (zJ r d zi)
     replace q := zC q cl (zJ q d zi)
     replace g := zC g cl (zJ g d zi)
     replace n := zC n cl (zJ n d zi)
     replace a := zC a cl (zJ a d zi)
     replace o := zC o cl (zJ o d zi)
     replace s := zC s cl (zJ s d zi)
     replace y := zC y cl (zJ y d zi)
     replace d := cl.here
     replace t := ((t.tr bl.below).trans (ce.below cf)).trans (cl.below cf)
     replace ab := ac.below t
     refine zR (thenQ_round (zY (zY (xA zk zk (zZ fs 0 (I6 3) zk zf (zW d rfl) (zZ b1 0 (pt u 0) zk zf (zW g rfl) (yQ (pt u 0) zf (yQ (pt u 0) zf (zZ u 0 ae zk zf (zW q rfl) (Lq_len 22 26 (ws).length ae rfl underlying22 (ab).len zk (xO .i64 ((3 : Nat) : Int) (((ws).length : Nat) : Int) (3 ≤ (ws).length) rfl (wN 3 ((ws).length)) zk zk ?_ ?_)))))))))))
     ·intro lb
      replace lb : 3 ≤ (ws).length := by omega
      refine yN ?_
      intro oz cv
      refine zB (zT (zK (zB (zY (zX (wR (zN [(I6 0)] 3 ?_)))))))
      intro ex pp bx
      replace p := zA (zC (zC (zA p bl.below) ce ad) cl ad) cv
      have ah := yY (yA p) bx
      replace d := zA d cv
      have af := yY (yA d) bx
      replace b := zA (zC (zC (zA b bl.below) ce am) cl am) cv
      have am := NE.symm af
      replace t := t.tr cv
      have a9 := bx.ge t.size
      have b := bx.here
      refine z1 0 (I6 0) [(I6 0)] b ?_
      intro ay co
      replace r := zA (zA r cv) bx.below
      replace r := zC r co (zJ r b zi)
      replace q := zA (zA q cv) bx.below
      replace q := zC q co (zJ q b zi)
      replace g := zA (zA g cv) bx.below
      replace g := zC g co (zJ g b zi)
      replace n := zA (zA n cv) bx.below
      replace n := zC n co (zJ n b zi)
      replace a := zA (zA a cv) bx.below
      replace a := zC a co (zJ a b zi)
      replace o := zA (zA o cv) bx.below
      replace o := zC o co (zJ o b zi)
      replace s := zA (zA s cv) bx.below
      replace s := zC s co (zJ s b zi)
      replace y := zA (zA y cv) bx.below
      replace y := zC y co (zJ y b zi)
      replace b := co.here
      refine nW (wR (zD (nQ (zX ?_))))
      have ft : an < ay.heap.size := yA r
      replace p := zC (zA p bx.below) co ah
      have dx : m_rs < ay.heap.size := yA p
      have gv : u < ay.heap.size := yA q
      have f9 : b1 < ay.heap.size := yA g
      have gd : b4 < ay.heap.size := yA n
      have dg : ag < ay.heap.size := yA a
      have ey : ak.heap.size < ay.heap.size := yA o
      have eu : ao.heap.size < ay.heap.size := yA s
      have e5 : au.heap.size < ay.heap.size := yA y
      replace d := zC (zA d bx.below) co af
      have e9 : fs < ay.heap.size := yA d
      have fi : ex < ay.heap.size := yA b
      replace t := (t.tr bx.below).trans (co.below a9)
      have g8 := t.size
      have oj := t
      refine uL 58 [(pt ag 0)] (rowsB rs) zk (fun _ _ => rfl) (it_Rows12 ag an m_rs rs aw (by first | omega | assumption)) ⟨a, r, p⟩ ((fun D A B h hc hd => ⟨zU h.1 hc (fun h => Nat.not_lt.2 (hd _ h) dg), zU h.2.1 hc (fun h => Nat.not_lt.2 (hd _ h) ft), zU h.2.2 hc (fun h => Nat.not_lt.2 (hd _ h) dx)⟩)) (by intro x; rfl) (fun K a7 A => ∃ (k : Nat), (A.heap[an]? = some (.cells [(.map (some m_rs)), aw].toArray 69 (0, 0))) ∧ (A.heap[m_rs]? = some (gmObj .i32 vBrk rs)) ∧ (A.heap[u]? = some (.cells [ae, az].toArray 78 (0, 0))) ∧ (A.heap[b1]? = some (.cells [(pt u 0)].toArray 31 (0, 0))) ∧ (A.heap[b4]? = some (.cells [(.bool false)].toArray 4 (0, 0))) ∧ (A.heap[ag]? = some (.cells [(pt an 0)].toArray 27 (0, 0))) ∧ (A.heap[ak.heap.size]? = some (.deferred (some []))) ∧ (A.heap[ao.heap.size]? = some (.deferred (some []))) ∧ (A.heap[au.heap.size]? = some (.deferred (some []))) ∧ (A.heap[fs]? = some (.cells [(I6 3)].toArray 3 (0, 0))) ∧ (A.heap[ex]? = some (.cells [(N6 k)].toArray 3 (0, 0))) ∧ (Below w.heap.size w A) ∧ (k = a7.length) ∧ (k < 3)) (fun K c a7 A => (∃ (k : Nat), (c = .exit 6) ∧ (A.heap[an]? = some (.cells [(.map (some m_rs)), aw].toArray 69 (0, 0))) ∧ (A.heap[m_rs]? = some (gmObj .i32 vBrk rs)) ∧ (A.heap[u]? = some (.cells [ae, az].toArray 78 (0, 0))) ∧ (A.heap[b1]? = some (.cells [(pt u 0)].toArray 31 (0, 0))) ∧ (A.heap[b4]? = some (.cells [(.bool false)].toArray 4 (0, 0))) ∧ (A.heap[ag]? = some (.cells [(pt an 0)].toArray 27 (0, 0))) ∧ (A.heap[ak.heap.size]? = some (.deferred (some []))) ∧ (A.heap[ao.heap.size]? = some (.deferred (some []))) ∧ (A.heap[au.heap.size]? = some (.deferred (some []))) ∧ (A.heap[fs]? = some (.cells [(I6 3)].toArray 3 (0, 0))) ∧ (A.heap[ex]? = some (.cells [(N6 k)].toArray 3 (0, 0))) ∧ (Below w.heap.size w A) ∧ (k = 3))) ?_ ?_ ?_ ?_ ?_ ?_
      ·intro A hA
       exact ⟨0, zA r hA, zA p hA, zA q hA, zA g hA, zA n hA, zA a hA, zA o hA, zA s hA, zA y hA, zA d hA, zA b hA, t.trans (hA.mono t.size), by rfl, by decide⟩
      ·rintro K a7 A B ⟨k, r, p, q, g, n, a, o, s, y, d, b, t, p1, p2⟩ hc
       exact ⟨k, zU r hc (fun h => Nat.not_lt.2 h.1 ft), zU p hc (fun h => Nat.not_lt.2 h.1 dx), zU q hc (fun h => Nat.not_lt.2 h.1 gv), zU g hc (fun h => Nat.not_lt.2 h.1 f9), zU n hc (fun h => Nat.not_lt.2 h.1 gd), zU a hc (fun h => Nat.not_lt.2 h.1 dg), zU o hc (fun h => Nat.not_lt.2 h.1 ey), zU s hc (fun h => Nat.not_lt.2 h.1 eu), zU y hc (fun h => Nat.not_lt.2 h.1 e5), zU d hc (fun h => Nat.not_lt.2 h.1 e9), zU b hc (fun h => Nat.not_lt.2 h.1 fi), hc.below t t.size (fun k h => Nat.le_trans g8 h.1), p1, p2⟩
      ·rintro K c a7 A B (⟨k, hn, r, p, q, g, n, a, o, s, y, d, b, t, q1⟩) hc
       exact ⟨k, hn, zU r hc (fun h => Nat.not_lt.2 h.1 ft), zU p hc (fun h => Nat.not_lt.2 h.1 dx), zU q hc (fun h => Nat.not_lt.2 h.1 gv), zU g hc (fun h => Nat.not_lt.2 h.1 f9), zU n hc (fun h => Nat.not_lt.2 h.1 gd), zU a hc (fun h => Nat.not_lt.2 h.1 dg), zU o hc (fun h => Nat.not_lt.2 h.1 ey), zU s hc (fun h => Nat.not_lt.2 h.1 eu), zU y hc (fun h => Nat.not_lt.2 h.1 e5), zU d hc (fun h => Nat.not_lt.2 h.1 e9), zU b hc (fun h => Nat.not_lt.2 h.1 fi), hc.below t t.size (fun k h => Nat.le_trans g8 h.1), q1⟩
      ·intro l K a7 x A hi hN iy hK a6
       obtain ⟨k, r, p, q, g, n, a, o, s, y, d, b, t, p1, p2⟩ := hi
       have hk := Kp.refl (ay.heap.size) K A
       have es : ¬ Iv (ay.heap.size) K an := fun h => Nat.not_lt.2 h.1 ft
       have a5 : ¬ Iv (ay.heap.size) K m_rs := fun h => Nat.not_lt.2 h.1 dx
       have e2 : ¬ Iv (ay.heap.size) K u := fun h => Nat.not_lt.2 h.1 gv
       have dy : ¬ Iv (ay.heap.size) K b1 := fun h => Nat.not_lt.2 h.1 f9
       have dw : ¬ Iv (ay.heap.size) K b4 := fun h => Nat.not_lt.2 h.1 gd
       have bj : ¬ Iv (ay.heap.size) K ag := fun h => Nat.not_lt.2 h.1 dg
       have eh : ¬ Iv (ay.heap.size) K ak.heap.size := fun h => Nat.not_lt.2 h.1 ey
       have fx : ¬ Iv (ay.heap.size) K ao.heap.size := fun h => Nat.not_lt.2 h.1 eu
       have hl : ¬ Iv (ay.heap.size) K au.heap.size := fun h => Nat.not_lt.2 h.1 e5
       have cx : ¬ Iv (ay.heap.size) K fs := fun h => Nat.not_lt.2 h.1 e9
       have bb : ¬ Iv (ay.heap.size) K ex := fun h => Nat.not_lt.2 h.1 fi
       have ab := ac.below t
       replace a := hN.1
       replace r := hN.2.1
       replace p := hN.2.2
       have iz := hrel.lt a6
       refine zQ (zN [(I3 0), (I3 0), (U8 0)] 26 ?_)
       intro i5 mk a8
       have aq := yY (yA p) a8
       have du := a8.ge t.size
       have bc : ¬ Iv ay.heap.size K i5 := fun h => by have := h.2; have := a8.num; omega
       replace hk := hk.ch (Ch.of_below a8.below) hK (fun _ h => h.elim)
       replace hK := Nat.le_trans hK (a8.below.size)
       have aa := a8.here
       refine wG [(I3 x.1), (I3 x.2.1), (U8 x.2.2)] aa ?_
       intro nf bm
       replace hk := hk.ch (Ch.of_wrote bm) hK (fun k e h => bc (e ▸ h))
       replace hK := Nat.le_trans hK (Nat.le_of_eq bm.size.symm)
       replace r := zA r a8.below
       replace r := zC r bm (zJ r aa zi)
       replace q := zA q a8.below
       replace q := zC q bm (zJ q aa zi)
       replace g := zA g a8.below
       replace g := zC g bm (zJ g aa zi)
       replace n := zA n a8.below
       replace n := zC n bm (zJ n aa zi)
       replace a := zA a a8.below
       replace a := zC a bm (zJ a aa zi)
       replace o := zA o a8.below
       replace o := zC o bm (zJ o aa zi)
       replace s := zA s a8.below
       replace s := zC s bm (zJ s aa zi)
       replace y := zA y a8.below
       replace y := zC y bm (zJ y aa zi)
       replace d := zA d a8.below
       replace d := zC d bm (zJ d aa zi)
       replace b := zA b a8.below
       replace b := zC b bm (zJ b aa zi)
       replace aa := bm.here
       refine zR (zB ⟨hk, ?_⟩)
       intro kj bz
       replace t := (t.tr a8.below).trans (bm.below du)
       replace t := bz.below t t.size (fun k h => Nat.le_trans g8 h.1)
       replace hK := Nat.le_trans hK bz.size
       replace hk := Kp.refl (ay.heap.size) K kj
       refine zX (zY (zY (W_draws 18 zk zk zk ?_)))
       intro m6 br
       replace hk := hk.ch (Ch.of_below br) hK (fun _ h => h.elim)
       replace hK := Nat.le_trans hK (br.size)
       replace t := t.tr br
       replace q := zA (zU q bz e2) br
       replace b := zA (zU b bz bb) br
       replace g := zA (zU g bz dy) br
       replace ab := ac.below t
       refine I_quiet 0 zk zk zk zk (zZ ex 0 (N6 k) zk zf (zW b rfl) (zZ b1 0 (pt u 0) zk zf (zW g rfl) (yQ (pt u 0) zf (yQ (pt u 0) zf (zZ u 0 ae zk zf (zW q rfl) (Lq_len 22 26 (ws).length ae rfl underlying22 (ab).len zk (xO .i64 ((k : Nat) : Int) (((ws).length : Nat) : Int) ((ws).length ≤ k) rfl (qZ k ((ws).length)) zk zk ?_ ?_)))))))
       ·intro li
        replace li : (ws).length ≤ k := by omega
        exfalso; omega
       intro kk
       replace kk : k < (ws).length := by omega
       replace aa := zA (zU aa bz bc) br
       refine yE (qw (qU i5 0 [(I3 x.1), (I3 x.2.1), (U8 x.2.2)] zk zf zf (uH aa 0 zk) (qw (zZ b1 0 (pt u 0) zk zf (zW g rfl) (qw (yQ (pt u 0) zf (qw (yQ (pt u 0) zf (qw (zZ u 0 ae zk zf (zW q rfl) (qw (zZ ex 0 (N6 k) zk zf (zW b rfl) (qw ?_)))))))))))))
       have hz := zV ws k (by first | omega | assumption); obtain ⟨c0, jw⟩ := hz
       have hz := (ab).at (k := 3) zj jw
       obtain ⟨jl, hw, jo, jq⟩ := hz
       refine yM (k := .i64) ae k _ jl hw qJ jo (by first | omega | assumption) zk zk (qw (qU jl (hw + k * 3) [(I3 c0.1), (I3 c0.2.1), (U8 c0.2.2)] zk zf zf jq (qw (Lq_aggne [(I3 x.1), (I3 x.2.1), (U8 x.2.2)] [(I3 c0.1), (I3 c0.2.1), (U8 c0.2.2)] (x.1 == c0.1 && x.2.1 == c0.2.1 && x.2.2 == c0.2.2) zk zk zk (eqagg26 x.1 x.2.1 x.2.2 c0.1 c0.2.1 c0.2.2) ?_ ?_))))
       ·intro jj
        exfalso; first | exact brk_ne jj (hrel.at a6 p1 za) | exact brk_nb jj (hrel.at a6 p1 za)
       intro i6
       replace i6 : x.1 = c0.1 ∧ x.2.1 = c0.2.1 ∧ x.2.2 = c0.2.2 := by simpa [and_assoc] using i6
       refine qF (yN ?_)
       intro o4 bp
       replace hk := hk.ch (Ch.of_below bp) hK (fun _ h => h.elim)
       replace hK := Nat.le_trans hK (bp.size)
       replace b := zA b bp
       refine zB (zF (zK (zB (wR (zO 0 b rfl (xL k 1 (z1 0 (N6 (k + 1)) [(N6 (k + 1))] b ?_)))))))
       intro oh bs
       replace hk := hk.ch (Ch.of_wrote bs) hK (fun k e h => bb (e ▸ h))
       replace hK := Nat.le_trans hK (Nat.le_of_eq bs.size.symm)
       replace r := zA (zA (zU r bz es) br) bp
       replace r := zC r bs (zJ r b zi)
       replace q := zA q bp
       replace q := zC q bs (zJ q b zi)
       replace g := zA g bp
       replace g := zC g bs (zJ g b zi)
       replace n := zA (zA (zU n bz dw) br) bp
       replace n := zC n bs (zJ n b zi)
       replace a := zA (zA (zU a bz bj) br) bp
       replace a := zC a bs (zJ a b zi)
       replace o := zA (zA (zU o bz eh) br) bp
       replace o := zC o bs (zJ o b zi)
       replace s := zA (zA (zU s bz fx) br) bp
       replace s := zC s bs (zJ s b zi)
       replace y := zA (zA (zU y bz hl) br) bp
       replace y := zC y bs (zJ y b zi)
       replace b := bs.here
       replace d := zC (zA (zA (zU d bz cx) br) bp) bs af
       refine nR (zO 0 b rfl (zO 0 d rfl (nEq (k + 1) 3 ?_ ?_)))
       ·intro om
        refine nQ (zT (yH (zxo ?_)))
        replace t := (t.tr bp).trans (bs.below a9)
        replace p := zC (zA (zA (zU (zC (zA p a8.below) bm aq) bz a5) br) bp) bs ah
        exact round_exit hk (⟨(k + 1), rfl, r, p, q, g, n, a, o, s, y, d, b, t, zo⟩)
       intro qe
       refine nQ (zF (zK (zI ?_)))
       replace t := (t.tr bp).trans (bs.below a9)
       replace p := zC (zA (zA (zU (zC (zA p a8.below) bm aq) bz a5) br) bp) bs ah
       refine wA hk ⟨a, r, p⟩ ⟨(k + 1), r, p, q, g, n, a, o, s, y, d, b, t, ?_, zo⟩
       (rw [List.length_append, List.length_singleton]; omega)
      ·intro K A hi g7 ai
       obtain ⟨k, r, p, q, g, n, a, o, s, y, d, b, t, p1, p2⟩ := hi
       exfalso; (rw [hrel.rows] at p1; omega)
      intro K c f2 x0 A a6 hx g7 ai
      obtain ⟨a7, c2⟩ : ∃ a7, a7 = f2 ++ [x0] := ⟨_, rfl⟩
      rw [← c2] at a6; try rw [← c2] at hx
      rcases hx with ⟨k, rfl, r, p, q, g, n, a, o, s, y, d, b, t, q1⟩
      have z := al.below t
      have ax := a1.below t
      have ab := ac.below t
      have aj := ap.below t
      have gp : NE ak.heap.size (ay.heap.size) := Nat.ne_of_lt ey
      have gi : NE ao.heap.size (ay.heap.size) := Nat.ne_of_lt eu
      have gl : NE au.heap.size (ay.heap.size) := Nat.ne_of_lt e5
      refine yH (yB (zB (W_cut (fun s0 w0 => (s0.ds = [⟨.collected ay.heap.size, #[]⟩, ⟨.collected au.heap.size, #[]⟩, ⟨.collected ao.heap.size, #[]⟩, ⟨.collected ak.heap.size, #[]⟩]) ∧ ([0, 4, 6, 13, 14, 15, 111, 112, 113, 114, 115, 116, 117, 118, 119, 120, 121, 122, 159, 160, 161].map s0.f = [(pt an 0), (pt b1 0), (pt b4 0), (.func (.func 58) #[] #[(pt ag 0)]), (pt fs 0), (pt ex 0), (pt an 0), (.func (.func 58) #[] #[(pt ag 0)]), (I6 3), (pt u 0), (pt u 0), (pt u 0), ae, (N6 ((ws).length)), (.bool true), (I6 2), (I6 3), (.func (.func 58) #[] #[(pt ag 0)]), (I6 2), (.bool false), (I6 2)]) ∧ (Rd w0 encI32 ar asked) ∧ (GmAt .i32 vI32 w0 aw ts) ∧ (Rd w0 encBrk ae ws) ∧ (Rd w0 encTw az wt) ∧ (w0.heap[an]? = some (.cells [(.map (some m_rs)), aw].toArray 69 (0, 0))) ∧ (w0.heap[m_rs]? = some (gmObj .i32 vBrk rs)) ∧ (w0.heap[u]? = some (.cells [ae, az].toArray 78 (0, 0))) ∧ (w0.heap[b1]? = some (.cells [(pt u 0)].toArray 31 (0, 0))) ∧ (w0.heap[b4]? = some (.cells [(.bool false)].toArray 4 (0, 0))) ∧ (w0.heap[ag]? = some (.cells [(pt an 0)].toArray 27 (0, 0))) ∧ (w0.heap[ak.heap.size]? = some (.deferred (some []))) ∧ (w0.heap[ao.heap.size]? = some (.deferred (some []))) ∧ (w0.heap[au.heap.size]? = some (.deferred (some []))) ∧ (w0.heap[fs]? = some (.cells [(I6 3)].toArray 3 (0, 0))) ∧ (w0.heap[ex]? = some (.cells [(N6 k)].toArray 3 (0, 0))) ∧ (w0.heap[ay.heap.size]? = some (.deferred (some []))) ∧ (Below w.heap.size w w0)) ?_ ?_)))
      ·refine zY (xA zk zk (zZ ex 0 (N6 k) zk zf (zW b rfl) (zZ fs 0 (I6 3) zk zf (zW d rfl) (xO .i64 ((k : Nat) : Int) ((3 : Nat) : Int) (k ≠ 3) rfl (cmpN_ne k 3) zk zk ?_ ?_))))
       ·intro l8
        replace l8 : k ≠ 3 := by omega
        exfalso; omega
       intro l7
       replace l7 : k = 3 := by omega
       refine yE (qs (qs (qs (qs (qs (qs (qs (qF (yN ?_)))))))))
       intro p5 cm
       refine zB (zF (zK ?_))
       replace t := t.tr cm
       replace o := zA o cm
       replace s := zA s cm
       replace y := zA y cm
       replace ai := zA ai cm
       replace r := zA r cm
       replace a := zA a cm
       replace q := zA q cm
       replace d := zA d cm
       replace b := zA b cm
       replace g := zA g cm
       replace n := zA n cm
       replace z := al.below t
       replace p := zA p cm
       replace ax := a1.below t
       replace ab := ac.below t
       replace aj := ap.below t
       refine zB ⟨(congrArg (List.cons _) cd), zk, z, ax, ab, aj, r, p, q, g, n, a, o, s, y, d, b, ai, t⟩
      rintro qj mx ⟨cd, em, z, ax, ab, aj, r, p, q, g, n, a, o, s, y, d, b, ai, t⟩
      refine yS em (wR (zO 0 d rfl (zr (.bool false) (nQ (zF (zK (zI (zB (zY (wR (zO 0 d rfl (nQ (zQ (zN [(I6 0)] 3 ?_))))))))))))))
      intro fq n4 bn
      have ad := yY (yA p) bn
      have am := yY (yA b) bn
      have af := NE.symm am
      have cf := bn.ge t.size
      have d := bn.here
      refine z1 0 (I6 3) [(I6 3)] d ?_
      intro pd cj
      replace r := zA r bn.below
      replace r := zC r cj (zJ r d zi)
      replace q := zA q bn.below
      replace q := zC q cj (zJ q d zi)
      replace g := zA g bn.below
      replace g := zC g cj (zJ g d zi)
      replace n := zA n bn.below
      replace n := zC n cj (zJ n d zi)
      replace a := zA a bn.below
      replace a := zC a cj (zJ a d zi)
      replace o := zA o bn.below
      replace o := zC o cj (zJ o d zi)
      replace s := zA s bn.below
      replace s := zC s cj (zJ s d zi)
      replace y := zA y bn.below
      replace y := zC y cj (zJ y d zi)
      replace ai := zA ai bn.below
      replace ai := zC ai cj (zJ ai d zi)
      replace d := cj.here
      refine nQ (zQ (zO 0 d rfl (xL 3 1 (z1 0 (I6 4) [(I6 4)] d ?_))))
      intro pi ci
      replace r := zC r ci (zJ r d zi)
      replace q := zC q ci (zJ q d zi)
      replace g := zC g ci (zJ g d zi)
      replace n := zC n ci (zJ n d zi)
      replace a := zC a ci (zJ a d zi)
      replace o := zC o ci (zJ o d zi)
      replace s := zC s ci (zJ s d zi)
      replace y := zC y ci (zJ y d zi)
      replace ai := zC ai ci (zJ ai d zi)
      replace d := ci.here
      replace t := ((t.tr bn.below).trans (cj.below cf)).trans (ci.below cf)
      replace ab := ac.below t
      refine zR (thenQ_round (zY (zY (xA zk zk (zZ fq 0 (I6 4) zk zf (zW d rfl) (zZ b1 0 (pt u 0) zk zf (zW g rfl) (yQ (pt u 0) zf (yQ (pt u 0) zf (zZ u 0 ae zk zf (zW q rfl) (Lq_len 22 26 (ws).length ae rfl underlying22 (ab).len zk (xO .i64 ((4 : Nat) : Int) (((ws).length : Nat) : Int) (4 ≤ (ws).length) rfl (wN 4 ((ws).length)) zk zk ?_ ?_)))))))))))
      ·intro kn
       replace kn : 4 ≤ (ws).length := by omega
       refine yN ?_
       intro n7 cr
       refine zB (zT (zK (zB (zY (zX (wR (zN [(I6 0)] 3 ?_)))))))
       intro e3 mo bk
       replace p := zA (zC (zC (zA p bn.below) cj ad) ci ad) cr
       have ah := yY (yA p) bk
       replace d := zA d cr
       have af := yY (yA d) bk
       replace t := t.tr cr
       have a9 := bk.ge t.size
       have b := bk.here
       refine z1 0 (I6 0) [(I6 0)] b ?_
       intro a0 ck
       replace r := zA (zA r cr) bk.below
       replace r := zC r ck (zJ r b zi)
       replace q := zA (zA q cr) bk.below
       replace q := zC q ck (zJ q b zi)
       replace g := zA (zA g cr) bk.below
       replace g := zC g ck (zJ g b zi)
       replace n := zA (zA n cr) bk.below
       replace n := zC n ck (zJ n b zi)
       replace a := zA (zA a cr) bk.below
       replace a := zC a ck (zJ a b zi)
       replace o := zA (zA o cr) bk.below
       replace o := zC o ck (zJ o b zi)
       replace s := zA (zA s cr) bk.below
       replace s := zC s ck (zJ s b zi)
       replace y := zA (zA y cr) bk.below
       replace y := zC y ck (zJ y b zi)
       replace ai := zA (zA ai cr) bk.below
       replace ai := zC ai ck (zJ ai b zi)
       replace b := ck.here
       refine nW (wR (zD (nQ (zX ?_))))
       have fw : an < a0.heap.size := yA r
       replace p := zC (zA p bk.below) ck ah
       have dr : m_rs < a0.heap.size := yA p
       have gs : u < a0.heap.size := yA q
       have f6 : b1 < a0.heap.size := yA g
       have f5 : b4 < a0.heap.size := yA n
       have df : ag < a0.heap.size := yA a
       have e4 : ak.heap.size < a0.heap.size := yA o
       have ep : ao.heap.size < a0.heap.size := yA s
       have e1 : au.heap.size < a0.heap.size := yA y
       have ew : ay.heap.size < a0.heap.size := yA ai
       replace d := zC (zA d bk.below) ck af
       have fj : fq < a0.heap.size := yA d
       have fg : e3 < a0.heap.size := yA b
       replace t := (t.tr bk.below).trans (ck.below a9)
       have hr := t.size
       have pe := t
       refine uL 58 [(pt ag 0)] (rowsB rs) zk (fun _ _ => rfl) (it_Rows12 ag an m_rs rs aw (by first | omega | assumption)) ⟨a, r, p⟩ ((fun D A B h hc hd => ⟨zU h.1 hc (fun h => Nat.not_lt.2 (hd _ h) df), zU h.2.1 hc (fun h => Nat.not_lt.2 (hd _ h) fw), zU h.2.2 hc (fun h => Nat.not_lt.2 (hd _ h) dr)⟩)) (by intro x; rfl) (fun K a7 A => ∃ (k : Nat), (A.heap[an]? = some (.cells [(.map (some m_rs)), aw].toArray 69 (0, 0))) ∧ (A.heap[m_rs]? = some (gmObj .i32 vBrk rs)) ∧ (A.heap[u]? = some (.cells [ae, az].toArray 78 (0, 0))) ∧ (A.heap[b1]? = some (.cells [(pt u 0)].toArray 31 (0, 0))) ∧ (A.heap[b4]? = some (.cells [(.bool false)].toArray 4 (0, 0))) ∧ (A.heap[ag]? = some (.cells [(pt an 0)].toArray 27 (0, 0))) ∧ (A.heap[ak.heap.size]? = some (.deferred (some []))) ∧ (A.heap[ao.heap.size]? = some (.deferred (some []))) ∧ (A.heap[au.heap.size]? = some (.deferred (some []))) ∧ (A.heap[ay.heap.size]? = some (.deferred (some []))) ∧ (A.heap[fq]? = some (.cells [(I6 4)].toArray 3 (0, 0))) ∧ (A.heap[e3]? = some (.cells [(N6 k)].toArray 3 (0, 0))) ∧ (Below w.heap.size w A) ∧ (k = a7.length) ∧ (k < 4)) (fun K c a7 A => (∃ (k : Nat), (c = .exit 6) ∧ (A.heap[an]? = some (.cells [(.map (some m_rs)), aw].toArray 69 (0, 0))) ∧ (A.heap[m_rs]? = some (gmObj .i32 vBrk rs)) ∧ (A.heap[u]? = some (.cells [ae, az].toArray 78 (0, 0))) ∧ (A.heap[b1]? = some (.cells [(pt u 0)].toArray 31 (0, 0))) ∧ (A.heap[b4]? = some (.cells [(.bool false)].toArray 4 (0, 0))) ∧ (A.heap[ag]? = some (.cells [(pt an 0)].toArray 27 (0, 0))) ∧ (A.heap[ak.heap.size]? = some (.deferred (some []))) ∧ (A.heap[ao.heap.size]? = some (.deferred (some []))) ∧ (A.heap[au.heap.size]? = some (.deferred (some []))) ∧ (A.heap[ay.heap.size]? = some (.deferred (some []))) ∧ (A.heap[fq]? = some (.cells [(I6 4)].toArray 3 (0, 0))) ∧ (A.heap[e3]? = some (.cells [(N6 k)].toArray 3 (0, 0))) ∧ (Below w.heap.size w A) ∧ (k = 4))) ?_ ?_ ?_ ?_ ?_ ?_
       ·intro A hA
        exact ⟨0, zA r hA, zA p hA, zA q hA, zA g hA, zA n hA, zA a hA, zA o hA, zA s hA, zA y hA, zA ai hA, zA d hA, zA b hA, t.trans (hA.mono t.size), by rfl, by decide⟩
       ·rintro K a7 A B ⟨k, r, p, q, g, n, a, o, s, y, ai, d, b, t, p1, p2⟩ hc
        exact ⟨k, zU r hc (fun h => Nat.not_lt.2 h.1 fw), zU p hc (fun h => Nat.not_lt.2 h.1 dr), zU q hc (fun h => Nat.not_lt.2 h.1 gs), zU g hc (fun h => Nat.not_lt.2 h.1 f6), zU n hc (fun h => Nat.not_lt.2 h.1 f5), zU a hc (fun h => Nat.not_lt.2 h.1 df), zU o hc (fun h => Nat.not_lt.2 h.1 e4), zU s hc (fun h => Nat.not_lt.2 h.1 ep), zU y hc (fun h => Nat.not_lt.2 h.1 e1), zU ai hc (fun h => Nat.not_lt.2 h.1 ew), zU d hc (fun h => Nat.not_lt.2 h.1 fj), zU b hc (fun h => Nat.not_lt.2 h.1 fg), hc.below t t.size (fun k h => Nat.le_trans hr h.1), p1, p2⟩
       ·rintro K c a7 A B (⟨k, hn, r, p, q, g, n, a, o, s, y, ai, d, b, t, q1⟩) hc
        exact ⟨k, hn, zU r hc (fun h => Nat.not_lt.2 h.1 fw), zU p hc (fun h => Nat.not_lt.2 h.1 dr), zU q hc (fun h => Nat.not_lt.2 h.1 gs), zU g hc (fun h => Nat.not_lt.2 h.1 f6), zU n hc (fun h => Nat.not_lt.2 h.1 f5), zU a hc (fun h => Nat.not_lt.2 h.1 df), zU o hc (fun h => Nat.not_lt.2 h.1 e4), zU s hc (fun h => Nat.not_lt.2 h.1 ep), zU y hc (fun h => Nat.not_lt.2 h.1 e1), zU ai hc (fun h => Nat.not_lt.2 h.1 ew), zU d hc (fun h => Nat.not_lt.2 h.1 fj), zU b hc (fun h => Nat.not_lt.2 h.1 fg), hc.below t t.size (fun k h => Nat.le_trans hr h.1), q1⟩
       ·intro l K a7 x A hi hN iy hK a6
        obtain ⟨k, r, p, q, g, n, a, o, s, y, ai, d, b, t, p1, p2⟩ := hi
        have hk := Kp.refl (a0.heap.size) K A
        have es : ¬ Iv (a0.heap.size) K an := fun h => Nat.not_lt.2 h.1 fw
        have a5 : ¬ Iv (a0.heap.size) K m_rs := fun h => Nat.not_lt.2 h.1 dr
        have e2 : ¬ Iv (a0.heap.size) K u := fun h => Nat.not_lt.2 h.1 gs
        have dy : ¬ Iv (a0.heap.size) K b1 := fun h => Nat.not_lt.2 h.1 f6
        have dw : ¬ Iv (a0.heap.size) K b4 := fun h => Nat.not_lt.2 h.1 f5
        have bj : ¬ Iv (a0.heap.size) K ag := fun h => Nat.not_lt.2 h.1 df
        have eh : ¬ Iv (a0.heap.size) K ak.heap.size := fun h => Nat.not_lt.2 h.1 e4
        have fx : ¬ Iv (a0.heap.size) K ao.heap.size := fun h => Nat.not_lt.2 h.1 ep
        have hl : ¬ Iv (a0.heap.size) K au.heap.size := fun h => Nat.not_lt.2 h.1 e1
        have j2 : ¬ Iv (a0.heap.size) K ay.heap.size := fun h => Nat.not_lt.2 h.1 ew
        have cx : ¬ Iv (a0.heap.size) K fq := fun h => Nat.not_lt.2 h.1 fj
        have bb : ¬ Iv (a0.heap.size) K e3 := fun h => Nat.not_lt.2 h.1 fg
        have ab := ac.below t
        replace a := hN.1
        replace r := hN.2.1
        replace p := hN.2.2
        have iz := hrel.lt a6
        refine zQ (zN [(I3 0), (I3 0), (U8 0)] 26 ?_)
        intro je mu a4
        have aq := yY (yA p) a4
        have du := a4.ge t.size
        have bc : ¬ Iv a0.heap.size K je := fun h => by have := h.2; have := a4.num; omega
        replace hk := hk.ch (Ch.of_below a4.below) hK (fun _ h => h.elim)
        replace hK := Nat.le_trans hK (a4.below.size)
        have aa := a4.here
        refine wG [(I3 x.1), (I3 x.2.1), (U8 x.2.2)] aa ?_
        intro pk bf
        replace hk := hk.ch (Ch.of_wrote bf) hK (fun k e h => bc (e ▸ h))
        replace hK := Nat.le_trans hK (Nat.le_of_eq bf.size.symm)
        replace r := zA r a4.below
        replace r := zC r bf (zJ r aa zi)
        replace q := zA q a4.below
        replace q := zC q bf (zJ q aa zi)
        replace g := zA g a4.below
        replace g := zC g bf (zJ g aa zi)
        replace n := zA n a4.below
        replace n := zC n bf (zJ n aa zi)
        replace a := zA a a4.below
        replace a := zC a bf (zJ a aa zi)
        replace o := zA o a4.below
        replace o := zC o bf (zJ o aa zi)
        replace s := zA s a4.below
        replace s := zC s bf (zJ s aa zi)
        replace y := zA y a4.below
        replace y := zC y bf (zJ y aa zi)
        replace ai := zA ai a4.below
        replace ai := zC ai bf (zJ ai aa zi)
        replace d := zA d a4.below
        replace d := zC d bf (zJ d aa zi)
        replace b := zA b a4.below
        replace b := zC b bf (zJ b aa zi)
        replace aa := bf.here
        refine zR (zB ⟨hk, ?_⟩)
        intro ll bq
        replace t := (t.tr a4.below).trans (bf.below du)
        replace t := bq.below t t.size (fun k h => Nat.le_trans hr h.1)
        replace hK := Nat.le_trans hK bq.size
        replace hk := Kp.refl (a0.heap.size) K ll
        refine zX (zY (zY (W_draws 18 zk zk zk ?_)))
        intro qk bg
        replace hk := hk.ch (Ch.of_below bg) hK (fun _ h => h.elim)
        replace hK := Nat.le_trans hK (bg.size)
        replace t := t.tr bg
        replace q := zA (zU q bq e2) bg
        replace b := zA (zU b bq bb) bg
        replace g := zA (zU g bq dy) bg
        replace ab := ac.below t
        refine I_quiet 0 zk zk zk zk (zZ e3 0 (N6 k) zk zf (zW b rfl) (zZ b1 0 (pt u 0) zk zf (zW g rfl) (yQ (pt u 0) zf (yQ (pt u 0) zf (zZ u 0 ae zk zf (zW q rfl) (Lq_len 22 26 (ws).length ae rfl underlying22 (ab).len zk (xO .i64 ((k : Nat) : Int) (((ws).length : Nat) : Int) ((ws).length ≤ k) rfl (qZ k ((ws).length)) zk zk ?_ ?_)))))))
        ·intro lf
         replace lf : (ws).length ≤ k := by omega
         exfalso; omega
        intro lm
        replace lm : k < (ws).length := by omega
        replace aa := zA (zU aa bq bc) bg
        refine yE (qw (qU je 0 [(I3 x.1), (I3 x.2.1), (U8 x.2.2)] zk zf zf (uH aa 0 zk) (qw (zZ b1 0 (pt u 0) zk zf (zW g rfl) (qw (yQ (pt u 0) zf (qw (yQ (pt u 0) zf (qw (zZ u 0 ae zk zf (zW q rfl) (qw (zZ e3 0 (N6 k) zk zf (zW b rfl) (qw ?_)))))))))))))
        have hz := zV ws k (by first | omega | assumption); obtain ⟨c7, jx⟩ := hz
        have hz := (ab).at (k := 3) zj jx
        obtain ⟨jk, h0, jp, j0⟩ := hz
        refine yM (k := .i64) ae k _ jk h0 qJ jp (by first | omega | assumption) zk zk (qw (qU jk (h0 + k * 3) [(I3 c7.1), (I3 c7.2.1), (U8 c7.2.2)] zk zf zf j0 (qw (Lq_aggne [(I3 x.1), (I3 x.2.1), (U8 x.2.2)] [(I3 c7.1), (I3 c7.2.1), (U8 c7.2.2)] (x.1 == c7.1 && x.2.1 == c7.2.1 && x.2.2 == c7.2.2) zk zk zk (eqagg26 x.1 x.2.1 x.2.2 c7.1 c7.2.1 c7.2.2) ?_ ?_))))
        ·intro jg
         exfalso; first | exact brk_ne jg (hrel.at a6 p1 za) | exact brk_nb jg (hrel.at a6 p1 za)
        intro jh
        replace jh : x.1 = c7.1 ∧ x.2.1 = c7.2.1 ∧ x.2.2 = c7.2.2 := by simpa [and_assoc] using jh
        refine qF (yN ?_)
        intro m5 bh
        replace hk := hk.ch (Ch.of_below bh) hK (fun _ h => h.elim)
        replace hK := Nat.le_trans hK (bh.size)
        replace b := zA b bh
        refine zB (zF (zK (zB (wR (zO 0 b rfl (xL k 1 (z1 0 (N6 (k + 1)) [(N6 (k + 1))] b ?_)))))))
        intro n6 be
        replace hk := hk.ch (Ch.of_wrote be) hK (fun k e h => bb (e ▸ h))
        replace hK := Nat.le_trans hK (Nat.le_of_eq be.size.symm)
        replace r := zA (zA (zU r bq es) bg) bh
        replace r := zC r be (zJ r b zi)
        replace q := zA q bh
        replace q := zC q be (zJ q b zi)
        replace g := zA g bh
        replace g := zC g be (zJ g b zi)
        replace n := zA (zA (zU n bq dw) bg) bh
        replace n := zC n be (zJ n b zi)
        replace a := zA (zA (zU a bq bj) bg) bh
        replace a := zC a be (zJ a b zi)
        replace o := zA (zA (zU o bq eh) bg) bh
        replace o := zC o be (zJ o b zi)
        replace s := zA (zA (zU s bq fx) bg) bh
        replace s := zC s be (zJ s b zi)
        replace y := zA (zA (zU y bq hl) bg) bh
        replace y := zC y be (zJ y b zi)
        replace ai := zA (zA (zU ai bq j2) bg) bh
        replace ai := zC ai be (zJ ai b zi)
        replace b := be.here
        replace d := zC (zA (zA (zU d bq cx) bg) bh) be af
        refine nR (zO 0 b rfl (zO 0 d rfl (nEq (k + 1) 4 ?_ ?_)))
        ·intro pn
         refine nQ (zT (yH (zxo ?_)))
         replace t := (t.tr bh).trans (be.below a9)
         replace p := zC (zA (zA (zU (zC (zA p a4.below) bf aq) bq a5) bg) bh) be ah
         exact round_exit hk (⟨(k + 1), rfl, r, p, q, g, n, a, o, s, y, ai, d, b, t, zo⟩)
        intro pc
        refine nQ (zF (zK (zI ?_)))
        replace t := (t.tr bh).trans (be.below a9)
        replace p := zC (zA (zA (zU (zC (zA p a4.below) bf aq) bq a5) bg) bh) be ah
        refine wA hk ⟨a, r, p⟩ ⟨(k + 1), r, p, q, g, n, a, o, s, y, ai, d, b, t, ?_, zo⟩
        (rw [List.length_append, List.length_singleton]; omega)
       ·intro K A hi g7 d4
        obtain ⟨k, r, p, q, g, n, a, o, s, y, ai, d, b, t, p1, p2⟩ := hi
        exfalso; (rw [hrel.rows] at p1; omega)
       intro K c f2 x0 A a6 hx g7 d4
       obtain ⟨a7, c2⟩ : ∃ a7, a7 = f2 ++ [x0] := ⟨_, rfl⟩
       rw [← c2] at a6; try rw [← c2] at hx
       rcases hx with ⟨k, rfl, r, p, q, g, n, a, o, s, y, ai, d, b, t, q1⟩
       have z := al.below t
       have ax := a1.below t
       have ab := ac.below t
       have aj := ap.below t
       have h5 : NE ak.heap.size (a0.heap.size) := Nat.ne_of_lt e4
       have h6 : NE ao.heap.size (a0.heap.size) := Nat.ne_of_lt ep
       have h7 : NE au.heap.size (a0.heap.size) := Nat.ne_of_lt e1
       have h4 : NE ay.heap.size (a0.heap.size) := Nat.ne_of_lt ew
       refine yH (yB (zB (W_cut (fun s0 w0 => (s0.ds = [⟨.collected a0.heap.size, #[]⟩, ⟨.collected ay.heap.size, #[]⟩, ⟨.collected au.heap.size, #[]⟩, ⟨.collected ao.heap.size, #[]⟩, ⟨.collected ak.heap.size, #[]⟩]) ∧ ([0, 4, 6, 13, 14, 15, 111, 112, 113, 114, 115, 116, 117, 118, 119, 120, 121, 122, 159, 160, 161].map s0.f = [(pt an 0), (pt b1 0), (pt b4 0), (.func (.func 58) #[] #[(pt ag 0)]), (pt fq 0), (pt e3 0), (pt an 0), (.func (.func 58) #[] #[(pt ag 0)]), (I6 4), (pt u 0), (pt u 0), (pt u 0), ae, (N6 ((ws).length)), (.bool true), (I6 3), (I6 4), (.func (.func 58) #[] #[(pt ag 0)]), (I6 3), (.bool false), (I6 3)]) ∧ (Rd w0 encI32 ar asked) ∧ (GmAt .i32 vI32 w0 aw ts) ∧ (Rd w0 encBrk ae ws) ∧ (Rd w0 encTw az wt) ∧ (w0.heap[an]? = some (.cells [(.map (some m_rs)), aw].toArray 69 (0, 0))) ∧ (w0.heap[m_rs]? = some (gmObj .i32 vBrk rs)) ∧ (w0.heap[u]? = some (.cells [ae, az].toArray 78 (0, 0))) ∧ (w0.heap[b1]? = some (.cells [(pt u 0)].toArray 31 (0, 0))) ∧ (w0.heap[b4]? = some (.cells [(.bool false)].toArray 4 (0, 0))) ∧ (w0.heap[ag]? = some (.cells [(pt an 0)].toArray 27 (0, 0))) ∧ (w0.heap[ak.heap.size]? = some (.deferred (some []))) ∧ (w0.heap[ao.heap.size]? = some (.deferred (some []))) ∧ (w0.heap[au.heap.size]? = some (.deferred (some []))) ∧ (w0.heap[ay.heap.size]? = some (.deferred (some []))) ∧ (w0.heap[fq]? = some (.cells [(I6 4)].toArray 3 (0, 0))) ∧ (w0.heap[e3]? = some (.cells [(N6 k)].toArray 3 (0, 0))) ∧ (w0.heap[a0.heap.size]? = some (.deferred (some []))) ∧ (Below w.heap.size w w0)) ?_ ?_)))
       ·refine zY (xA zk zk (zZ e3 0 (N6 k) zk zf (zW b rfl) (zZ fq 0 (I6 4) zk zf (zW d rfl) (xO .i64 ((k : Nat) : Int) ((4 : Nat) : Int) (k ≠ 4) rfl (cmpN_ne k 4) zk zk ?_ ?_))))
        ·intro k1
         replace k1 : k ≠ 4 := by omega
         exfalso; omega
        intro k3
        replace k3 : k = 4 := by omega
        refine yE (qs (qs (qs (qs (qs (qs (qs (qF (yN ?_)))))))))
        intro oe b9
        refine zB (zF (zK ?_))
        replace t := t.tr b9
        replace o := zA o b9
        replace s := zA s b9
        replace y := zA y b9
        replace ai := zA ai b9
        replace d4 := zA d4 b9
        replace r := zA r b9
        replace a := zA a b9
        replace q := zA q b9
        replace d := zA d b9
        replace b := zA b b9
        replace g := zA g b9
        replace n := zA n b9
        replace z := al.below t
        replace p := zA p b9
        replace ax := a1.below t
        replace ab := ac.below t
        replace aj := ap.below t
        refine zB ⟨(congrArg (List.cons _) cd), zk, z, ax, ab, aj, r, p, q, g, n, a, o, s, y, ai, d, b, d4, t⟩
       rintro o2 o1 ⟨cd, em, z, ax, ab, aj, r, p, q, g, n, a, o, s, y, ai, d, b, d4, t⟩
       refine yS em (wR (zO 0 d rfl (zr (.bool true) (nQ (zT (yH (zxo (zL (zL (yB (zB (zY (xB 5 6 zk zk zk ?_)))))))))))))
       intro mg c8
       refine ⟨fun w => (w.heap[b1]? = some (.cells [(pt u 0)].toArray 31 (0, 0))), ?_⟩
       replace g := zA g c8
       refine mp 0 rfl (pt an 0) (.inr g) zg (mt 2 [2, 3, 4, 5] rfl (pt u 0) g (yR b1 0 (pt u 0) zk zf (fun w2 h2 => zW h2 rfl)) (yD 1 zk ?_))
       refine yJ 1 rfl ?_ rfl
       replace r := zA r c8
       replace p := zA p c8
       refine zc (c_Write12 an m_rs rs aw _ r p (by first | omega | assumption)) ?_
       rintro _ nb ⟨rfl, d2⟩
       have := vV rs
       refine zR ?_
       replace g := zA g d2
       refine ⟨rfl, .inr g, yD 3 zk (yJ 3 rfl ?_ rfl)⟩
       replace t := (t.tr c8).tr d2
       replace q := zA (zA q c8) d2
       replace ab := ac.below t
       replace aj := ap.below t
       refine zc (c_rWrite u ae ws az wt _ q ab aj (by first | omega | assumption) za) ?_
       rintro _ o3 ⟨rfl, d9⟩
       refine zR ?_
       replace g := zA g d9
       refine ⟨rfl, .inr g, yD 4 zk (yJ 4 rfl ?_ rfl)⟩
       refine vD (writeB rs) (ws.flatMap lineB) rfl zk zk ?_ ?_
       ·intro pg
        refine zR ?_
        refine ⟨rfl, .inr g, yD 5 zk (yJ 5 rfl ?_ rfl)⟩
        replace n := zA (zA (zA n c8) d2) d9
        refine z1 0 (.bool true) [(.bool true)] n ?_
        intro np ei
        replace o := zA (zA (zA o c8) d2) d9
        replace o := zC o ei (zJ o n zi)
        replace s := zA (zA (zA s c8) d2) d9
        replace s := zC s ei (zJ s n zi)
        replace y := zA (zA (zA y c8) d2) d9
        replace y := zC y ei (zJ y n zi)
        replace ai := zA (zA (zA ai c8) d2) d9
        replace ai := zC ai ei (zJ ai n zi)
        replace d4 := zA (zA (zA d4 c8) d2) d9
        replace d4 := zC d4 ei (zJ d4 n zi)
        replace n := ei.here
        refine zR ?_
        refine ⟨rfl, .inl zk, yO zk (zB (zS (wQ (ds := [⟨.collected a0.heap.size, #[]⟩, ⟨.collected ay.heap.size, #[]⟩, ⟨.collected au.heap.size, #[]⟩, ⟨.collected ao.heap.size, #[]⟩, ⟨.collected ak.heap.size, #[]⟩]) cd (wF d4 ?_))))⟩
        intro ou fb
        replace n := zC n fb (zJ n d4 zi)
        replace ai := zC ai fb h4
        refine wF ai ?_
        intro qf f3
        replace n := zC n f3 (zJ n ai zi)
        replace y := zC (zC y fb h7) f3 gl
        refine wF y ?_
        intro ov g2
        replace n := zC n g2 (zJ n y zi)
        replace s := zC (zC (zC s fb h6) f3 gi) g2 e7
        refine wF s ?_
        intro n8 hh
        replace n := zC n hh (zJ n s zi)
        replace o := zC (zC (zC (zC o fb h5) f3 gp) g2 e8) hh ec
        refine wF o ?_
        intro o0 iv
        replace n := zC n iv (zJ n o zi)
        refine vQ [.cell 6 4] [(.bool true)] rfl ⟨⟨⟨b4, 0, none⟩, zk, wH zk (zW n rfl)⟩, trivial⟩ ?_
        replace t := ((((((t.tr d9).trans (ei.below fp)).trans (fb.below hr)).trans (f3.below g8)).trans (g2.below gm)).trans (hh.below f4)).trans (iv.below f0)
        exact ⟨rfl, t⟩
       intro la
       exfalso; exact la hrel.write
      intro l6
      replace l6 : (ws).length < 4 := by omega
      refine yN ?_
      intro ph dl
      refine zB (zF (yH (zL (zL (yB (zB (zY (xB 5 6 zk zk zk ?_))))))))
      intro m9 dk
      refine ⟨fun w => (w.heap[b1]? = some (.cells [(pt u 0)].toArray 31 (0, 0))), ?_⟩
      replace g := zA (zA g dl) dk
      refine mp 0 rfl (pt an 0) (.inr g) zg (mt 2 [2, 3, 4, 5] rfl (pt u 0) g (yR b1 0 (pt u 0) zk zf (fun w2 h2 => zW h2 rfl)) (yD 1 zk ?_))
      refine yJ 1 rfl ?_ rfl
      replace r := zA (zA r dl) dk
      replace p := zA (zA (zC (zC (zA p bn.below) cj ad) ci ad) dl) dk
      refine zc (c_Write12 an m_rs rs aw _ r p (by first | omega | assumption)) ?_
      rintro _ n5 ⟨rfl, d8⟩
      have := vV rs
      refine zR ?_
      replace g := zA g d8
      refine ⟨rfl, .inr g, yD 3 zk (yJ 3 rfl ?_ rfl)⟩
      replace t := ((t.tr dl).tr dk).tr d8
      replace q := zA (zA (zA q dl) dk) d8
      replace ab := ac.below t
      replace aj := ap.below t
      refine zc (c_rWrite u ae ws az wt _ q ab aj (by first | omega | assumption) za) ?_
      rintro _ md ⟨rfl, en⟩
      refine zR ?_
      replace g := zA g en
      refine ⟨rfl, .inr g, yD 4 zk (yJ 4 rfl ?_ rfl)⟩
      refine vD (writeB rs) (ws.flatMap lineB) rfl zk zk ?_ ?_
      ·intro ol
       refine zR ?_
       refine ⟨rfl, .inr g, yD 5 zk (yJ 5 rfl ?_ rfl)⟩
       replace n := zA (zA (zA (zA n dl) dk) d8) en
       refine z1 0 (.bool true) [(.bool true)] n ?_
       intro pa fe
       replace o := zA (zA (zA (zA o dl) dk) d8) en
       replace o := zC o fe (zJ o n zi)
       replace s := zA (zA (zA (zA s dl) dk) d8) en
       replace s := zC s fe (zJ s n zi)
       replace y := zA (zA (zA (zA y dl) dk) d8) en
       replace y := zC y fe (zJ y n zi)
       replace ai := zA (zA (zA (zA ai dl) dk) d8) en
       replace ai := zC ai fe (zJ ai n zi)
       replace n := fe.here
       refine zR ?_
       refine ⟨rfl, .inl zk, yO zk (zB (zS (wQ (ds := [⟨.collected ay.heap.size, #[]⟩, ⟨.collected au.heap.size, #[]⟩, ⟨.collected ao.heap.size, #[]⟩, ⟨.collected ak.heap.size, #[]⟩]) cd (wF ai ?_))))⟩
       intro ms fy
       replace n := zC n fy (zJ n ai zi)
       replace y := zC y fy gl
       refine wF y ?_
       intro qa gz
       replace n := zC n gz (zJ n y zi)
       replace s := zC (zC s fy gi) gz e7
       refine wF s ?_
       intro oo g9
       replace n := zC n g9 (zJ n s zi)
       replace o := zC (zC (zC o fy gp) gz e8) g9 ec
       refine wF o ?_
       intro ow im
       replace n := zC n im (zJ n o zi)
       refine vQ [.cell 6 4] [(.bool true)] rfl ⟨⟨⟨b4, 0, none⟩, zk, wH zk (zW n rfl)⟩, trivial⟩ ?_
       replace t := (((((t.tr en).trans (fe.below fp)).trans (fy.below g8)).trans (gz.below gm)).trans (g9.below f4)).trans (im.below f0)
       exact ⟨rfl, t⟩
      intro lg
      exfalso; exact lg hrel.write
     intro l3
     replace l3 : (ws).length < 3 := by omega
     refine yN ?_
     intro o6 dz
     refine zB (zF (yH (zL (zL (yB (zB (zY (xB 5 6 zk zk zk ?_))))))))
     intro mj d1
     refine ⟨fun w => (w.heap[b1]? = some (.cells [(pt u 0)].toArray 31 (0, 0))), ?_⟩
     replace g := zA (zA g dz) d1
     refine mp 0 rfl (pt an 0) (.inr g) zg (mt 2 [2, 3, 4, 5] rfl (pt u 0) g (yR b1 0 (pt u 0) zk zf (fun w2 h2 => zW h2 rfl)) (yD 1 zk ?_))
     refine yJ 1 rfl ?_ rfl
     replace r := zA (zA r dz) d1
     replace p := zA (zA (zC (zC (zA p bl.below) ce ad) cl ad) dz) d1
     refine zc (c_Write12 an m_rs rs aw _ r p (by first | omega | assumption)) ?_
     rintro _ mz ⟨rfl, eg⟩
     have := vV rs
     refine zR ?_
     replace g := zA g eg
     refine ⟨rfl, .inr g, yD 3 zk (yJ 3 rfl ?_ rfl)⟩
     replace t := ((t.tr dz).tr d1).tr eg
     replace q := zA (zA (zA q dz) d1) eg
     replace ab := ac.below t
     replace aj := ap.below t
     refine zc (c_rWrite u ae ws az wt _ q ab aj (by first | omega | assumption) za) ?_
     rintro _ pr ⟨rfl, fn⟩
     refine zR ?_
     replace g := zA g fn
     refine ⟨rfl, .inr g, yD 4 zk (yJ 4 rfl ?_ rfl)⟩
     refine vD (writeB rs) (ws.flatMap lineB) rfl zk zk ?_ ?_
     ·intro mw
      refine zR ?_
      refine ⟨rfl, .inr g, yD 5 zk (yJ 5 rfl ?_ rfl)⟩
      replace n := zA (zA (zA (zA n dz) d1) eg) fn
      refine z1 0 (.bool true) [(.bool true)] n ?_
      intro od gc
      replace o := zA (zA (zA (zA o dz) d1) eg) fn
      replace o := zC o gc (zJ o n zi)
      replace s := zA (zA (zA (zA s dz) d1) eg) fn
      replace s := zC s gc (zJ s n zi)
      replace y := zA (zA (zA (zA y dz) d1) eg) fn
      replace y := zC y gc (zJ y n zi)
      replace n := gc.here
      refine zR ?_
      refine ⟨rfl, .inl zk, yO zk (zB (zS (wQ (ds := [⟨.collected au.heap.size, #[]⟩, ⟨.collected ao.heap.size, #[]⟩, ⟨.collected ak.heap.size, #[]⟩]) cd (wF y ?_))))⟩
      intro oq gq
      replace n := zC n gq (zJ n y zi)
      replace s := zC s gq e7
      refine wF s ?_
      intro og hp
      replace n := zC n hp (zJ n s zi)
      replace o := zC (zC o gq e8) hp ec
      refine wF o ?_
      intro n1 il
      replace n := zC n il (zJ n o zi)
      refine vQ [.cell 6 4] [(.bool true)] rfl ⟨⟨⟨b4, 0, none⟩, zk, wH zk (zW n rfl)⟩, trivial⟩ ?_
      replace t := ((((t.tr fn).trans (gc.below fp)).trans (gq.below gm)).trans (hp.below f4)).trans (il.below f0)
      exact ⟨rfl, t⟩
     intro ld
     exfalso; exact ld hrel.write
    intro lo
    replace lo : (ws).length < 2 := by omega
    refine yN ?_
    intro oc ea
    refine zB (zF (yH (zL (zL (yB (zB (zY (xB 5 6 zk zk zk ?_))))))))
    intro pf d6
    refine ⟨fun w => (w.heap[b1]? = some (.cells [(pt u 0)].toArray 31 (0, 0))), ?_⟩
    replace g := zA (zA g ea) d6
    refine mp 0 rfl (pt an 0) (.inr g) zg (mt 2 [2, 3, 4, 5] rfl (pt u 0) g (yR b1 0 (pt u 0) zk zf (fun w2 h2 => zW h2 rfl)) (yD 1 zk ?_))
    refine yJ 1 rfl ?_ rfl
    replace r := zA (zA r ea) d6
    replace p := zA (zA (zC (zC (zA p bv.below) cq ad) cw ad) ea) d6
    refine zc (c_Write12 an m_rs rs aw _ r p (by first | omega | assumption)) ?_
    rintro _ nx ⟨rfl, fh⟩
    have := vV rs
    refine zR ?_
    replace g := zA g fh
    refine ⟨rfl, .inr g, yD 3 zk (yJ 3 rfl ?_ rfl)⟩
    replace t := ((t.tr ea).tr d6).tr fh
    replace q := zA (zA (zA q ea) d6) fh
    replace ab := ac.below t
    replace aj := ap.below t
    refine zc (c_rWrite u ae ws az wt _ q ab aj (by first | omega | assumption) za) ?_
    rintro _ nm ⟨rfl, gb⟩
    refine zR ?_
    replace g := zA g gb
    refine ⟨rfl, .inr g, yD 4 zk (yJ 4 rfl ?_ rfl)⟩
    refine vD (writeB rs) (ws.flatMap lineB) rfl zk zk ?_ ?_
    ·intro pb
     refine zR ?_
     refine ⟨rfl, .inr g, yD 5 zk (yJ 5 rfl ?_ rfl)⟩
     replace n := zA (zA (zA (zA n ea) d6) fh) gb
     refine z1 0 (.bool true) [(.bool true)] n ?_
     intro p8 g1
     replace o := zA (zA (zA (zA o ea) d6) fh) gb
     replace o := zC o g1 (zJ o n zi)
     replace s := zA (zA (zA (zA s ea) d6) fh) gb
     replace s := zC s g1 (zJ s n zi)
     replace n := g1.here
     refine zR ?_
     refine ⟨rfl, .inl zk, yO zk (zB (zS (wQ (ds := [⟨.collected ao.heap.size, #[]⟩, ⟨.collected ak.heap.size, #[]⟩]) cd (wF s ?_))))⟩
     intro m0 hf
     replace n := zC n hf (zJ n s zi)
     replace o := zC o hf ec
     refine wF o ?_
     intro mi ik
     replace n := zC n ik (zJ n o zi)
     refine vQ [.cell 6 4] [(.bool true)] rfl ⟨⟨⟨b4, 0, none⟩, zk, wH zk (zW n rfl)⟩, trivial⟩ ?_
     replace t := (((t.tr gb).trans (g1.below fp)).trans (hf.below f4)).trans (ik.below f0)
     exact ⟨rfl, t⟩
    intro kp
    exfalso; exact kp hrel.write
   intro k2
   replace k2 : (ws).length < 1 := by omega
   refine yN ?_
   intro nq ej
   refine zB (zF (yH (zL (zL (yB (zB (zY (xB 5 6 zk zk zk ?_))))))))
   intro nv ee
   refine ⟨fun w => (w.heap[b1]? = some (.cells [(pt u 0)].toArray 31 (0, 0))), ?_⟩
   replace g := zA (zA g ej) ee
   refine mp 0 rfl (pt an 0) (.inr g) zg (mt 2 [2, 3, 4, 5] rfl (pt u 0) g (yR b1 0 (pt u 0) zk zf (fun w2 h2 => zW h2 rfl)) (yD 1 zk ?_))
   refine yJ 1 rfl ?_ rfl
   replace r := zA (zA r ej) ee
   replace p := zA (zA (zC (zC (zA p b3.below) cz ad) db ad) ej) ee
   refine zc (c_Write12 an m_rs rs aw _ r p (by first | omega | assumption)) ?_
   rintro _ nc ⟨rfl, f7⟩
   have := vV rs
   refine zR ?_
   replace g := zA g f7
   refine ⟨rfl, .inr g, yD 3 zk (yJ 3 rfl ?_ rfl)⟩
   replace t := ((t.tr ej).tr ee).tr f7
   replace q := zA (zA (zA q ej) ee) f7
   replace ab := ac.below t
   replace aj := ap.below t
   refine zc (c_rWrite u ae ws az wt _ q ab aj (by first | omega | assumption) za) ?_
   rintro _ my ⟨rfl, gx⟩
   refine zR ?_
   replace g := zA g gx
   refine ⟨rfl, .inr g, yD 4 zk (yJ 4 rfl ?_ rfl)⟩
   refine vD (writeB rs) (ws.flatMap lineB) rfl zk zk ?_ ?_
   ·intro pz
    refine zR ?_
    refine ⟨rfl, .inr g, yD 5 zk (yJ 5 rfl ?_ rfl)⟩
    replace n := zA (zA (zA (zA n ej) ee) f7) gx
    refine z1 0 (.bool true) [(.bool true)] n ?_
    intro o7 ho
    replace o := zA (zA (zA (zA o ej) ee) f7) gx
    replace o := zC o ho (zJ o n zi)
    replace n := ho.here
    refine zR ?_
    refine ⟨rfl, .inl zk, yO zk (zB (zS (wQ (ds := [⟨.collected ak.heap.size, #[]⟩]) cd (wF o ?_))))⟩
    intro mv iq
    replace n := zC n iq (zJ n o zi)
    refine vQ [.cell 6 4] [(.bool true)] rfl ⟨⟨⟨b4, 0, none⟩, zk, wH zk (zW n rfl)⟩, trivial⟩ ?_
    replace t := ((t.tr gx).trans (ho.below fp)).trans (iq.below f0)
    exact ⟨rfl, t⟩
   intro km
   exfalso; exact km hrel.write
  intro K c _ x A _ h; exact h.elim
 intro k4
 replace k4 : (ws).length < 0 := by omega
 refine yN ?_
 intro o5 fm
 refine zB (zF (yH (zL (zL (yB (zB (zY (xB 5 6 zk zk zk ?_))))))))
 intro n2 fa
 refine ⟨fun w => (w.heap[b1]? = some (.cells [(pt u 0)].toArray 31 (0, 0))), ?_⟩
 replace g := zA (zA g fm) fa
 refine mp 0 rfl (pt an 0) (.inr g) zg (mt 2 [2, 3, 4, 5] rfl (pt u 0) g (yR b1 0 (pt u 0) zk zf (fun w2 h2 => zW h2 rfl)) (yD 1 zk ?_))
 refine yJ 1 rfl ?_ rfl
 replace r := zA (zA r fm) fa
 replace p := zA (zA (zC (zA p c9.below) dt ad) fm) fa
 refine zc (c_Write12 an m_rs rs aw _ r p (by first | omega | assumption)) ?_
 rintro _ oy ⟨rfl, gr⟩
 have := vV rs
 refine zR ?_
 replace g := zA g gr
 refine ⟨rfl, .inr g, yD 3 zk (yJ 3 rfl ?_ rfl)⟩
 replace t := ((t.tr fm).tr fa).tr gr
 replace q := zA (zA (zA q fm) fa) gr
 replace ab := ac.below t
 replace aj := ap.below t
 refine zc (c_rWrite u ae ws az wt _ q ab aj (by first | omega | assumption) za) ?_
 rintro _ p7 ⟨rfl, hg⟩
 refine zR ?_
 replace g := zA g hg
 refine ⟨rfl, .inr g, yD 4 zk (yJ 4 rfl ?_ rfl)⟩
 refine vD (writeB rs) (ws.flatMap lineB) rfl zk zk ?_ ?_
 ·intro pw
  refine zR ?_
  refine ⟨rfl, .inr g, yD 5 zk (yJ 5 rfl ?_ rfl)⟩
  replace n := zA (zA (zA (zA n fm) fa) gr) hg
  refine z1 0 (.bool true) [(.bool true)] n ?_
  intro nj id
  replace n := id.here
  refine zR ?_
  refine ⟨rfl, .inl zk, yO zk (zB (zS (wQ (ds := []) cd (vQ [.cell 6 4] [(.bool true)] rfl ⟨⟨⟨b4, 0, none⟩, zk, wH zk (zW n rfl)⟩, trivial⟩ ?_))))⟩
  replace t := (t.tr hg).trans (id.below fp)
  exact ⟨rfl, t⟩
 intro j8
 exfalso; exact j8 hrel.write
end Go.Proofs.YtddnhlobnembaaaGreatDoor
end

/- === Wrb8 === -/
section
/- Walks, written by my program walk.py out of the specification rb8.py: each theorem says what one function returns and that it leaves memory as it was. -/
namespace Go.Proofs.YtddnhlobnembaaaGreatDoor
open Go Go.RowKit Go.FK _root_.Go.Proofs.Tryz
set_option maxHeartbeats 4000000
set_option maxRecDepth 100000
theorem el226 : Elem Tryz.prog 226 229 4 32 := ⟨underlying226, zk, rfl⟩
theorem c_furrowref04_Digit (b : Int) (w : World) (hb0 : 0 ≤ b) :
  Calls Tryz.prog 108 #[(U8 b)] w (Ret fun v w' => v = (I6 (digitV b.toNat)) ∧ Below w.heap.size w w') := by
 refine wI 13 func108 rfl ?_
 have c := Below.refl w.heap.size w
 refine wR (zG (nW (wR (zG (nQ (zX (yZ (fun m s0 w0 => ∃ (i : Nat), (m = 16 - i) ∧ (s0.ds = []) ∧ ([0, 3].map s0.f = [(U8 b), (N6 i)]) ∧ (Below w.heap.size w w0) ∧ (i ≤ 16) ∧ (digInv b i)) _ ⟨0, rfl, zk, zk, c, by omega, digInv_zero b⟩ ?_)))))))
 rintro t y q ⟨i, o, a, g, c, r, h⟩
 refine yS g (zY (wR (zD (nLt i 16 ?_ ?_))))
 ·intro s
  refine nQ (zT (zK (zB (zY (zX (wR (zD ?_)))))))
  have j := zV ([48, 49, 50, 51, 52, 53, 54, 55, 56, 57, 65, 66, 67, 68, 69, 70] : List UInt8) i (by first | omega | (simp; omega)); obtain ⟨d, e⟩ := j
  have := d.toNat_lt
  refine xM (k := .i64) ([48, 49, 50, 51, 52, 53, 54, 55, 56, 57, 65, 66, 67, 68, 69, 70] : List UInt8) i d underlying9 e zk zk (zD (qA .u8 ((d.toNat : Nat) : Int) b ?_ ?_))
  ·intro p
   exact nQ (zT (wR (zD (zG (nQ (zS (zP (zH (zH (zP (zH (yC [(N6 i)] (hd := a) ⟨e6 (by (have l := dig_found za; rw [← l]; congr 1; omega)), c⟩))))))))))))
  intro n
  refine nQ (zF (zK (zI (zB (zQ (zD (xL i 1 (zG (zR (zB ⟨_, zo, (i + 1), rfl, a, zk, c, zo, ?_⟩))))))))))
  exact digInv_succ h za zo
 intro u
 exact nQ (zF (yH (zL (zL (yB (zB (wR (zG (nQ (zS (yC [(I6 (-1))] (hd := a) ⟨e6 (by exact (digInv_end h zo hb0).symm), c⟩)))))))))))
theorem c_furrowref04_Read (s : List UInt8) (w : World) (hs : s.length ≤ 1073741824) :
  Calls Tryz.prog 86 #[(S s)] w (Ret fun v w' => v = (.tuple #[(I3 ((hexF s).1)), (I6 ((hexF s).2))]) ∧ Below w.heap.size w w') := by
 refine wI 45 func86 rfl ?_
 have b := Below.refl w.heap.size w
 refine wR (zG (zG (nW (wR (zD (zsl 9 s (nLt ((s).length) 4 ?_ ?_)))))))
 ·intro h1
  exact zD (zs (zs (zs (xG (nQ (zT (wR (zG (zG (nQ (zS (zH (yC [(I3 0), (I6 40)] ⟨xE (e3 (by (rw [hexF_len zo]; done))) (e6 (by (rw [hexF_len zo]; done))), b⟩)))))))))))))
 intro h2
 refine zD (zw (zD (zw (zsl 9 s (zw (nGt ((s).length) 6 ?_ ?_))))))
 ·intro h3
  exact xF (nQ (zT (wR (zG (zG (nQ (zS (zH (yC [(I3 0), (I6 40)] ⟨xE (e3 (by (rw [hexF_len zo]; done))) (e6 (by (rw [hexF_len zo]; done))), b⟩)))))))))
 intro h4
 refine xF (nQ (zF (zK (zB (wR (zG (nW (wR (zG (nQ (zX (yZ (fun m s0 w0 => ∃ (i : Nat) (z : Int), (m = s.length - i) ∧ (s0.ds = []) ∧ ([0, 4, 5].map s0.f = [(S s), (I6 z), (N6 i)]) ∧ (Below w.heap.size w w0) ∧ (0 ≤ z) ∧ (i ≤ s.length) ∧ (z.toNat < 16 ^ i) ∧ (hexV (s.drop i) z.toNat = hexV s 0)) _ ⟨0, 0, rfl, zk, zk, b, by omega, by omega, by decide, rfl⟩ ?_))))))))))))
 rintro m5 s6 w7 ⟨i, z, hm, d, t, b, n, i1, u, e⟩
 refine yS t ?_
 have aj : i ≤ 5 → z.toNat < 1048576 := pow16 u
 have af : i ≤ 6 → z.toNat < 16777216 := pow166 u
 refine zY (wR (zD (zD (zsl 9 s (nLt i ((s).length) ?_ ?_)))))
 ·intro h8
  refine nQ (zT (zK (zB (zY (zX (wR (zD (zD ?_))))))))
  have r := zV s i zo; obtain ⟨c, l⟩ := r
  have := c.toNat_lt
  have o : digitV ((c.toNat : Nat) : Int).toNat = digitV c.toNat := rfl
  have aa := vK c.toNat
  have h : ∀ q, q = ((z * 16) + (digitV ((c.toNat : Nat) : Int).toNat)) → 0 ≤ digitV c.toNat → q.toNat = 16 * z.toNat + (digitV c.toNat).toNat := fun q h1 h2 => by omega
  refine xM (k := .i64) s i c underlying9 l zk zk (zc (c_furrowref04_Digit ((c.toNat : Nat) : Int) _ zo) ?_)
  rintro _ ag ⟨rfl, g⟩
  have := vK ((c.toNat : Nat) : Int).toNat
  refine zG (nW (wR (zD (zLt .i64 (digitV ((c.toNat : Nat) : Int).toNat) 0 ?_ ?_))))
  ·intro am
   have b := b.tr g
   exact nQ (zT (wR (zG (zG (nQ (zS (zH (zP (zH (zH (zP (zH (yC [(I3 0), (I6 40)] (hd := d) ⟨xE (e3 (by (rw [hexF_bad e za zo]; done))) (e6 (by (rw [hexF_bad e za zo]; done))), b⟩)))))))))))))
  intro al
  refine nQ (zF (zK (zB (zQ (zD (xQ z 16 (z * 16) rfl zk zk (yW _ zh zh) (zD (xQ (z * 16) (digitV ((c.toNat : Nat) : Int).toNat) ((z * 16) + (digitV ((c.toNat : Nat) : Int).toNat)) rfl zk zk (yW _ zh zh) (zG (zR (zI (zB (zQ (zD (xL i 1 (zG (zR ?_)))))))))))))))))
  have b := b.tr g
  refine zB ⟨_, zo, (i + 1), ((z * 16) + (digitV ((c.toNat : Nat) : Int).toNat)), rfl, d, zk, b, zo, zo, ?_, ?_⟩
  ·rw [h _ rfl zo]; exact pow16s u zo
  rw [h _ rfl zo]; exact hexV_step e za zo
 intro ai
 refine nQ (zF (yH (zL (zL (yB (zB (zY (wR (zD (zGt .i64 z 1114111 ?_ ?_))))))))))
 ·intro ad
  exact zD (zs (zs (zs (zs (zs (zs (zs (zs (xG (nQ (zT (wR (zG (zG (nQ (zS (zH (yC [(I3 0), (I6 40)] (hd := d) ⟨xE (e3 (by (rw [hexF_big (qS e zo) zo]; done))) (e6 (by (rw [hexF_big (qS e zo) zo]; done))), b⟩))))))))))))))))))
 intro ak
 refine zD (zw (zD (zw (zsl 9 s (zw (nGt ((s).length) 4 ?_ ?_))))))
 ·intro ah
  refine zw (zD (zw (zD (zw ?_))))
  have r := zV s 0 zo; obtain ⟨a, j⟩ := r
  have := a.toNat_lt
  have o : digitV ((a.toNat : Nat) : Int).toNat = digitV a.toNat := rfl
  have aa := vK a.toNat
  have h : ∀ q, q = ((z * 16) + (digitV ((a.toNat : Nat) : Int).toNat)) → 0 ≤ digitV a.toNat → q.toNat = 16 * z.toNat + (digitV a.toNat).toNat := fun q h1 h2 => by omega
  refine xM (k := .i64) s 0 a underlying9 j zk zk (zw (xJ .u8 ((a.toNat : Nat) : Int) ((48 : Nat) : Int) (a.toNat = 48) rfl (xK a.toNat 48) zk zk ?_ ?_))
  ·intro p
   replace p : a.toNat = 48 := by omega
   exact zw (xG (xF (nQ (zT (wR (zG (zG (nQ (zS (zH (yC [(I3 0), (I6 40)] (hd := d) ⟨xE (e3 (by (rw [hexF_zero zo za zo]; done))) (e6 (by (rw [hexF_zero zo za zo]; done))), b⟩)))))))))))
  intro y
  replace y : a.toNat ≠ 48 := by omega
  exact zw (xG (xF (nQ (zF (zK (zB (wR (zD (vS (k := .i64) z z zk underlying21 zk (qV _ zo zo) (zG (zG (nQ (zS (yC [(I3 z), (I6 0)] (hd := d) ⟨xE (e3 (by (rw [hexF_ok (qS e zo) zo zo zo (.inr ⟨_, by assumption, by omega⟩)]; first | done | exact (Int.toNat_of_nonneg n).symm))) (e6 (by (rw [hexF_ok (qS e zo) zo zo zo (.inr ⟨_, by assumption, by omega⟩)]; first | done | exact (Int.toNat_of_nonneg n).symm))), b⟩))))))))))))))
 intro ae
 exact zw (zD (zs (zs (zs (zw (xF (xF (nQ (zF (zK (zB (wR (zD (vS (k := .i64) z z zk underlying21 zk (qV _ zo zo) (zG (zG (nQ (zS (yC [(I3 z), (I6 0)] (hd := d) ⟨xE (e3 (by (rw [hexF_ok (qS e zo) zo zo zo (.inl zo)]; first | done | exact (Int.toNat_of_nonneg n).symm))) (e6 (by (rw [hexF_ok (qS e zo) zo zo zo (.inl zo)]; first | done | exact (Int.toNat_of_nonneg n).symm))), b⟩)))))))))))))))))))
theorem c_furrowref05_Blank (r : Int) (w : World) :
  Calls Tryz.prog 126 #[(I3 r)] w (Ret fun v w' => v = (.bool (blankB r)) ∧ Below w.heap.size w w') := by
 refine wI 23 func126 rfl ?_
 have a := Below.refl w.heap.size w
 refine wR (zG (nW (wR (zD (nQ (zX (zY (wR (qA .i32 r 9 ?_ ?_)))))))))
 ·intro h1
  exact zG (nQ (zT (zK (zB (zT (wR (zG (nQ (zS (zP (zH (yC [(.bool true)] ⟨eb (by simp only [blankB]; simp [*] <;> omega), a⟩))))))))))))
 intro y
 refine zG (nQ (zF (wR (qA .i32 r 11 ?_ ?_))))
 ·intro h3
  exact zG (nQ (zT (zK (zB (zT (wR (zG (nQ (zS (zP (zH (yC [(.bool true)] ⟨eb (by simp only [blankB]; simp [*] <;> omega), a⟩))))))))))))
 intro h4
 refine zG (nQ (zF (wR (qA .i32 r 12 ?_ ?_))))
 ·intro h5
  exact zG (nQ (zT (zK (zB (zT (wR (zG (nQ (zS (zP (zH (yC [(.bool true)] ⟨eb (by simp only [blankB]; simp [*] <;> omega), a⟩))))))))))))
 intro z
 refine zG (nQ (zF (wR (qA .i32 r 32 ?_ ?_))))
 ·intro h7
  exact zG (nQ (zT (zK (zB (zT (wR (zG (nQ (zS (zP (zH (yC [(.bool true)] ⟨eb (by simp only [blankB]; simp [*] <;> omega), a⟩))))))))))))
 intro h8
 refine zG (nQ (zF (wR (qA .i32 r 133 ?_ ?_))))
 ·intro h9
  exact zG (nQ (zT (zK (zB (zT (wR (zG (nQ (zS (zP (zH (yC [(.bool true)] ⟨eb (by simp only [blankB]; simp [*] <;> omega), a⟩))))))))))))
 intro q
 refine zG (nQ (zF (wR (qA .i32 r 160 ?_ ?_))))
 ·intro m
  exact zG (nQ (zT (zK (zB (zT (wR (zG (nQ (zS (zP (zH (yC [(.bool true)] ⟨eb (by simp only [blankB]; simp [*] <;> omega), a⟩))))))))))))
 intro n
 refine zG (nQ (zF (wR (qA .i32 r 5760 ?_ ?_))))
 ·intro p
  exact zG (nQ (zT (zK (zB (zT (wR (zG (nQ (zS (zP (zH (yC [(.bool true)] ⟨eb (by simp only [blankB]; simp [*] <;> omega), a⟩))))))))))))
 intro u
 refine zG (nQ (zF (wR (qA .i32 r 8232 ?_ ?_))))
 ·intro t
  exact zG (nQ (zT (zK (zB (zT (wR (zG (nQ (zS (zP (zH (yC [(.bool true)] ⟨eb (by simp only [blankB]; simp [*] <;> omega), a⟩))))))))))))
 intro k
 refine zG (nQ (zF (wR (qA .i32 r 8233 ?_ ?_))))
 ·intro d
  exact zG (nQ (zT (zK (zB (zT (wR (zG (nQ (zS (zP (zH (yC [(.bool true)] ⟨eb (by simp only [blankB]; simp [*] <;> omega), a⟩))))))))))))
 intro s
 refine zG (nQ (zF (wR (qA .i32 r 8239 ?_ ?_))))
 ·intro i
  exact zG (nQ (zT (zK (zB (zT (wR (zG (nQ (zS (zP (zH (yC [(.bool true)] ⟨eb (by simp only [blankB]; simp [*] <;> omega), a⟩))))))))))))
 intro f
 refine zG (nQ (zF (wR (qA .i32 r 8287 ?_ ?_))))
 ·intro c
  exact zG (nQ (zT (zK (zB (zT (wR (zG (nQ (zS (zP (zH (yC [(.bool true)] ⟨eb (by simp only [blankB]; simp [*] <;> omega), a⟩))))))))))))
 intro b
 refine zG (nQ (zF (zQ (qA .i32 r 12288 ?_ ?_))))
 ·intro o
  exact zG (nQ (zT (wR (zG (nQ (zS (zP (zH (yC [(.bool true)] ⟨eb (by simp only [blankB]; simp [*] <;> omega), a⟩)))))))))
 intro e
 refine zG (nQ (zF (zK (zI (zB (wR (zD (zGe .i32 r 8192 ?_ ?_))))))))
 ·intro l
  refine zD (zw (zD (zw (zLe .i32 r 8202 ?_ ?_))))
  ·intro h
   exact xG (zG (nQ (zS (yC [(.bool true)] ⟨eb (by simp only [blankB]; simp [*] <;> omega), a⟩))))
  intro g
  exact xG (zG (nQ (zS (yC [(.bool false)] ⟨eb (by simp only [blankB]; simp [*] <;> omega), a⟩))))
 intro j
 exact zD (zs (zs (xF (zG (nQ (zS (yC [(.bool false)] ⟨eb (by simp only [blankB]; simp [*] <;> omega), a⟩)))))))
theorem c_furrowref01_long (b : Int) (w : World) :
  Calls Tryz.prog 166 #[(U8 b)] w (Ret fun v w' => v = (N6 (longN b)) ∧ Below w.heap.size w w') := by
 refine wI 15 func166 rfl ?_
 have a := Below.refl w.heap.size w
 refine wR (zG (nW (wR (zD (zLt .u8 b 128 ?_ ?_)))))
 ·intro j
  exact nQ (zT (wR (zG (nQ (zS (zH (yC [(I6 1)] ⟨congrArg (fun x : Nat => Value.int .i64 (x : Int)) (by unfold longN; (repeat' split) <;> omega), a⟩)))))))
 intro g
 refine nQ (zF (zK (zB (zY (wR (zD (zLt .u8 b 192 ?_ ?_)))))))
 ·intro l
  exact zD (zs (zs (xG (nQ (zT (wR (zG (nQ (zS (zH (yC [(I6 0)] ⟨congrArg (fun x : Nat => Value.int .i64 (x : Int)) (by unfold longN; (repeat' split) <;> omega), a⟩)))))))))))
 intro h
 refine zD (zw (zD (zw (zGt .u8 b 247 ?_ ?_))))
 ·intro e
  exact xF (nQ (zT (wR (zG (nQ (zS (zH (yC [(I6 0)] ⟨congrArg (fun x : Nat => Value.int .i64 (x : Int)) (by unfold longN; (repeat' split) <;> omega), a⟩))))))))
 intro i
 refine xF (nQ (zF (zK (zB (zY (wR (zD (zLt .u8 b 224 ?_ ?_))))))))
 ·intro f
  exact nQ (zT (wR (zG (nQ (zS (zH (yC [(I6 2)] ⟨congrArg (fun x : Nat => Value.int .i64 (x : Int)) (by unfold longN; (repeat' split) <;> omega), a⟩)))))))
 intro d
 refine nQ (zF (zK (zB (zY (wR (zD (zLt .u8 b 240 ?_ ?_)))))))
 ·intro k
  exact nQ (zT (wR (zG (nQ (zS (zH (yC [(I6 3)] ⟨congrArg (fun x : Nat => Value.int .i64 (x : Int)) (by unfold longN; (repeat' split) <;> omega), a⟩)))))))
 intro c
 exact nQ (zF (zK (zB (wR (zG (nQ (zS (yC [(I6 4)] ⟨congrArg (fun x : Nat => Value.int .i64 (x : Int)) (by unfold longN; (repeat' split) <;> omega), a⟩))))))))
theorem c_furrowref01_Scalar (r : Int) (w : World) :
  Calls Tryz.prog 167 #[(I3 r)] w (Ret fun v w' => v = (.bool (scalarB r)) ∧ Below w.heap.size w w') := by
 refine wI 17 func167 rfl ?_
 have a := Below.refl w.heap.size w
 refine wR (zG (nR (zD (zGe .i32 r 0 ?_ ?_))))
 ·intro h
  refine zD (zw (zD (zw (zLe .i32 r 1114111 ?_ ?_))))
  ·intro e
   refine xG (zD (zw (zD (zw (zLt .i32 r 55296 ?_ ?_)))))
   ·intro i
    exact zw (zD (zs (zs (zw (xG (xG (zG (nQ (zS (yC [(.bool true)] ⟨eb (by unfold scalarB; simp; omega), a⟩))))))))))
   intro f
   refine zw (zD (zw (zD (zw (zGt .i32 r 57343 ?_ ?_)))))
   ·intro c
    exact zw (xF (xG (zG (nQ (zS (yC [(.bool true)] ⟨eb (by unfold scalarB; simp; omega), a⟩))))))
   intro g
   exact zw (xF (xG (zG (nQ (zS (yC [(.bool false)] ⟨eb (by unfold scalarB; simp; omega), a⟩))))))
  intro d
  exact xG (zD (zs (zs (zs (zs (zs (zs (xF (zG (nQ (zS (yC [(.bool false)] ⟨eb (by unfold scalarB; simp; omega), a⟩))))))))))))
 intro b
 exact zD (zs (zs (xF (zD (zs (zs (zs (zs (zs (zs (xF (zG (nQ (zS (yC [(.bool false)] ⟨eb (by unfold scalarB; simp; omega), a⟩)))))))))))))))
theorem c_furrowref01_Width (r : Int) (w : World) :
  Calls Tryz.prog 162 #[(I3 r)] w (Ret fun v w' => v = (N6 (widthN r)) ∧ Below w.heap.size w w') := by
 refine wI 12 func162 rfl ?_
 have a := Below.refl w.heap.size w
 refine wR (zG (nW (wR (zD (zc (c_furrowref01_Scalar r _ ) ?_)))))
 rintro _ f ⟨rfl, b⟩
 refine yK (scalarB r) ?_ ?_
 ·intro i
  refine wW true (nQ (zF (zK (zB (zY (wR (zD (zLt .i32 r 128 ?_ ?_))))))))
  ·intro g
   replace a := a.tr b
   exact nQ (zT (wR (zG (nQ (zS (zH (yC [(I6 1)] ⟨congrArg (fun x : Nat => Value.int .i64 (x : Int)) (by unfold widthN; (repeat' split) <;> first | rfl | omega | (simp_all; done)), a⟩)))))))
  intro j
  refine nQ (zF (zK (zB (zY (wR (zD (zLt .i32 r 2048 ?_ ?_)))))))
  ·intro h
   replace a := a.tr b
   exact nQ (zT (wR (zG (nQ (zS (zH (yC [(I6 2)] ⟨congrArg (fun x : Nat => Value.int .i64 (x : Int)) (by unfold widthN; (repeat' split) <;> first | rfl | omega | (simp_all; done)), a⟩)))))))
  intro e
  refine nQ (zF (zK (zB (zY (wR (zD (zLt .i32 r 65536 ?_ ?_)))))))
  ·intro k
   replace a := a.tr b
   exact nQ (zT (wR (zG (nQ (zS (zH (yC [(I6 3)] ⟨congrArg (fun x : Nat => Value.int .i64 (x : Int)) (by unfold widthN; (repeat' split) <;> first | rfl | omega | (simp_all; done)), a⟩)))))))
  intro c
  replace a := a.tr b
  exact nQ (zF (zK (zB (wR (zG (nQ (zS (yC [(I6 4)] ⟨congrArg (fun x : Nat => Value.int .i64 (x : Int)) (by unfold widthN; (repeat' split) <;> first | rfl | omega | (simp_all; done)), a⟩))))))))
 intro d
 replace a := a.tr b
 exact wW false (nQ (zT (wR (zG (nQ (zS (zH (yC [(I6 0)] ⟨congrArg (fun x : Nat => Value.int .i64 (x : Int)) (by unfold widthN; (repeat' split) <;> first | rfl | omega | (simp_all; done)), a⟩))))))))
theorem xN (b : Int) (w : World) (h0 : 0 ≤ b) (h1 : b ≤ 255) :
  Calls Tryz.prog 163 #[(I6 b)] w (Ret fun v w' => v = (S (bytesI [b])) ∧ Below w.heap.size w w') := by
 refine wI 7 func163 rfl ?_
 have e := Below.refl w.heap.size w
 refine wR (zG (nR (zD (vS (k := .i64) b b zk underlying5 zk (wrap_u8 _ zo zo) (zM 1 [(U8 b)] 5 ?_)))))
 intro f g a
 have d := a.ge e.size
 have c : Row g w.heap.size 5 1 encU8 (.slice (some ⟨f, 0, none⟩) 1 1) ([b] : List (Int)) := Row.made ([b] : List (Int)) a d rfl rfl (by first | decide | (simp; done))
 have e := e.tr a.below
 exact L_bytesStr (.slice (some ⟨f, 0, none⟩) 1 1) ([b] : List (Int)) underlying97 underlying5 underlying9 zk c.rd (zG (nQ (zS (yC [(S (bytesI ([b] : List (Int))))] ⟨congrArg S (by rfl), e⟩))))
theorem c_furrowref01_Sequence (r : Int) (w : World) (r0 : -2147483648 ≤ r) (r1 : r ≤ 2147483647) :
  Calls Tryz.prog 150 #[(I3 r)] w (Ret fun v w' => v = (S (encL [r])) ∧ Below w.heap.size w w') := by
 refine wI 63 func150 rfl ?_
 have a := Below.refl w.heap.size w
 refine wR (zG (nR (zD (vS (k := .i32) r r zk underlying3 zk (yW _ zo zo) (zG (nW (wR (zD (zc (c_furrowref01_Width r _ ) ?_)))))))))
 rintro _ w1 ⟨rfl, b⟩
 have := vN r
 refine nQ (zX (wR (nEq (widthN r) 1 ?_ ?_)))
 ·intro h4
  refine zG (nQ (zT (wR (zD (zc (xN r _ (by first | omega | (simp at *; omega)) (by first | omega | (simp at *; omega))) ?_)))))
  rintro _ w5 ⟨rfl, m⟩
  have := wT r
  replace a := (a.tr b).tr m
  exact zG (nQ (zS (zP (zH (yC [(S (bytesI [r]))] ⟨congrArg S (by exact seq1 za), a⟩)))))
 intro h8
 refine zG (nQ (zF (wR (nEq (widthN r) 2 ?_ ?_))))
 ·intro h9
  refine zG (nQ (zT (wR (zD (L_quo (k := .i64) r 64 (r / 64) (by first | omega | (simp at *; omega)) (by first | omega | (simp at *; omega)) zk zk (yW _ zo zo) (xQ 192 (r / 64) (192 + (r / 64)) rfl zk zk (yW _ zh zh) (zc (xN (192 + (r / 64)) _ (by first | omega | (simp at *; omega)) (by first | omega | (simp at *; omega))) ?_)))))))
  rintro _ z ⟨rfl, d⟩
  have := wT (192 + (r / 64))
  refine zD (L_rem (k := .i64) r 64 (by first | omega | (simp at *; omega)) (by first | omega | (simp at *; omega)) zk zk (xQ 128 (r % 64) (128 + (r % 64)) rfl zk zk (yW _ zh zh) (zc (xN (128 + (r % 64)) _ (by first | omega | (simp at *; omega)) (by first | omega | (simp at *; omega))) ?_)))
  rintro _ o ⟨rfl, i⟩
  have := wT (128 + (r % 64))
  replace a := ((a.tr b).tr d).tr i
  exact wE (bytesI [(192 + (r / 64))]) (bytesI [(128 + (r % 64))]) zo zk zk (zG (nQ (zS (zP (zH (yC [(S (bytesI [(192 + (r / 64))] ++ bytesI [(128 + (r % 64))]))] ⟨congrArg S (by exact seq2 za), a⟩))))))
 intro u
 refine zG (nQ (zF (wR (nEq (widthN r) 3 ?_ ?_))))
 ·intro n
  refine zG (nQ (zT (wR (zD (L_quo (k := .i64) r 4096 (r / 4096) (by first | omega | (simp at *; omega)) (by first | omega | (simp at *; omega)) zk zk (yW _ zo zo) (xQ 224 (r / 4096) (224 + (r / 4096)) rfl zk zk (yW _ zh zh) (zc (xN (224 + (r / 4096)) _ (by first | omega | (simp at *; omega)) (by first | omega | (simp at *; omega))) ?_)))))))
  rintro _ ac ⟨rfl, f⟩
  have := wT (224 + (r / 4096))
  refine zD (L_quo (k := .i64) r 64 (r / 64) (by first | omega | (simp at *; omega)) (by first | omega | (simp at *; omega)) zk zk (yW _ zo zo) (L_rem (k := .i64) (r / 64) 64 (by first | omega | (simp at *; omega)) (by first | omega | (simp at *; omega)) zk zk (xQ 128 ((r / 64) % 64) (128 + ((r / 64) % 64)) rfl zk zk (yW _ zh zh) (zc (xN (128 + ((r / 64) % 64)) _ (by first | omega | (simp at *; omega)) (by first | omega | (simp at *; omega))) ?_))))
  rintro _ q ⟨rfl, j⟩
  have := wT (128 + ((r / 64) % 64))
  refine wE (bytesI [(224 + (r / 4096))]) (bytesI [(128 + ((r / 64) % 64))]) zo zk zk (zD (L_rem (k := .i64) r 64 (by first | omega | (simp at *; omega)) (by first | omega | (simp at *; omega)) zk zk (xQ 128 (r % 64) (128 + (r % 64)) rfl zk zk (yW _ zh zh) (zc (xN (128 + (r % 64)) _ (by first | omega | (simp at *; omega)) (by first | omega | (simp at *; omega))) ?_))))
  rintro _ aa ⟨rfl, l⟩
  have := wT (128 + (r % 64))
  replace a := (((a.tr b).tr f).tr j).tr l
  exact wE (bytesI [(224 + (r / 4096))] ++ bytesI [(128 + ((r / 64) % 64))]) (bytesI [(128 + (r % 64))]) (by (simp only [List.length_append, List.length_cons, List.length_nil]; omega)) zk zk (zG (nQ (zS (zP (zH (yC [(S ((bytesI [(224 + (r / 4096))] ++ bytesI [(128 + ((r / 64) % 64))]) ++ bytesI [(128 + (r % 64))]))] ⟨congrArg S (by exact seq3 za), a⟩))))))
 intro p
 refine zG (nQ (zF (wR (nEq (widthN r) 4 ?_ ?_))))
 ·intro t
  refine zG (nQ (zT (wR (zD (L_quo (k := .i64) r 262144 (r / 262144) (by first | omega | (simp at *; omega)) (by first | omega | (simp at *; omega)) zk zk (yW _ zo zo) (xQ 240 (r / 262144) (240 + (r / 262144)) rfl zk zk (yW _ zh zh) (zc (xN (240 + (r / 262144)) _ (by first | omega | (simp at *; omega)) (by first | omega | (simp at *; omega))) ?_)))))))
  rintro _ ab ⟨rfl, c⟩
  have := wT (240 + (r / 262144))
  refine zD (L_quo (k := .i64) r 4096 (r / 4096) (by first | omega | (simp at *; omega)) (by first | omega | (simp at *; omega)) zk zk (yW _ zo zo) (L_rem (k := .i64) (r / 4096) 64 (by first | omega | (simp at *; omega)) (by first | omega | (simp at *; omega)) zk zk (xQ 128 ((r / 4096) % 64) (128 + ((r / 4096) % 64)) rfl zk zk (yW _ zh zh) (zc (xN (128 + ((r / 4096) % 64)) _ (by first | omega | (simp at *; omega)) (by first | omega | (simp at *; omega))) ?_))))
  rintro _ ae ⟨rfl, h⟩
  have := wT (128 + ((r / 4096) % 64))
  refine wE (bytesI [(240 + (r / 262144))]) (bytesI [(128 + ((r / 4096) % 64))]) zo zk zk (zD (L_quo (k := .i64) r 64 (r / 64) (by first | omega | (simp at *; omega)) (by first | omega | (simp at *; omega)) zk zk (yW _ zo zo) (L_rem (k := .i64) (r / 64) 64 (by first | omega | (simp at *; omega)) (by first | omega | (simp at *; omega)) zk zk (xQ 128 ((r / 64) % 64) (128 + ((r / 64) % 64)) rfl zk zk (yW _ zh zh) (zc (xN (128 + ((r / 64) % 64)) _ (by first | omega | (simp at *; omega)) (by first | omega | (simp at *; omega))) ?_)))))
  rintro _ ad ⟨rfl, g⟩
  have := wT (128 + ((r / 64) % 64))
  refine wE (bytesI [(240 + (r / 262144))] ++ bytesI [(128 + ((r / 4096) % 64))]) (bytesI [(128 + ((r / 64) % 64))]) (by (simp only [List.length_append, List.length_cons, List.length_nil]; omega)) zk zk (zD (L_rem (k := .i64) r 64 (by first | omega | (simp at *; omega)) (by first | omega | (simp at *; omega)) zk zk (xQ 128 (r % 64) (128 + (r % 64)) rfl zk zk (yW _ zh zh) (zc (xN (128 + (r % 64)) _ (by first | omega | (simp at *; omega)) (by first | omega | (simp at *; omega))) ?_))))
  rintro _ y ⟨rfl, e⟩
  have := wT (128 + (r % 64))
  replace a := ((((a.tr b).tr c).tr h).tr g).tr e
  exact wE ((bytesI [(240 + (r / 262144))] ++ bytesI [(128 + ((r / 4096) % 64))]) ++ bytesI [(128 + ((r / 64) % 64))]) (bytesI [(128 + (r % 64))]) (by (simp only [List.length_append, List.length_cons, List.length_nil]; omega)) zk zk (zG (nQ (zS (zP (zH (yC [(S (((bytesI [(240 + (r / 262144))] ++ bytesI [(128 + ((r / 4096) % 64))]) ++ bytesI [(128 + ((r / 64) % 64))]) ++ bytesI [(128 + (r % 64))]))] ⟨congrArg S (by exact seq4 za), a⟩))))))
 intro s
 replace a := a.tr b
 exact zG (nQ (zF (zK (zI (zB (wR (zG (nQ (zS (yC [(S [239, 191, 189])] ⟨congrArg S (by exact seq0 zo), a⟩))))))))))
theorem c_furrowref01_Encode (c : Value) (l : List (Int)) (w : World) (a : Rd w encI32 c l) (hl : l.length ≤ 1073741824) (hr : ∀ x ∈ l, -2147483648 ≤ x ∧ x ≤ 2147483647) :
  Calls Tryz.prog 127 #[c] w (Ret fun v w' => v = (S (encL l)) ∧ Below w.heap.size w w') := by
 refine wI 19 func127 rfl ?_
 have e := Below.refl w.heap.size w
 refine wR (zG (nR (zG (nW (wR (zG (nQ (zX (yZ (fun m s0 w0 => ∃ (i : Nat) (b : List UInt8), (m = l.length - i) ∧ (s0.ds = []) ∧ ([0, 2, 3, 4].map s0.f = [c, (S []), (S b), (N6 i)]) ∧ (Rd w0 encI32 c l) ∧ (Below w.heap.size w w0) ∧ (i ≤ l.length) ∧ (b = encL (l.take i))) _ ⟨0, ([] : List UInt8), rfl, zk, zk, a, e, by omega, rfl⟩ ?_)))))))))
 rintro z t y ⟨i, b, hm, g, k, a, e, s, n⟩
 refine yS k ?_
 have u : b.length ≤ 4 * l.length := by rw [n]; exact encTake_len l i
 refine zY (wR (zD (zD (zln underlying23 (a).len (nLt i ((l).length) ?_ ?_)))))
 ·intro h4
  refine nQ (zT (zK (zB (zY (zX (zQ (zD (zD (zD ?_)))))))))
  have o := zV l i zo; obtain ⟨j, h⟩ := o
  have p := hr _ (List.mem_of_getElem? h)
  refine zE1 a yX i h rfl fun _ => (zc (c_furrowref01_Sequence j _ zo zo) ?_)
  rintro _ q ⟨rfl, d⟩
  have := encL1_len j
  refine wE b (encL [j]) zo zk zk (zG (zR (zI (zB (zQ (zD (xL i 1 (zG (zR ?_)))))))))
  have e := e.tr d
  have a := a.below d
  refine zB ⟨_, zo, (i + 1), (b ++ encL [j]), rfl, g, zk, a, e, zo, ?_⟩
  rw [n]; exact encL_take za
 intro r
 exact nQ (zF (yH (zL (zL (yB (zB (wR (zD (zG (nQ (zS (yC [(S b)] (hd := g) ⟨congrArg S (by rw [n, List.take_of_length_le zo]), e⟩))))))))))))
theorem c_furrowref01_At (s : List UInt8) (p : Nat) (w : World) (hs : s.length ≤ 1073741824) (hp : p < s.length) :
  Calls Tryz.prog 161 #[(S s), (N6 p)] w (Ret fun v w' => v = (Value.agg #[(N6 p), (N6 ((atF s p).1)), (I3 ((atF s p).2.1)), (I6 ((atF s p).2.2))]) ∧ Below w.heap.size w w') := by
 refine wI 90 func161 rfl ?_
 have g := Below.refl w.heap.size w
 have b3 := bitsT_len
 have bi := leastT_len
 refine wR (zN [(I6 0), (I6 0), (I3 0), (I6 0)] 229 ?_)
 intro z w2 a5
 have j := a5.ge g.size
 have a := a5.here
 refine nR (zD (zr (Value.agg #[(N6 p), (I6 1), (I3 65533), (I6 0)]) (zN [(I6 0), (I6 0), (I3 0), (I6 0)] 229 ?_)))
 intro b4 w5 u
 have c := yY (yA a) u
 have g := g.tr a5.below
 have h := u.ge g.size
 have b := u.here
 refine wG [(N6 p), (I6 1), (I3 65533), (I6 0)] b ?_
 intro w7 ac
 have b := ac.here
 refine nR (zD (zD ?_))
 have hz := zV s p zo; obtain ⟨l, e⟩ := hz
 have := l.toNat_lt
 refine xM (k := .i64) s p l underlying9 e zk zk (zc (c_furrowref01_long ((l.toNat : Nat) : Int) _ ) ?_)
 rintro _ cp ⟨rfl, q⟩
 have := longN_le ((l.toNat : Nat) : Int)
 refine zG (nW (wR (zD (nEq (longN ((l.toNat : Nat) : Int)) 0 ?_ ?_))))
 ·intro bs
  have b := zA b q
  refine nQ (zT (wR (zr (pt b4 3) (z1 3 (I6 10) [(N6 p), (I6 1), (I3 65533), (I6 10)] b ?_))))
  intro b0 af
  have b := af.here
  have a := zC (zA (zC (zA a u.below) ac c) q) af c
  refine nR (zOW b (wG [(N6 p), (I6 1), (I3 65533), (I6 10)] a ?_))
  intro b6 ay
  have a := ay.here
  refine nQ (zS (zH (yV [.cell 4 229] [(Value.agg #[(N6 p), (I6 1), (I3 65533), (I6 10)])] rfl rfl ⟨⟨⟨z, 0, none⟩, zk, yP [(N6 p), (I6 1), (I3 65533), (I6 10)] zk zk (yI a)⟩, trivial⟩ ?_)))
  have g := ((((g.tr u.below).trans (ac.below h)).tr q).trans (af.below h)).trans (ay.below j)
  exact ⟨(show (Value.agg #[(N6 p), (I6 1), (I3 65533), (I6 10)]) = _ by (rw [at_lead e za]; try rfl; done)), g⟩
 intro bk
 refine nQ (zF (zK (zB (wR (zM 5 [(I6 0), (I6 127), (I6 31), (I6 15), (I6 7)] 3 ?_)))))
 intro a2 be t
 have g := ((g.tr u.below).trans (ac.below h)).tr q
 have a3 := t.ge g.size
 have n : Row be w.heap.size 3 1 encNat (.slice (some ⟨a2, 0, none⟩) 5 5) bitsT := Row.made bitsT t a3 rfl rfl (by first | decide | (simp; done))
 refine zG (nW (xA zk zk (yE (yE (Lq_sindex (k := .i64) s p l underlying9 e zk zk (Lq_conv (k := .u8) ((l.toNat : Nat) : Int) ((l.toNat : Nat) : Int) zk underlying3 zk (yW _ zo zo) (yE (yE ?_))))))))
 have hz := zV bitsT (longN ((l.toNat : Nat) : Int)) zo; obtain ⟨a0, aq⟩ := hz
 have hz := (n.rd).at (k := 1) zj aq
 obtain ⟨a7, aj, a6, a8⟩ := hz
 have bf := bitsT_le aq
 refine yM (k := .i64) (.slice (some ⟨a2, 0, none⟩) 5 5) (longN ((l.toNat : Nat) : Int)) _ a7 aj el79 a6 zo zk zk (zZ a7 (aj + (longN ((l.toNat : Nat) : Int)) * 1) (N6 a0) zk zf (a8 0 _ rfl) (Lq_andN l.toNat a0 zo zo zk zk (wU (yN ?_))))
 intro cj y
 refine zB (zY (wR (zG (nQ (zX ?_)))))
 have g := (g.tr t.below).tr y
 have a := zA (zA (zA (zC (zA a u.below) ac c) q) t.below) y
 have b := zA (zA (zA b q) t.below) y
 have n := n.below y
 refine yZ (fun m s0 w0 => ∃ (i : Nat) (x : Nat), (m = 5 - i) ∧ (s0.ds = []) ∧ ([0, 1, 4, 5, 6, 8, 9].map s0.f = [(S s), (N6 p), (pt z 0), (pt b4 0), (N6 (longN ((l.toNat : Nat) : Int))), (N6 x), (N6 i)]) ∧ (Row w0 w.heap.size 3 1 encNat (.slice (some ⟨a2, 0, none⟩) 5 5) bitsT) ∧ (w0.heap[z]? = some (.cells [(I6 0), (I6 0), (I3 0), (I6 0)].toArray 229 (0, 0))) ∧ (w0.heap[b4]? = some (.cells [(N6 p), (I6 1), (I3 65533), (I6 0)].toArray 229 (0, 0))) ∧ (Below w.heap.size w w0) ∧ (1 ≤ i) ∧ (i ≤ 4) ∧ (i = 1 ∧ x ≤ 127 ∨ i = 2 ∧ x ≤ 8191 ∨ i = 3 ∧ x ≤ 524287 ∨ i = 4 ∧ x ≤ 33554431) ∧ (atH s p i x = atF s p)) _ ⟨1, (l.toNat &&& a0), rfl, zk, zk, n, a, b, g, by omega, by omega, Or.inl ⟨rfl, and_bits za⟩, (atH_eq e).trans (at_start e za za za)⟩ ?_
 rintro cr cc bq ⟨i, x, hm, o, bg, n, a, b, g, i1, i2, i4, i3⟩
 refine yS bg (zY (wR (zD (zD (nLt i (longN ((l.toNat : Nat) : Int)) ?_ ?_)))))
 ·intro bx
  refine nQ (zT (zK (zB (zY (zX (zY (wR (zD (zD (xL p i (zD (zsl 9 s (nGe (p + i) ((s).length) ?_ ?_)))))))))))))
  ·intro bu
   refine nQ (zT (wR (zr (pt b4 3) (z1 3 (I6 11) [(N6 p), (I6 1), (I3 65533), (I6 11)] b ?_))))
   intro bw ab
   have b := ab.here
   have a := zC a ab c
   refine nR (zOW b (wG [(N6 p), (I6 1), (I3 65533), (I6 11)] a ?_))
   intro b5 az
   have a := az.here
   refine nQ (zS (zH (zP (zH (zH (zP (zH (yV [.cell 4 229] [(Value.agg #[(N6 p), (I6 1), (I3 65533), (I6 11)])] rfl o ⟨⟨⟨z, 0, none⟩, zk, yP [(N6 p), (I6 1), (I3 65533), (I6 11)] zk zk (yI a)⟩, trivial⟩ ?_))))))))
   have g := (g.trans (ab.below h)).trans (az.below j)
   exact ⟨(show (Value.agg #[(N6 p), (I6 1), (I3 65533), (I6 11)]) = _ by (rw [← i3, atH_eq e, at_cut za za]; try rfl; done)), g⟩
  intro ch
  refine nQ (zF (zK (zB (wR (zD (zD (zD (xL p i ?_))))))))
  have hz := zV s (p + i) zo; obtain ⟨r, ba⟩ := hz
  have := r.toNat_lt
  refine xM (k := .i64) s (p + i) r underlying9 ba zk zk (vS (k := .u8) ((r.toNat : Nat) : Int) ((r.toNat : Nat) : Int) zk underlying3 zk (yW _ zo zo) (zG (nW (wR (zD (nLt r.toNat 128 ?_ ?_))))))
  ·intro ci
   refine zD (zs (zs (xG (nQ (zT (wR (zr (pt b4 3) (z1 3 (I6 12) [(N6 p), (I6 1), (I3 65533), (I6 12)] b ?_))))))))
   intro bt ae
   have b := ae.here
   have a := zC a ae c
   refine nR (zOW b (wG [(N6 p), (I6 1), (I3 65533), (I6 12)] a ?_))
   intro br an
   have a := an.here
   refine nQ (zS (zH (zP (zH (zH (zP (zH (yV [.cell 4 229] [(Value.agg #[(N6 p), (I6 1), (I3 65533), (I6 12)])] rfl o ⟨⟨⟨z, 0, none⟩, zk, yP [(N6 p), (I6 1), (I3 65533), (I6 12)] zk zk (yI a)⟩, trivial⟩ ?_))))))))
   have g := (g.trans (ae.below h)).trans (an.below j)
   exact ⟨(show (Value.agg #[(N6 p), (I6 1), (I3 65533), (I6 12)]) = _ by (rw [← i3, atH_eq e, at_tail za za zo]; try rfl; done)), g⟩
  intro ca
  refine zD (zw (zD (zw (nGt r.toNat 191 ?_ ?_))))
  ·intro bv
   refine xF (nQ (zT (wR (zr (pt b4 3) (z1 3 (I6 12) [(N6 p), (I6 1), (I3 65533), (I6 12)] b ?_)))))
   intro bh ad
   have b := ad.here
   have a := zC a ad c
   refine nR (zOW b (wG [(N6 p), (I6 1), (I3 65533), (I6 12)] a ?_))
   intro bl ar
   have a := ar.here
   refine nQ (zS (zH (zP (zH (zH (zP (zH (yV [.cell 4 229] [(Value.agg #[(N6 p), (I6 1), (I3 65533), (I6 12)])] rfl o ⟨⟨⟨z, 0, none⟩, zk, yP [(N6 p), (I6 1), (I3 65533), (I6 12)] zk zk (yI a)⟩, trivial⟩ ?_))))))))
   have g := (g.trans (ad.below h)).trans (ar.below j)
   exact ⟨(show (Value.agg #[(N6 p), (I6 1), (I3 65533), (I6 12)]) = _ by (rw [← i3, atH_eq e, at_tail za za zo]; try rfl; done)), g⟩
  intro cb
  refine xF (nQ (zF (zK (zB (zQ (zD (L_mulN x 64 zo zk zk (zD (xL (x * 64) r.toNat (zsb ((x * 64) + r.toNat) 128 (zG (zR (zI (zB (zQ (zD (xL i 1 (zG (zR (zB ⟨_, zo, (i + 1), (((x * 64) + r.toNat) - 128), rfl, o, zk, n, a, b, g, zo, zo, zo, ?_⟩))))))))))))))))))))
  rw [← i3, atH_eq e, atH_eq e]; exact (at_step za za zo zo).symm
 intro bn
 refine nQ (zF (yH (zL (zL (yB (zB (wR (zM 5 [(I6 0), (I6 0), (I6 128), (I6 2048), (I6 65536)] 3 ?_))))))))
 intro bd bb d
 have a1 := d.ge g.size
 have a4 : Row bb w.heap.size 3 1 encNat (.slice (some ⟨bd, 0, none⟩) 5 5) leastT := Row.made leastT d a1 rfl rfl (by first | decide | (simp; done))
 refine zG (nW (wR (zD (zD (zD ?_)))))
 have hz := zV leastT (longN ((l.toNat : Nat) : Int)) zo; obtain ⟨bc, a9⟩ := hz
 refine zE1 a4.rd el79 (longN ((l.toNat : Nat) : Int)) a9 rfl fun _ => (nLt x bc ?_ ?_)
 ·intro ck
  have b := zA b d.below
  refine nQ (zT (wR (zr (pt b4 3) (z1 3 (I6 13) [(N6 p), (I6 1), (I3 65533), (I6 13)] b ?_))))
  intro bo aa
  have b := aa.here
  have a := zC (zA a d.below) aa c
  refine nR (zOW b (wG [(N6 p), (I6 1), (I3 65533), (I6 13)] a ?_))
  intro b2 ao
  have a := ao.here
  refine nQ (zS (zH (yV [.cell 4 229] [(Value.agg #[(N6 p), (I6 1), (I3 65533), (I6 13)])] rfl o ⟨⟨⟨z, 0, none⟩, zk, yP [(N6 p), (I6 1), (I3 65533), (I6 13)] zk zk (yI a)⟩, trivial⟩ ?_)))
  have g := ((g.tr d.below).trans (aa.below h)).trans (ao.below j)
  exact ⟨(show (Value.agg #[(N6 p), (I6 1), (I3 65533), (I6 13)]) = _ by (rw [← i3, atH_eq e, at_over za za za]; try rfl; done)), g⟩
 intro co
 refine nQ (zF (zK (zB (zY (wR (zD (nGe x 55296 ?_ ?_)))))))
 ·intro cd
  refine zD (zw (zD (zw (nLe x 57343 ?_ ?_))))
  ·intro bz
   have b := zA b d.below
   refine xG (nQ (zT (wR (zr (pt b4 3) (z1 3 (I6 14) [(N6 p), (I6 1), (I3 65533), (I6 14)] b ?_)))))
   intro cs ai
   have b := ai.here
   have a := zC (zA a d.below) ai c
   refine nR (zOW b (wG [(N6 p), (I6 1), (I3 65533), (I6 14)] a ?_))
   intro bp au
   have a := au.here
   refine nQ (zS (zH (yV [.cell 4 229] [(Value.agg #[(N6 p), (I6 1), (I3 65533), (I6 14)])] rfl o ⟨⟨⟨z, 0, none⟩, zk, yP [(N6 p), (I6 1), (I3 65533), (I6 14)] zk zk (yI a)⟩, trivial⟩ ?_)))
   have g := ((g.tr d.below).trans (ai.below h)).trans (au.below j)
   exact ⟨(show (Value.agg #[(N6 p), (I6 1), (I3 65533), (I6 14)]) = _ by (rw [← i3, atH_eq e, at_half za za za zo zo]; try rfl; done)), g⟩
  intro b9
  refine xG (nQ (zF (zK (zB (zY (wR (zD (nGt x 1114111 ?_ ?_))))))))
  ·intro cf
   have b := zA b d.below
   refine nQ (zT (wR (zr (pt b4 3) (z1 3 (I6 15) [(N6 p), (I6 1), (I3 65533), (I6 15)] b ?_))))
   intro cn ah
   have b := ah.here
   have a := zC (zA a d.below) ah c
   refine nR (zOW b (wG [(N6 p), (I6 1), (I3 65533), (I6 15)] a ?_))
   intro b8 ax
   have a := ax.here
   refine nQ (zS (zH (yV [.cell 4 229] [(Value.agg #[(N6 p), (I6 1), (I3 65533), (I6 15)])] rfl o ⟨⟨⟨z, 0, none⟩, zk, yP [(N6 p), (I6 1), (I3 65533), (I6 15)] zk zk (yI a)⟩, trivial⟩ ?_)))
   have g := ((g.tr d.below).trans (ah.below h)).trans (ax.below j)
   exact ⟨(show (Value.agg #[(N6 p), (I6 1), (I3 65533), (I6 15)]) = _ by (rw [← i3, atH_eq e, at_past za za za zo]; try rfl; done)), g⟩
  intro bm
  have a := zA a d.below
  refine nQ (zF (zK (zB (wR (zD (zD (zD (vS (k := .i64) ((x : Nat) : Int) ((x : Nat) : Int) zk underlying21 zk (qV _ zo zo) (zr (Value.agg #[(N6 p), (N6 (longN ((l.toNat : Nat) : Int))), (I3 ((x : Nat) : Int)), (I6 0)]) (wG [(N6 p), (N6 (longN ((l.toNat : Nat) : Int))), (I3 ((x : Nat) : Int)), (I6 0)] a ?_))))))))))
  intro bj av
  have a := av.here
  refine nQ (zS (yV [.cell 4 229] [(Value.agg #[(N6 p), (N6 (longN ((l.toNat : Nat) : Int))), (I3 ((x : Nat) : Int)), (I6 0)])] rfl o ⟨⟨⟨z, 0, none⟩, zk, yP [(N6 p), (N6 (longN ((l.toNat : Nat) : Int))), (I3 ((x : Nat) : Int)), (I6 0)] zk zk (yI a)⟩, trivial⟩ ?_))
  have g := (g.tr d.below).trans (av.below j)
  exact ⟨(show (Value.agg #[(N6 p), (N6 (longN ((l.toNat : Nat) : Int))), (I3 ((x : Nat) : Int)), (I6 0)]) = _ by (rw [← i3, atH_eq e, at_good za za za zo zo]; try rfl; done)), g⟩
 intro cq
 refine zD (zs (zs (xF (nQ (zF (zK (zB (zY (wR (zD (nGt x 1114111 ?_ ?_)))))))))))
 ·intro ce
  have b := zA b d.below
  refine nQ (zT (wR (zr (pt b4 3) (z1 3 (I6 15) [(N6 p), (I6 1), (I3 65533), (I6 15)] b ?_))))
  intro cl ag
  have b := ag.here
  have a := zC (zA a d.below) ag c
  refine nR (zOW b (wG [(N6 p), (I6 1), (I3 65533), (I6 15)] a ?_))
  intro cm aw
  have a := aw.here
  refine nQ (zS (zH (yV [.cell 4 229] [(Value.agg #[(N6 p), (I6 1), (I3 65533), (I6 15)])] rfl o ⟨⟨⟨z, 0, none⟩, zk, yP [(N6 p), (I6 1), (I3 65533), (I6 15)] zk zk (yI a)⟩, trivial⟩ ?_)))
  have g := ((g.tr d.below).trans (ag.below h)).trans (aw.below j)
  exact ⟨(show (Value.agg #[(N6 p), (I6 1), (I3 65533), (I6 15)]) = _ by (exfalso; omega)), g⟩
 intro cg
 have a := zA a d.below
 refine nQ (zF (zK (zB (wR (zD (zD (zD (vS (k := .i64) ((x : Nat) : Int) ((x : Nat) : Int) zk underlying21 zk (qV _ zo zo) (zr (Value.agg #[(N6 p), (N6 (longN ((l.toNat : Nat) : Int))), (I3 ((x : Nat) : Int)), (I6 0)]) (wG [(N6 p), (N6 (longN ((l.toNat : Nat) : Int))), (I3 ((x : Nat) : Int)), (I6 0)] a ?_))))))))))
 intro b7 ap
 have a := ap.here
 refine nQ (zS (yV [.cell 4 229] [(Value.agg #[(N6 p), (N6 (longN ((l.toNat : Nat) : Int))), (I3 ((x : Nat) : Int)), (I6 0)])] rfl o ⟨⟨⟨z, 0, none⟩, zk, yP [(N6 p), (N6 (longN ((l.toNat : Nat) : Int))), (I3 ((x : Nat) : Int)), (I6 0)] zk zk (yI a)⟩, trivial⟩ ?_))
 have g := (g.tr d.below).trans (ap.below j)
 exact ⟨(show (Value.agg #[(N6 p), (N6 (longN ((l.toNat : Nat) : Int))), (I3 ((x : Nat) : Int)), (I6 0)]) = _ by (rw [← i3, atH_eq e, at_good za za za zo zo]; try rfl; done)), g⟩
theorem c_furrowref01_Spots (s : List UInt8) (w : World) (hs : s.length ≤ 1073741824) :
  Calls Tryz.prog 149 #[(S s)] w (Ret fun v w' => ∃ (q0 : Value), v = q0 ∧ Row w' w.heap.size 229 4 encSpot q0 (spotsFrom s 0) ∧ Below w.heap.size w w') := by
 refine wI 22 func149 rfl ?_
 have e := Below.refl w.heap.size w
 refine wR (zG (nR (zG (nW (wR (zG (nQ (zX (yZ (fun m s0 w0 => ∃ (p : Nat) (h : List (Nat × Nat × Int × Int)) (g : Value), (m = s.length - p) ∧ (s0.ds = []) ∧ ([0, 2, 3, 4].map s0.f = [(S s), (.slice none 0 0), g, (N6 p)]) ∧ (Row w0 w.heap.size 229 4 encSpot g h) ∧ (Below w.heap.size w w0) ∧ (p ≤ s.length + 4) ∧ (h.length ≤ p) ∧ (h ++ spotsFrom s p = spotsFrom s 0)) _ ⟨0, [], (.slice none 0 0), rfl, zk, zk, Row.nil _ _ _ _ _, e, by omega, Nat.le_refl _, by simp⟩ ?_)))))))))
 rintro m1 s2 w3 ⟨p, h, g, hm, q, u, c, e, i1, i2, y⟩
 refine yS u (zY (wR (zD (zD (zsl 9 s (nLt p ((s).length) ?_ ?_))))))
 ·intro h4
  refine nQ (zT (zK (zB (zX (wR (zD (zD (zc (c_furrowref01_At s p _ zo zo) ?_))))))))
  rintro _ w5 ⟨rfl, n⟩
  have := atF_w s p
  refine zN [(I6 0), (I6 0), (I3 0), (I6 0)] 229 ?_
  intro b8 w9 d
  have e := e.tr n
  have o := d.ge e.size
  have c := c.below n
  have a := c.new_ne d
  have b := d.here
  refine wG [(N6 p), (N6 ((atF s p).1)), (I3 ((atF s p).2.1)), (I6 ((atF s p).2.2))] b ?_
  intro aa j
  have b := j.here
  have e := (e.tr d.below).trans (j.below o)
  have c := (c.below d.below).wrote j a
  refine nR (zD (zOW b (xW el226 w.heap.size g h (p, (atF s p).1, (atF s p).2.1, (atF s p).2.2) e.size c zo zk rfl rfl zk rfl zk zk ?_)))
  intro t z r k l
  have i := wM l a (yA b)
  have e := e.tg e.size k c
  have b := yG b k a
  have a := i
  have c := r
  refine zG (nQ (zQ (zD (uF 1 b rfl (xL p ((atF s p).1) (zG (zR (zI (zB ⟨_, zo, (p + (atF s p).1), (h ++ [(p, (atF s p).1, (atF s p).2.1, (atF s p).2.2)]), t, rfl, q, zk, c, e, zo, ?_, ?_⟩)))))))))
  ·(try simp only [List.length_append, List.length_cons, List.length_nil]); omega
  rw [← y, spotsFrom_step (p := p) za]; simp
 intro ab
 exact nQ (zF (yH (zL (zL (yB (zB (wR (zD (zG (nQ (zS (yC [g] (hd := q) ⟨g, rfl, c.cast (by rw [← y, spotsFrom_end zo]; simp), e⟩))))))))))))
theorem c_furrowref01_Runes (s : List UInt8) (w : World) (hs : s.length ≤ 1073741824) :
  Calls Tryz.prog 125 #[(S s)] w (Ret fun v w' => ∃ (q0 : Value), v = q0 ∧ Row w' w.heap.size 21 1 encI32 q0 (runesFrom s 0) ∧ Below w.heap.size w w') := by
 refine wI 23 func125 rfl ?_
 have e := Below.refl w.heap.size w
 refine wR (zG (nR (zD (zc (c_furrowref01_Spots s _ zo) ?_))))
 rintro t w2 ⟨_, rfl, a, n⟩
 have a := a.base e.size
 refine zG (nR (zG (nW (wR (zG (nQ (zX ?_)))))))
 have e := e.tr n
 refine yZ (fun m s0 w0 => ∃ (i : Nat) (d : List Int) (b : Value), (m = (spotsFrom s 0).length - i) ∧ (s0.ds = []) ∧ ([2, 3, 4, 5].map s0.f = [(.slice none 0 0), t, b, (N6 i)]) ∧ (Row w0 w.heap.size 229 4 encSpot t (spotsFrom s 0)) ∧ (Row w0 w.heap.size 21 1 encI32 b d) ∧ (Below w.heap.size w w0) ∧ (i ≤ (spotsFrom s 0).length) ∧ (d.length = i) ∧ (d = ((spotsFrom s 0).take i).map (fun x => x.2.2.1))) _ ⟨0, [], (.slice none 0 0), rfl, zk, zk, a, Row.nil _ _ _ _ _, e, by omega, rfl, rfl⟩ ?_
 rintro m5 s6 w7 ⟨i, d, b, hm, j, h, a, c, e, i1, i2, q⟩
 refine yS h ?_
 have h := spots_len s
 refine zY (wR (zD (zD (zln underlying226 (a.rd).len (nLt i ((spotsFrom s 0).length) ?_ ?_)))))
 ·intro h8
  refine nQ (zT (zK (zB (zY (zX (zQ (zD (zD (zD ?_)))))))))
  have u := zV (spotsFrom s 0) i zo; obtain ⟨r, k⟩ := u
  refine zE a.rd el226 i k 2 rfl fun _ _ => (xW yX w.heap.size b d r.2.2.1 e.size c zo zk rfl rfl zk rfl zk zk ?_)
  intro o y l g p
  have e := e.tg e.size g c
  have a := a.grown g (a.apart c zk)
  have c := l
  refine zG (zR (zI (zB (zQ (zD (xL i 1 (zG (zR (zB ⟨_, zo, (i + 1), (d ++ [r.2.2.1]), o, rfl, j, zk, a, c, e, zo, ?_, ?_⟩)))))))))
  ·(try simp only [List.length_append, List.length_cons, List.length_nil]); omega
  rw [q, take_succ_some za, List.map_append]; rfl
 intro z
 exact nQ (zF (yH (zL (zL (yB (zB (wR (zD (zG (nQ (zS (yC [b] (hd := j) ⟨b, rfl, c.cast (by rw [← rrunes_eq, q, List.take_of_length_le zo]; rfl), e⟩))))))))))))
theorem c_furrowref05_Loose (s : List UInt8) (w : World) (hs : s.length ≤ 1073741824) :
  Calls Tryz.prog 109 #[(S s)] w (Ret fun v w' => v = (S (looseS s)) ∧ Below w.heap.size w w') := by
 refine wI 43 func109 rfl ?_
 have h := Below.refl w.heap.size w
 refine wR (zG (nR (zD (zc (c_furrowref01_Runes s _ zo) ?_))))
 rintro q1 w2 ⟨_, rfl, b, ag⟩
 replace b := b.base h.size
 refine zG (nR (zG (nW (wR (zG (nQ (zX ?_)))))))
 replace h := h.tr ag
 refine yZ (fun m s0 w0 => ∃ (i : Nat) (j : List Int) (l : Value), (m = (runesFrom s 0).length - i) ∧ (s0.ds = []) ∧ ([2, 3, 4, 5].map s0.f = [(S []), q1, l, (N6 i)]) ∧ (Row w0 w.heap.size 21 1 encI32 q1 (runesFrom s 0)) ∧ (Row w0 w.heap.size 21 1 encI32 l j) ∧ (Value.ownBlock q1 = none ∨ Value.ownBlock q1 ≠ Value.ownBlock l) ∧ (Below w.heap.size w w0) ∧ (i ≤ (runesFrom s 0).length) ∧ (j.length ≤ i) ∧ (j ++ looseL ((runesFrom s 0).drop i) = looseL (runesFrom s 0))) _ ⟨0, [], (.slice none 0 0), rfl, zk, zk, b, Row.nil _ _ _ _ _, ap_nil _, h, by omega, Nat.le_refl _, rfl⟩ ?_
 rintro m5 s6 w7 ⟨i, j, l, hm, n, ah, b, d, a, h, i1, i2, p⟩
 refine yS ah ?_
 have g := ap_comm a
 have ax := runes_len s
 refine zY (wR (zD (zD (zln underlying23 (b.rd).len (nLt i ((runesFrom s 0).length) ?_ ?_)))))
 ·intro h8
  refine nQ (zT (zK (zB (zY (zX (wR (zD (zD ?_))))))))
  have hz := zV (runesFrom s 0) i zo; obtain ⟨o, ae⟩ := hz
  refine zE1 b.rd yX i ae rfl fun _ => (zG (nW (wR (zD (zc (c_furrowref05_Blank o _ ) ?_)))))
  rintro _ aq ⟨rfl, e⟩
  refine yK (blankB o) ?_ ?_
  ·intro a3
   refine zD (zs (zs (xG (zD (zs (zs (xG (nQ (zT (yH (zL (yB (zB (zQ (zD (xL i 1 (zG (zR ?_))))))))))))))))))
   replace h := h.tr e
   replace d := d.below e
   replace b := b.below e
   refine zB ⟨_, zo, (i + 1), j, l, rfl, n, zk, b, d, a, h, zo, ?_, ?_⟩
   ·(try simp only [List.length_append, List.length_cons, List.length_nil]); omega
   rw [← p, xR (k := i) za, wD]; simp [dropW, *]; try (unfold lowerI; split <;> omega)
  intro av
  refine zD (zw (zD (zw (qA .i32 o 95 ?_ ?_))))
  ·intro ar
   refine xF (zD (zs (zs (xG (nQ (zT (yH (zL (yB (zB (zQ (zD (xL i 1 (zG (zR ?_)))))))))))))))
   replace h := h.tr e
   replace d := d.below e
   replace b := b.below e
   refine zB ⟨_, zo, (i + 1), j, l, rfl, n, zk, b, d, a, h, zo, ?_, ?_⟩
   ·(try simp only [List.length_append, List.length_cons, List.length_nil]); omega
   rw [← p, xR (k := i) za, wD]; simp [dropW, *]; try (unfold lowerI; split <;> omega)
  intro am
  refine xF (zD (zw (zD (zw (qA .i32 o 45 ?_ ?_)))))
  ·intro al
   refine xF (nQ (zT (yH (zL (yB (zB (zQ (zD (xL i 1 (zG (zR ?_)))))))))))
   replace h := h.tr e
   replace d := d.below e
   replace b := b.below e
   refine zB ⟨_, zo, (i + 1), j, l, rfl, n, zk, b, d, a, h, zo, ?_, ?_⟩
   ·(try simp only [List.length_append, List.length_cons, List.length_nil]); omega
   rw [← p, xR (k := i) za, wD]; simp [dropW, *]; try (unfold lowerI; split <;> omega)
  intro a2
  refine xF (nQ (zF (zK (zB (zY (wR (zD (zGe .i32 o 65 ?_ ?_))))))))
  ·intro ap
   refine zD (zw (zD (zw (zLe .i32 o 90 ?_ ?_))))
   ·intro aw
    replace h := h.tr e
    replace d := d.below e
    refine xG (nQ (zT (zQ (zD (xQ o 32 (o + 32) rfl zk zk (qV _ zh zh) (zG (nQ (zQ (zD (zD (xW yX w.heap.size l j (o + 32) h.size d zo zk rfl rfl zk rfl zk zk ?_)))))))))))
    intro ak ay ad q z
    replace b := b.below e
    have c := ap_app b z a
    replace h := h.tg h.size q d
    replace b := b.grown q a
    have a := c; have g := ap_comm c
    replace d := ad
    refine zG (zR (zI (zB (zQ (zD (xL i 1 (zG (zR (zB ⟨_, zo, (i + 1), (j ++ [(o + 32)]), ak, rfl, n, zk, b, d, a, h, zo, ?_, ?_⟩)))))))))
    ·(try simp only [List.length_append, List.length_cons, List.length_nil]); omega
    rw [← p, xR (k := i) za, wD]; simp [dropW, *]; try (unfold lowerI; split <;> omega)
   intro a0
   replace h := h.tr e
   replace d := d.below e
   refine xG (nQ (zF (zK (zB (zQ (zD (zD (xW yX w.heap.size l j o h.size d zo zk rfl rfl zk rfl zk zk ?_))))))))
   intro aj az ab r y
   replace b := b.below e
   have c := ap_app b y a
   replace h := h.tg h.size r d
   replace b := b.grown r a
   have a := c; have g := ap_comm c
   replace d := ab
   refine zG (zR (zI (zB (zQ (zD (xL i 1 (zG (zR (zB ⟨_, zo, (i + 1), (j ++ [o]), aj, rfl, n, zk, b, d, a, h, zo, ?_, ?_⟩)))))))))
   ·(try simp only [List.length_append, List.length_cons, List.length_nil]); omega
   rw [← p, xR (k := i) za, wD]; simp [dropW, *]; try (unfold lowerI; split <;> omega)
  intro au
  replace h := h.tr e
  replace d := d.below e
  refine zD (zs (zs (xF (nQ (zF (zK (zB (zQ (zD (zD (xW yX w.heap.size l j o h.size d zo zk rfl rfl zk rfl zk zk ?_)))))))))))
  intro ai a4 ac t u
  replace b := b.below e
  have c := ap_app b u a
  replace h := h.tg h.size t d
  replace b := b.grown t a
  have a := c; have g := ap_comm c
  replace d := ac
  refine zG (zR (zI (zB (zQ (zD (xL i 1 (zG (zR (zB ⟨_, zo, (i + 1), (j ++ [o]), ai, rfl, n, zk, b, d, a, h, zo, ?_, ?_⟩)))))))))
  ·(try simp only [List.length_append, List.length_cons, List.length_nil]); omega
  rw [← p, xR (k := i) za, wD]; simp [dropW, *]; try (unfold lowerI; split <;> omega)
 intro a1
 refine nQ (zF (yH (zL (zL (yB (zB (wR (zD (zc (c_furrowref01_Encode l j _ d.rd zo (by (rw [List.drop_eq_nil_of_le zo] at p; simp only [looseL, List.filter_nil, List.map_nil, List.append_nil] at p; rw [p]; exact loose_range))) ?_)))))))))
 rintro _ an ⟨rfl, aa⟩
 replace h := h.tr aa
 exact zG (nQ (zS (yC [(S (encL j))] (hd := n) ⟨congrArg S (by rw [looseS, ← p, List.drop_eq_nil_of_le zo]; simp [looseL]), h⟩)))
theorem c_furrowref05_Side (s : List UInt8) (w : World) (hs : s.length ≤ 1073741824) :
  Calls Tryz.prog 87 #[(S s)] w (Ret fun v w' => v = (.tuple #[(U8 ((sideF s).1)), (I6 ((sideF s).2))]) ∧ Below w.heap.size w w') := by
 refine wI 15 func87 rfl ?_
 have a := Below.refl w.heap.size w
 refine wR (zG (zG (nW (wR (zD (zc (c_furrowref05_Loose s _ zo) ?_))))))
 rintro _ k ⟨rfl, b⟩
 refine nQ (zX (zY (wR (vD (looseS s) ([110] : List UInt8) rfl zk zk ?_ ?_))))
 ·intro m
  replace a := a.tr b
  exact zG (nQ (zT (zK (zB (zT (wR (zG (zG (nQ (zS (zP (zH (yC [(U8 0), (I6 0)] ⟨xE (eu (by rw [qB]; simp [*]; done)) (e6 (by rw [qB]; simp [*]; done)), a⟩)))))))))))))
 intro j
 refine zG (nQ (zF (zQ (vD (looseS s) ([110, 111, 110, 101] : List UInt8) rfl zk zk ?_ ?_))))
 ·intro n
  replace a := a.tr b
  exact zG (nQ (zT (wR (zG (zG (nQ (zS (zP (zH (yC [(U8 0), (I6 0)] ⟨xE (eu (by rw [qB]; simp [*]; done)) (e6 (by rw [qB]; simp [*]; done)), a⟩))))))))))
 intro l
 refine zG (nQ (zF (zY (wR (vD (looseS s) ([111] : List UInt8) rfl zk zk ?_ ?_)))))
 ·intro i
  replace a := a.tr b
  exact zG (nQ (zT (zK (zB (zT (wR (zG (zG (nQ (zS (zP (zH (yC [(U8 1), (I6 0)] ⟨xE (eu (by rw [qB]; simp [*]; done)) (e6 (by rw [qB]; simp [*]; done)), a⟩)))))))))))))
 intro o
 refine zG (nQ (zF (zQ (vD (looseS s) ([111, 112, 101, 110] : List UInt8) rfl zk zk ?_ ?_))))
 ·intro c
  replace a := a.tr b
  exact zG (nQ (zT (wR (zG (zG (nQ (zS (zP (zH (yC [(U8 1), (I6 0)] ⟨xE (eu (by rw [qB]; simp [*]; done)) (e6 (by rw [qB]; simp [*]; done)), a⟩))))))))))
 intro d
 refine zG (nQ (zF (zY (wR (vD (looseS s) ([99] : List UInt8) rfl zk zk ?_ ?_)))))
 ·intro e
  replace a := a.tr b
  exact zG (nQ (zT (zK (zB (zT (wR (zG (zG (nQ (zS (zP (zH (yC [(U8 2), (I6 0)] ⟨xE (eu (by rw [qB]; simp [*]; done)) (e6 (by rw [qB]; simp [*]; done)), a⟩)))))))))))))
 intro g
 refine zG (nQ (zF (zQ (vD (looseS s) ([99, 108, 111, 115, 101] : List UInt8) rfl zk zk ?_ ?_))))
 ·intro h
  replace a := a.tr b
  exact zG (nQ (zT (wR (zG (zG (nQ (zS (zP (zH (yC [(U8 2), (I6 0)] ⟨xE (eu (by rw [qB]; simp [*]; done)) (e6 (by rw [qB]; simp [*]; done)), a⟩))))))))))
 intro f
 replace a := a.tr b
 exact zG (nQ (zF (zK (zI (zB (wR (zG (zG (nQ (zS (yC [(U8 0), (I6 51)] ⟨xE (eu (by rw [qB]; simp [*]; done)) (e6 (by rw [qB]; simp [*]; done)), a⟩)))))))))))
theorem c_Row8 (no : Int) (k : Int) (m : List UInt8) (aa : Value) (f : List (List UInt8)) (t : List UInt8) (w : World) (d : Rd w encStr aa f) (hf : ∀ x ∈ f, x.length ≤ 1073741824) (hn : f.length ≤ 1073741824) :
  Calls Tryz.prog 48 #[(Value.agg #[(I6 no), (U8 k), (S m), aa, (S t)])] w (Ret fun v w' => v = (.tuple #[(Value.agg #[(I3 ((rowR f).1.1)), (I3 ((rowR f).1.2.1)), (U8 ((rowR f).1.2.2))]), (I6 ((rowR f).2))]) ∧ Below w.heap.size w w') := by
 refine wI 50 func48 rfl ?_
 have l := Below.refl w.heap.size w
 refine wR (zN [(I6 no), (U8 k), (S m), aa, (S t)] 90 ?_)
 intro b1 w2 o
 have ah := o.ge l.size
 have b := o.here
 refine zN [(I3 0), (I3 0), (U8 0)] 26 ?_
 intro b4 w5 j
 have l := l.tr o.below
 have n := j.ge l.size
 have a := j.here
 have b := zA b j.below
 have d := (d.below o.below).below j.below
 refine zG (nW (wR (uF 3 b rfl (zln underlying88 (d).len (nNe ((f).length) 3 ?_ ?_)))))
 ·intro h7
  refine nQ (zT (wR (zr (Value.agg #[(I3 0), (I3 0), (U8 0)]) (wG [(I3 0), (I3 0), (U8 0)] a ?_))))
  intro w8 ae
  have a := ae.here
  refine zG (nQ (zS (zH (yV [.cell 2 26, .tmp 3] [(Value.agg #[(I3 0), (I3 0), (U8 0)]), (I6 80)] rfl rfl ⟨⟨⟨b4, 0, none⟩, zk, yP [(I3 0), (I3 0), (U8 0)] zk zk (yI a)⟩, zk, trivial⟩ ?_))))
  have l := (l.tr j.below).trans (ae.below n)
  exact ⟨xE (by (rw [rr_few za]; done)) (e6 (by (rw [rr_few za]; done))), l⟩
 intro aq
 refine nQ (zF (zK (zB (wR (uF 3 b rfl ?_)))))
 have hz := zV f 0 zo; obtain ⟨h, y⟩ := hz
 have ad := hf _ (List.mem_of_getElem? y)
 refine zE1 d el88 0 y rfl fun _ => (zc (c_furrowref04_Read h _ zo) ?_)
 rintro _ ap ⟨rfl, c⟩
 refine zD (zr (I3 ((hexF h).1)) (zr (I6 ((hexF h).2)) (zG (zG (nW (wR (zD (zNe .i64 ((hexF h).2) 0 ?_ ?_))))))))
 ·intro ak
  have a := zA a c
  refine nQ (zT (wR (zr (Value.agg #[(I3 0), (I3 0), (U8 0)]) (zD (wG [(I3 0), (I3 0), (U8 0)] a ?_)))))
  intro al u
  have a := u.here
  refine zG (nQ (zS (zH (yV [.cell 2 26, .tmp 3] [(Value.agg #[(I3 0), (I3 0), (U8 0)]), (I6 ((hexF h).2))] rfl rfl ⟨⟨⟨b4, 0, none⟩, zk, yP [(I3 0), (I3 0), (U8 0)] zk zk (yI a)⟩, zk, trivial⟩ ?_))))
  have l := ((l.tr j.below).tr c).trans (u.below n)
  exact ⟨xE (by (rw [rr_a za za za]; done)) (e6 (by (rw [rr_a za za za]; done))), l⟩
 intro ao
 have b := zA b c
 refine nQ (zF (zK (zB (wR (uF 3 b rfl ?_)))))
 have hz := zV f 1 zo; obtain ⟨g, z⟩ := hz
 have ac := hf _ (List.mem_of_getElem? z)
 have d := d.below c
 refine zE1 d el88 1 z rfl fun _ => (zc (c_furrowref04_Read g _ zo) ?_)
 rintro _ ai ⟨rfl, e⟩
 refine zD (zr (I3 ((hexF g).1)) (zr (I6 ((hexF g).2)) (zG (zG (nW (wR (zD (zNe .i64 ((hexF g).2) 0 ?_ ?_))))))))
 ·intro an
  have a := zA (zA a c) e
  refine nQ (zT (wR (zr (Value.agg #[(I3 0), (I3 0), (U8 0)]) (zD (wG [(I3 0), (I3 0), (U8 0)] a ?_)))))
  intro aj s
  have a := s.here
  refine zG (nQ (zS (zH (yV [.cell 2 26, .tmp 3] [(Value.agg #[(I3 0), (I3 0), (U8 0)]), (I6 ((hexF g).2))] rfl rfl ⟨⟨⟨b4, 0, none⟩, zk, yP [(I3 0), (I3 0), (U8 0)] zk zk (yI a)⟩, zk, trivial⟩ ?_))))
  have l := (((l.tr j.below).tr c).tr e).trans (s.below n)
  exact ⟨xE (by (rw [rr_b za za za za za]; done)) (e6 (by (rw [rr_b za za za za za]; done))), l⟩
 intro ar
 have b := zA b e
 refine nQ (zF (zK (zB (wR (uF 3 b rfl ?_)))))
 have hz := zV f 2 zo; obtain ⟨i, r⟩ := hz
 have af := hf _ (List.mem_of_getElem? r)
 have d := d.below e
 refine zE1 d el88 2 r rfl fun _ => (zc (c_furrowref05_Side i _ zo) ?_)
 rintro _ am ⟨rfl, q⟩
 have a := zA (zA (zA a c) e) q
 refine zD (zr (U8 ((sideF i).1)) (zr (I6 ((sideF i).2)) (zG (zG (nR (zD (zD (zD (zr (Value.agg #[(I3 ((hexF h).1)), (I3 ((hexF g).1)), (U8 ((sideF i).1))]) (zD (wG [(I3 ((hexF h).1)), (I3 ((hexF g).1)), (U8 ((sideF i).1))] a ?_)))))))))))
 intro au p
 have a := p.here
 refine zG (nQ (zS (yV [.cell 2 26, .tmp 3] [(Value.agg #[(I3 ((hexF h).1)), (I3 ((hexF g).1)), (U8 ((sideF i).1))]), (I6 ((sideF i).2))] rfl rfl ⟨⟨⟨b4, 0, none⟩, zk, yP [(I3 ((hexF h).1)), (I3 ((hexF g).1)), (U8 ((sideF i).1))] zk zk (yI a)⟩, zk, trivial⟩ ?_)))
 have l := ((((l.tr j.below).tr c).tr e).tr q).trans (p.below n)
 exact ⟨xE (by (rw [rr_s za za za za za za]; done)) (e6 (by (rw [rr_s za za za za za za]; done))), l⟩
theorem c_Parse8_bad (text : List UInt8) (w : World) (hs : text.length ≤ 67108864) (hbad : (parF text).2.2 ≠ 0) :
  Calls Tryz.prog 19 #[(S text)] w (Ret fun v w' => v = (.tuple #[(.pointer none), (I6 ((parF text).2.1)), (I6 ((parF text).2.2))]) ∧ Below w.heap.size w w') := by
 refine wI 98 func19 rfl ?_
 have g := Below.refl w.heap.size w
 have ed := pcsR_len text
 refine wR (zG (zG (zG (nR (zD (zc (c_furrowref03_Pieces text _ zo) ?_))))))
 rintro q1 w2 ⟨_, rfl, b, cg⟩
 have b := b.base g.size
 refine zG (nR (zG (nR (zG (nW (wR (zG (nQ (zX ?_)))))))))
 have g := g.tr cg
 refine yZ (fun m s0 w0 => ∃ (i : Nat) (l : List Brk) (af : List Int) (ao : Value) (an : Value), (m = (pcsR text).length - i) ∧ (s0.ds = []) ∧ ([0, 5, 6, 7, 8].map s0.f = [(S text), q1, ao, an, (N6 i)]) ∧ (Row w0 w.heap.size 110 3 encPcN q1 (pcsR text)) ∧ (Row w0 w.heap.size 26 3 encBrk ao l) ∧ (Row w0 w.heap.size 3 1 encInt an af) ∧ (Below w.heap.size w w0) ∧ (i ≤ (pcsR text).length) ∧ (l.length ≤ i) ∧ (af.length = l.length) ∧ (ParI ((toldF text).take i) l af) ∧ (fsE l = 0)) _ ⟨0, [], [], (.slice none 0 0), (.slice none 0 0), rfl, zk, zk, b, Row.nil _ _ _ _ _, Row.nil _ _ _ _ _, g, (Nat.zero_le _), (Nat.le_refl _), rfl, ParI.nil, fs_nil⟩ ?_
 rintro m5 s6 w7 ⟨i, l, af, ao, an, hm, q, cj, b, c, d, g, i1, i2, i5, i3, i4⟩
 refine yS cj (zY (wR (zD (zD (zln underlying105 (b.rd).len (nLt i ((pcsR text).length) ?_ ?_))))))
 ·intro h8
  refine nQ (zT (zK (zB (zY (zX (zY (xB 19 21 zk zk zk ?_)))))))
  intro w9 ab
  refine ⟨fun w => (Rd w encPcN q1 (pcsR text)), ?_⟩
  have b := b.below ab
  refine mp 0 rfl (N6 i) (.inr b.rd) zg (mp 1 rfl (N6 (i + 1)) (.inr b.rd) (fun w2 _ => wO i 1 zo zk zk w2) (mp 2 rfl (S text) (.inr b.rd) zg (mp 3 rfl q1 (.inr b.rd) zg (mp 4 rfl (N6 i) (.inr b.rd) zg ?_))))
  have hz := zV (pcsR text) i zo; obtain ⟨a, a1⟩ := hz
  have hz := (b.rd).at (k := 3) zj a1; obtain ⟨bi, ax, bk, c6⟩ := hz
  have cc := pcsR_ok a1
  have b9 : (List.drop a.1 (List.take a.2.1 text)).length = a.2.1 - a.1 := by simp only [List.length_drop, List.length_take]; omega
  have b5 := scan_parts (no := ((i + 1 : Nat) : Int)) (s := List.drop a.1 (List.take a.2.1 text)) 1073741824 zo
  have b8 := scan_flen ((i + 1 : Nat) : Int) (List.drop a.1 (List.take a.2.1 text))
  refine mp 5 rfl (pt bi (ax + i * 3)) (.inr b.rd) (yF (k := .i64) q1 i _ bi ax el105 bk zo zk zk) (mp 6 rfl (pt bi (ax + i * 3)) (.inr b.rd) zg (mt 7 [7, 13, 14, 15, 16, 17, 19, 20] rfl (N6 a.1) b.rd (yR bi (ax + i * 3) (N6 a.1) zk zf (fun w2 h2 => Rd.later (k := 3) h2 zj bk a1 0 _ rfl)) (mp 8 rfl q1 (.inr b.rd) zg (mp 9 rfl (N6 i) (.inr b.rd) zg ?_))))
  have hz := (b.rd).at (k := 3) zj a1; obtain ⟨bh, av, bj, cx⟩ := hz
  refine mp 10 rfl (pt bh (av + i * 3)) (.inr b.rd) (yF (k := .i64) q1 i _ bh av el105 bj zo zk zk) (mp 11 rfl (pt bh ((av + i * 3) + 1)) (.inr b.rd) zg (mt 12 [12, 13, 14, 15, 16, 17, 19, 20] rfl (N6 a.2.1) b.rd (yR bh ((av + i * 3) + 1) (N6 a.2.1) zk zf (fun w2 h2 => Rd.later (k := 3) h2 zj bj a1 1 _ rfl)) ?_))
  refine wS 13 18 zk ?_ ?_
  ·skip
   refine yJ 13 rfl ?_ rfl
   refine L_sslice text a.1 a.2.1 underlying9 zk ⟨.i64, zk⟩ ⟨.i64, zk⟩ zo zo (zR ?_)
   refine ⟨rfl, .inr b.rd, wS 14 18 zk ?_ ?_⟩
   ·skip
    refine yJ 14 rfl ?_ rfl
    refine zc (wK (((i + 1) : Nat) : Int) (List.drop a.1 (List.take a.2.1 text)) _ zo) ?_
    rintro _ eb ⟨bc, rfl, t, a4⟩
    have g := g.tr ab
    have t := t.base g.size
    have := scan_err (((i + 1) : Nat) : Int) (List.drop a.1 (List.take a.2.1 text))
    refine zR ?_
    have b := b.below a4
    refine ⟨rfl, .inr b.rd, mp 15 rfl (.tuple #[(Value.agg #[(I6 ((scanF (((i + 1) : Nat) : Int) (List.drop a.1 (List.take a.2.1 text))).1.1)), (U8 ((scanF (((i + 1) : Nat) : Int) (List.drop a.1 (List.take a.2.1 text))).1.2.1)), (S ((scanF (((i + 1) : Nat) : Int) (List.drop a.1 (List.take a.2.1 text))).1.2.2.1)), bc, (S ((scanF (((i + 1) : Nat) : Int) (List.drop a.1 (List.take a.2.1 text))).1.2.2.2.2))]), (I6 ((scanF (((i + 1) : Nat) : Int) (List.drop a.1 (List.take a.2.1 text))).2))]) (.inr b.rd) zg (mp 16 rfl (Value.agg #[(I6 ((scanF (((i + 1) : Nat) : Int) (List.drop a.1 (List.take a.2.1 text))).1.1)), (U8 ((scanF (((i + 1) : Nat) : Int) (List.drop a.1 (List.take a.2.1 text))).1.2.1)), (S ((scanF (((i + 1) : Nat) : Int) (List.drop a.1 (List.take a.2.1 text))).1.2.2.1)), bc, (S ((scanF (((i + 1) : Nat) : Int) (List.drop a.1 (List.take a.2.1 text))).1.2.2.2.2))]) (.inr b.rd) zg (mp 17 rfl (I6 ((scanF (((i + 1) : Nat) : Int) (List.drop a.1 (List.take a.2.1 text))).2)) (.inr b.rd) zg (yD 18 zk (yJ 18 rfl ?_ rfl))))⟩
    refine zN [(I6 0), (U8 0), (S []), (.slice none 0 0), (S [])] 90 ?_
    intro cf dm ac
    have g := g.tr a4
    have n := ac.ge g.size
    have h := ac.here
    refine zR ?_
    have b := b.below ac.below
    refine ⟨rfl, .inr b.rd, yD 19 zk (yJ 19 rfl ?_ rfl)⟩
    have t := t.below ac.below
    refine xP cf 0 [(I6 ((scanF (((i + 1) : Nat) : Int) (List.drop a.1 (List.take a.2.1 text))).1.1)), (U8 ((scanF (((i + 1) : Nat) : Int) (List.drop a.1 (List.take a.2.1 text))).1.2.1)), (S ((scanF (((i + 1) : Nat) : Int) (List.drop a.1 (List.take a.2.1 text))).1.2.2.1)), bc, (S ((scanF (((i + 1) : Nat) : Int) (List.drop a.1 (List.take a.2.1 text))).1.2.2.2.2))] [(I6 0), (U8 0), (S []), (.slice none 0 0), (S [])] [(I6 ((scanF (((i + 1) : Nat) : Int) (List.drop a.1 (List.take a.2.1 text))).1.1)), (U8 ((scanF (((i + 1) : Nat) : Int) (List.drop a.1 (List.take a.2.1 text))).1.2.1)), (S ((scanF (((i + 1) : Nat) : Int) (List.drop a.1 (List.take a.2.1 text))).1.2.2.1)), bc, (S ((scanF (((i + 1) : Nat) : Int) (List.drop a.1 (List.take a.2.1 text))).1.2.2.2.2))] 90 zk zk (xC rfl (xC rfl (xC rfl (xC t.one (xC rfl rfl))))) zk h zk rfl ?_
    intro d7 ae
    have b := b.wrote ae (b.ne h zi)
    have c := ((c.below ab).below a4).below ac.below
    have c := c.wrote ae (c.ne h zi)
    have d := ((d.below ab).below a4).below ac.below
    have d := d.wrote ae (d.ne h zi)
    have t := t.wrote ae (t.ne h zi)
    have h := ae.here
    refine zR ?_
    refine ⟨rfl, .inl zk, mp 20 rfl (I6 ((scanF (((i + 1) : Nat) : Int) (List.drop a.1 (List.take a.2.1 text))).2)) (.inl zk) zg (yO zk (zB (zY (wR (zD (zNe .i64 ((scanF (((i + 1) : Nat) : Int) (List.drop a.1 (List.take a.2.1 text))).2) 0 ?_ ?_))))))⟩
    ·intro dg
     have g := (g.tr ac.below).trans (ae.below n)
     exact nQ (zT (wR (zD (xL i 1 (zD (zG (zG (zG (nQ (zS (zH (zP (zH (zH (zP (zH (yC [(.pointer none), (N6 (i + 1)), (I6 ((scanF (((i + 1) : Nat) : Int) (List.drop a.1 (List.take a.2.1 text))).2))] (hd := q) ⟨tup3 rfl (e6 (by (rw [pr_scan i3 za za]; done))) (e6 (by (rw [pr_scan i3 za za]; done))), g⟩)))))))))))))))))
    intro ec
    refine nQ (zF (zK (zB (zY (wR (uF 1 h rfl (qA .u8 ((scanF (((i + 1) : Nat) : Int) (List.drop a.1 (List.take a.2.1 text))).1.2.1) 2 ?_ ?_)))))))
    ·intro dq
     have g := (g.tr ac.below).trans (ae.below n)
     exact nQ (zT (wR (zD (xL i 1 (zG (zG (zG (nQ (zS (zH (zP (zH (zH (zP (zH (yC [(.pointer none), (N6 (i + 1)), (I6 80)] (hd := q) ⟨tup3 rfl (e6 (by (rw [uG i3 za za za]; done))) (e6 (by (rw [uG i3 za za za]; done))), g⟩))))))))))))))))
    intro dp
    refine nQ (zF (zK (zB (zY (wR (uF 1 h rfl (zNe .u8 ((scanF (((i + 1) : Nat) : Int) (List.drop a.1 (List.take a.2.1 text))).1.2.1) 1 ?_ ?_)))))))
    ·intro dx
     refine nQ (zT (yH (zL (yB (zB (zQ (zD (xL i 1 (zG (zR ?_))))))))))
     have g := (g.tr ac.below).trans (ae.below n)
     refine zB ⟨_, zo, (i + 1), l, af, ao, an, rfl, q, zk, b, c, d, g, zo, zo, zo, ?_, ?_⟩
     ·exact pr_skip i3 za za za za
     first | exact i4 | assumption
    intro d4
    refine nQ (zF (zK (zB (wR (zOW h (zc (c_Row8 ((scanF (((i + 1) : Nat) : Int) (List.drop a.1 (List.take a.2.1 text))).1.1) ((scanF (((i + 1) : Nat) : Int) (List.drop a.1 (List.take a.2.1 text))).1.2.1) ((scanF (((i + 1) : Nat) : Int) (List.drop a.1 (List.take a.2.1 text))).1.2.2.1) bc ((scanF (((i + 1) : Nat) : Int) (List.drop a.1 (List.take a.2.1 text))).1.2.2.2.1) ((scanF (((i + 1) : Nat) : Int) (List.drop a.1 (List.take a.2.1 text))).1.2.2.2.2) _ t.rd (by first | exact (by assumption : _ ∧ _).1) zo) ?_))))))
    rintro _ dv ⟨rfl, a5⟩
    refine zD (zr (Value.agg #[(I3 ((rowR ((scanF (((i + 1) : Nat) : Int) (List.drop a.1 (List.take a.2.1 text))).1.2.2.2.1)).1.1)), (I3 ((rowR ((scanF (((i + 1) : Nat) : Int) (List.drop a.1 (List.take a.2.1 text))).1.2.2.2.1)).1.2.1)), (U8 ((rowR ((scanF (((i + 1) : Nat) : Int) (List.drop a.1 (List.take a.2.1 text))).1.2.2.2.1)).1.2.2))]) (zr (I6 ((rowR ((scanF (((i + 1) : Nat) : Int) (List.drop a.1 (List.take a.2.1 text))).1.2.2.2.1)).2)) (zN [(I3 0), (I3 0), (U8 0)] 26 ?_)))
    intro dw dy aj
    have g := ((g.tr ac.below).trans (ae.below n)).tr a5
    have z := aj.ge g.size
    have c := c.below a5
    have e := c.new_ne aj
    have j := aj.here
    refine wG [(I3 ((rowR ((scanF (((i + 1) : Nat) : Int) (List.drop a.1 (List.take a.2.1 text))).1.2.2.2.1)).1.1)), (I3 ((rowR ((scanF (((i + 1) : Nat) : Int) (List.drop a.1 (List.take a.2.1 text))).1.2.2.2.1)).1.2.1)), (U8 ((rowR ((scanF (((i + 1) : Nat) : Int) (List.drop a.1 (List.take a.2.1 text))).1.2.2.2.1)).1.2.2))] j ?_
    intro dn au
    have b := (b.below a5).below aj.below
    have b := b.wrote au (b.ne j zi)
    have d := (d.below a5).below aj.below
    have d := d.wrote au (d.ne j zi)
    have j := au.here
    refine zG (nW (wR (zD (zNe .i64 ((rowR ((scanF (((i + 1) : Nat) : Int) (List.drop a.1 (List.take a.2.1 text))).1.2.2.2.1)).2) 0 ?_ ?_))))
    ·intro du
     have g := (g.tr aj.below).trans (au.below z)
     exact nQ (zT (wR (zD (xL i 1 (zD (zG (zG (zG (nQ (zS (zH (zP (zH (zH (zP (zH (yC [(.pointer none), (N6 (i + 1)), (I6 ((rowR ((scanF (((i + 1) : Nat) : Int) (List.drop a.1 (List.take a.2.1 text))).1.2.2.2.1)).2))] (hd := q) ⟨tup3 rfl (e6 (by (rw [pr_row i3 za za za za]; done))) (e6 (by (rw [pr_row i3 za za za za]; done))), g⟩)))))))))))))))))
    intro ei
    have g := (g.tr aj.below).trans (au.below z)
    have c := (c.below aj.below).wrote au e
    refine nQ (zF (zK (zB (wR (zD (zOW j (xW qJ w.heap.size ao l ((rowR ((scanF (((i + 1) : Nat) : Int) (List.drop a.1 (List.take a.2.1 text))).1.2.2.2.1)).1.1, (rowR ((scanF (((i + 1) : Nat) : Int) (List.drop a.1 (List.take a.2.1 text))).1.2.2.2.1)).1.2.1, (rowR ((scanF (((i + 1) : Nat) : Int) (List.drop a.1 (List.take a.2.1 text))).1.2.2.2.1)).1.2.2) g.size c zo zk rfl rfl zk rfl zk zk ?_)))))))
    intro b3 dt b2 a9 bt
    have o := wM bt e (yA j)
    have g := g.tg g.size a9 c
    have b := b.grown a9 (b.apart c zk)
    have d := d.grown a9 (d.apart c zk)
    have e := o
    have c := b2
    refine zD (zD (xL i 1 (xW el79 w.heap.size an af (((i + 1) : Nat) : Int) g.size d zo zk rfl rfl zk rfl zk zk ?_)))
    intro ck dh bz ba ce
    have g := g.tg g.size ba d
    have b := b.grown ba (b.apart d zk)
    have c := c.grown ba (c.apart d zk)
    have d := bz
    refine zG (zG (nR (zD (zc (c_First8 b3 (l ++ [((rowR ((scanF (((i + 1) : Nat) : Int) (List.drop a.1 (List.take a.2.1 text))).1.2.2.2.1)).1.1, (rowR ((scanF (((i + 1) : Nat) : Int) (List.drop a.1 (List.take a.2.1 text))).1.2.2.2.1)).1.2.1, (rowR ((scanF (((i + 1) : Nat) : Int) (List.drop a.1 (List.take a.2.1 text))).1.2.2.2.1)).1.2.2)]) _ c.rd (by exact cap_row za) (by (simp only [List.length_append, List.length_cons, List.length_nil]; omega))) ?_))))
    rintro _ de ⟨rfl, az⟩
    refine zD (zr (N6 (fsI (l ++ [((rowR ((scanF (((i + 1) : Nat) : Int) (List.drop a.1 (List.take a.2.1 text))).1.2.2.2.1)).1.1, (rowR ((scanF (((i + 1) : Nat) : Int) (List.drop a.1 (List.take a.2.1 text))).1.2.2.2.1)).1.2.1, (rowR ((scanF (((i + 1) : Nat) : Int) (List.drop a.1 (List.take a.2.1 text))).1.2.2.2.1)).1.2.2)]))) (zr (I6 (fsE (l ++ [((rowR ((scanF (((i + 1) : Nat) : Int) (List.drop a.1 (List.take a.2.1 text))).1.2.2.2.1)).1.1, (rowR ((scanF (((i + 1) : Nat) : Int) (List.drop a.1 (List.take a.2.1 text))).1.2.2.2.1)).1.2.1, (rowR ((scanF (((i + 1) : Nat) : Int) (List.drop a.1 (List.take a.2.1 text))).1.2.2.2.1)).1.2.2)]))) (zG (nR (zD (zNe .i64 (fsE (l ++ [((rowR ((scanF (((i + 1) : Nat) : Int) (List.drop a.1 (List.take a.2.1 text))).1.2.2.2.1)).1.1, (rowR ((scanF (((i + 1) : Nat) : Int) (List.drop a.1 (List.take a.2.1 text))).1.2.2.2.1)).1.2.1, (rowR ((scanF (((i + 1) : Nat) : Int) (List.drop a.1 (List.take a.2.1 text))).1.2.2.2.1)).1.2.2)])) 0 ?_ ?_))))))
    ·intro dj
     have g := g.tr az
     exact nQ (zT (wR (zD (xL i 1 (zD (zG (zG (zG (nQ (zS (zP (zH (zH (zP (zH (yC [(.pointer none), (N6 (i + 1)), (I6 (fsE (l ++ [((rowR ((scanF (((i + 1) : Nat) : Int) (List.drop a.1 (List.take a.2.1 text))).1.2.2.2.1)).1.1, (rowR ((scanF (((i + 1) : Nat) : Int) (List.drop a.1 (List.take a.2.1 text))).1.2.2.2.1)).1.2.1, (rowR ((scanF (((i + 1) : Nat) : Int) (List.drop a.1 (List.take a.2.1 text))).1.2.2.2.1)).1.2.2)])))] (hd := q) ⟨tup3 rfl (e6 (by (rw [uJ i3 i4 za za za za rfl za]; done))) (e6 (by (rw [uJ i3 i4 za za za za rfl za]; done))), g⟩))))))))))))))))
    intro dk
    refine nQ (zF (zK (zI (zB (zQ (zD (xL i 1 (zG (zR ?_)))))))))
    have g := g.tr az
    have c := c.below az
    have d := d.below az
    have b := b.below az
    refine zB ⟨_, zo, (i + 1), (l ++ [((rowR ((scanF (((i + 1) : Nat) : Int) (List.drop a.1 (List.take a.2.1 text))).1.2.2.2.1)).1.1, (rowR ((scanF (((i + 1) : Nat) : Int) (List.drop a.1 (List.take a.2.1 text))).1.2.2.2.1)).1.2.1, (rowR ((scanF (((i + 1) : Nat) : Int) (List.drop a.1 (List.take a.2.1 text))).1.2.2.2.1)).1.2.2)]), (af ++ [(((i + 1) : Nat) : Int)]), b3, ck, rfl, q, zk, b, c, d, g, zo, ?_, ?_, ?_, ?_⟩
    ·(simp only [List.length_append, List.length_cons, List.length_nil]; omega)
    ·(simp only [List.length_append, List.length_cons, List.length_nil]; omega)
    ·exact pr_add i3 i4 za za za za rfl za
    first | exact i4 | assumption
   skip
   refine yJ 18 rfl ?_ rfl
   refine zN [(I6 0), (U8 0), (S []), (.slice none 0 0), (S [])] 90 ?_
   intro ch di ap
   have g := g.tr ab
   have n := ap.ge g.size
   have h := ap.here
   refine zR ?_
   have b := b.below ap.below
   refine ⟨rfl, .inr b.rd, yD 14 zk (yJ 14 rfl ?_ rfl)⟩
   refine zc (wK (((i + 1) : Nat) : Int) (List.drop a.1 (List.take a.2.1 text)) _ zo) ?_
   rintro _ d6 ⟨bb, rfl, ad, ak⟩
   have g := g.tr ap.below
   have ad := ad.base g.size
   have := scan_err (((i + 1) : Nat) : Int) (List.drop a.1 (List.take a.2.1 text))
   refine zR ?_
   have b := b.below ak
   refine ⟨rfl, .inr b.rd, mp 15 rfl (.tuple #[(Value.agg #[(I6 ((scanF (((i + 1) : Nat) : Int) (List.drop a.1 (List.take a.2.1 text))).1.1)), (U8 ((scanF (((i + 1) : Nat) : Int) (List.drop a.1 (List.take a.2.1 text))).1.2.1)), (S ((scanF (((i + 1) : Nat) : Int) (List.drop a.1 (List.take a.2.1 text))).1.2.2.1)), bb, (S ((scanF (((i + 1) : Nat) : Int) (List.drop a.1 (List.take a.2.1 text))).1.2.2.2.2))]), (I6 ((scanF (((i + 1) : Nat) : Int) (List.drop a.1 (List.take a.2.1 text))).2))]) (.inr b.rd) zg (mp 16 rfl (Value.agg #[(I6 ((scanF (((i + 1) : Nat) : Int) (List.drop a.1 (List.take a.2.1 text))).1.1)), (U8 ((scanF (((i + 1) : Nat) : Int) (List.drop a.1 (List.take a.2.1 text))).1.2.1)), (S ((scanF (((i + 1) : Nat) : Int) (List.drop a.1 (List.take a.2.1 text))).1.2.2.1)), bb, (S ((scanF (((i + 1) : Nat) : Int) (List.drop a.1 (List.take a.2.1 text))).1.2.2.2.2))]) (.inr b.rd) zg (mp 17 rfl (I6 ((scanF (((i + 1) : Nat) : Int) (List.drop a.1 (List.take a.2.1 text))).2)) (.inr b.rd) zg (yD 19 zk (yJ 19 rfl ?_ rfl))))⟩
   have h := zA h ak
   refine xP ch 0 [(I6 ((scanF (((i + 1) : Nat) : Int) (List.drop a.1 (List.take a.2.1 text))).1.1)), (U8 ((scanF (((i + 1) : Nat) : Int) (List.drop a.1 (List.take a.2.1 text))).1.2.1)), (S ((scanF (((i + 1) : Nat) : Int) (List.drop a.1 (List.take a.2.1 text))).1.2.2.1)), bb, (S ((scanF (((i + 1) : Nat) : Int) (List.drop a.1 (List.take a.2.1 text))).1.2.2.2.2))] [(I6 0), (U8 0), (S []), (.slice none 0 0), (S [])] [(I6 ((scanF (((i + 1) : Nat) : Int) (List.drop a.1 (List.take a.2.1 text))).1.1)), (U8 ((scanF (((i + 1) : Nat) : Int) (List.drop a.1 (List.take a.2.1 text))).1.2.1)), (S ((scanF (((i + 1) : Nat) : Int) (List.drop a.1 (List.take a.2.1 text))).1.2.2.1)), bb, (S ((scanF (((i + 1) : Nat) : Int) (List.drop a.1 (List.take a.2.1 text))).1.2.2.2.2))] 90 zk zk (xC rfl (xC rfl (xC rfl (xC ad.one (xC rfl rfl))))) zk h zk rfl ?_
   intro eh ag
   have b := b.wrote ag (b.ne h zi)
   have c := ((c.below ab).below ap.below).below ak
   have c := c.wrote ag (c.ne h zi)
   have d := ((d.below ab).below ap.below).below ak
   have d := d.wrote ag (d.ne h zi)
   have ad := ad.wrote ag (ad.ne h zi)
   have h := ag.here
   refine zR ?_
   refine ⟨rfl, .inl zk, mp 20 rfl (I6 ((scanF (((i + 1) : Nat) : Int) (List.drop a.1 (List.take a.2.1 text))).2)) (.inl zk) zg (yO zk (zB (zY (wR (zD (zNe .i64 ((scanF (((i + 1) : Nat) : Int) (List.drop a.1 (List.take a.2.1 text))).2) 0 ?_ ?_))))))⟩
   ·intro dr
    have g := (g.tr ak).trans (ag.below n)
    exact nQ (zT (wR (zD (xL i 1 (zD (zG (zG (zG (nQ (zS (zH (zP (zH (zH (zP (zH (yC [(.pointer none), (N6 (i + 1)), (I6 ((scanF (((i + 1) : Nat) : Int) (List.drop a.1 (List.take a.2.1 text))).2))] (hd := q) ⟨tup3 rfl (e6 (by (rw [pr_scan i3 za za]; done))) (e6 (by (rw [pr_scan i3 za za]; done))), g⟩)))))))))))))))))
   intro d2
   refine nQ (zF (zK (zB (zY (wR (uF 1 h rfl (qA .u8 ((scanF (((i + 1) : Nat) : Int) (List.drop a.1 (List.take a.2.1 text))).1.2.1) 2 ?_ ?_)))))))
   ·intro dz
    have g := (g.tr ak).trans (ag.below n)
    exact nQ (zT (wR (zD (xL i 1 (zG (zG (zG (nQ (zS (zH (zP (zH (zH (zP (zH (yC [(.pointer none), (N6 (i + 1)), (I6 80)] (hd := q) ⟨tup3 rfl (e6 (by (rw [uG i3 za za za]; done))) (e6 (by (rw [uG i3 za za za]; done))), g⟩))))))))))))))))
   intro dl
   refine nQ (zF (zK (zB (zY (wR (uF 1 h rfl (zNe .u8 ((scanF (((i + 1) : Nat) : Int) (List.drop a.1 (List.take a.2.1 text))).1.2.1) 1 ?_ ?_)))))))
   ·intro d5
    refine nQ (zT (yH (zL (yB (zB (zQ (zD (xL i 1 (zG (zR ?_))))))))))
    have g := (g.tr ak).trans (ag.below n)
    refine zB ⟨_, zo, (i + 1), l, af, ao, an, rfl, q, zk, b, c, d, g, zo, zo, zo, ?_, ?_⟩
    ·exact pr_skip i3 za za za za
    first | exact i4 | assumption
   intro d0
   refine nQ (zF (zK (zB (wR (zOW h (zc (c_Row8 ((scanF (((i + 1) : Nat) : Int) (List.drop a.1 (List.take a.2.1 text))).1.1) ((scanF (((i + 1) : Nat) : Int) (List.drop a.1 (List.take a.2.1 text))).1.2.1) ((scanF (((i + 1) : Nat) : Int) (List.drop a.1 (List.take a.2.1 text))).1.2.2.1) bb ((scanF (((i + 1) : Nat) : Int) (List.drop a.1 (List.take a.2.1 text))).1.2.2.2.1) ((scanF (((i + 1) : Nat) : Int) (List.drop a.1 (List.take a.2.1 text))).1.2.2.2.2) _ ad.rd (by first | exact (by assumption : _ ∧ _).1) zo) ?_))))))
   rintro _ d8 ⟨rfl, a7⟩
   refine zD (zr (Value.agg #[(I3 ((rowR ((scanF (((i + 1) : Nat) : Int) (List.drop a.1 (List.take a.2.1 text))).1.2.2.2.1)).1.1)), (I3 ((rowR ((scanF (((i + 1) : Nat) : Int) (List.drop a.1 (List.take a.2.1 text))).1.2.2.2.1)).1.2.1)), (U8 ((rowR ((scanF (((i + 1) : Nat) : Int) (List.drop a.1 (List.take a.2.1 text))).1.2.2.2.1)).1.2.2))]) (zr (I6 ((rowR ((scanF (((i + 1) : Nat) : Int) (List.drop a.1 (List.take a.2.1 text))).1.2.2.2.1)).2)) (zN [(I3 0), (I3 0), (U8 0)] 26 ?_)))
   intro ef eg al
   have g := ((g.tr ak).trans (ag.below n)).tr a7
   have z := al.ge g.size
   have c := c.below a7
   have e := c.new_ne al
   have j := al.here
   refine wG [(I3 ((rowR ((scanF (((i + 1) : Nat) : Int) (List.drop a.1 (List.take a.2.1 text))).1.2.2.2.1)).1.1)), (I3 ((rowR ((scanF (((i + 1) : Nat) : Int) (List.drop a.1 (List.take a.2.1 text))).1.2.2.2.1)).1.2.1)), (U8 ((rowR ((scanF (((i + 1) : Nat) : Int) (List.drop a.1 (List.take a.2.1 text))).1.2.2.2.1)).1.2.2))] j ?_
   intro df ar
   have b := (b.below a7).below al.below
   have b := b.wrote ar (b.ne j zi)
   have d := (d.below a7).below al.below
   have d := d.wrote ar (d.ne j zi)
   have j := ar.here
   refine zG (nW (wR (zD (zNe .i64 ((rowR ((scanF (((i + 1) : Nat) : Int) (List.drop a.1 (List.take a.2.1 text))).1.2.2.2.1)).2) 0 ?_ ?_))))
   ·intro ee
    have g := (g.tr al.below).trans (ar.below z)
    exact nQ (zT (wR (zD (xL i 1 (zD (zG (zG (zG (nQ (zS (zH (zP (zH (zH (zP (zH (yC [(.pointer none), (N6 (i + 1)), (I6 ((rowR ((scanF (((i + 1) : Nat) : Int) (List.drop a.1 (List.take a.2.1 text))).1.2.2.2.1)).2))] (hd := q) ⟨tup3 rfl (e6 (by (rw [pr_row i3 za za za za]; done))) (e6 (by (rw [pr_row i3 za za za za]; done))), g⟩)))))))))))))))))
   intro d3
   have g := (g.tr al.below).trans (ar.below z)
   have c := (c.below al.below).wrote ar e
   refine nQ (zF (zK (zB (wR (zD (zOW j (xW qJ w.heap.size ao l ((rowR ((scanF (((i + 1) : Nat) : Int) (List.drop a.1 (List.take a.2.1 text))).1.2.2.2.1)).1.1, (rowR ((scanF (((i + 1) : Nat) : Int) (List.drop a.1 (List.take a.2.1 text))).1.2.2.2.1)).1.2.1, (rowR ((scanF (((i + 1) : Nat) : Int) (List.drop a.1 (List.take a.2.1 text))).1.2.2.2.1)).1.2.2) g.size c zo zk rfl rfl zk rfl zk zk ?_)))))))
   intro b0 d1 b6 be bw
   have o := wM bw e (yA j)
   have g := g.tg g.size be c
   have b := b.grown be (b.apart c zk)
   have d := d.grown be (d.apart c zk)
   have e := o
   have c := b6
   refine zD (zD (xL i 1 (xW el79 w.heap.size an af (((i + 1) : Nat) : Int) g.size d zo zk rfl rfl zk rfl zk zk ?_)))
   intro cd ea b7 a8 ci
   have g := g.tg g.size a8 d
   have b := b.grown a8 (b.apart d zk)
   have c := c.grown a8 (c.apart d zk)
   have d := b7
   refine zG (zG (nR (zD (zc (c_First8 b0 (l ++ [((rowR ((scanF (((i + 1) : Nat) : Int) (List.drop a.1 (List.take a.2.1 text))).1.2.2.2.1)).1.1, (rowR ((scanF (((i + 1) : Nat) : Int) (List.drop a.1 (List.take a.2.1 text))).1.2.2.2.1)).1.2.1, (rowR ((scanF (((i + 1) : Nat) : Int) (List.drop a.1 (List.take a.2.1 text))).1.2.2.2.1)).1.2.2)]) _ c.rd (by exact cap_row za) (by (simp only [List.length_append, List.length_cons, List.length_nil]; omega))) ?_))))
   rintro _ d9 ⟨rfl, ay⟩
   refine zD (zr (N6 (fsI (l ++ [((rowR ((scanF (((i + 1) : Nat) : Int) (List.drop a.1 (List.take a.2.1 text))).1.2.2.2.1)).1.1, (rowR ((scanF (((i + 1) : Nat) : Int) (List.drop a.1 (List.take a.2.1 text))).1.2.2.2.1)).1.2.1, (rowR ((scanF (((i + 1) : Nat) : Int) (List.drop a.1 (List.take a.2.1 text))).1.2.2.2.1)).1.2.2)]))) (zr (I6 (fsE (l ++ [((rowR ((scanF (((i + 1) : Nat) : Int) (List.drop a.1 (List.take a.2.1 text))).1.2.2.2.1)).1.1, (rowR ((scanF (((i + 1) : Nat) : Int) (List.drop a.1 (List.take a.2.1 text))).1.2.2.2.1)).1.2.1, (rowR ((scanF (((i + 1) : Nat) : Int) (List.drop a.1 (List.take a.2.1 text))).1.2.2.2.1)).1.2.2)]))) (zG (nR (zD (zNe .i64 (fsE (l ++ [((rowR ((scanF (((i + 1) : Nat) : Int) (List.drop a.1 (List.take a.2.1 text))).1.2.2.2.1)).1.1, (rowR ((scanF (((i + 1) : Nat) : Int) (List.drop a.1 (List.take a.2.1 text))).1.2.2.2.1)).1.2.1, (rowR ((scanF (((i + 1) : Nat) : Int) (List.drop a.1 (List.take a.2.1 text))).1.2.2.2.1)).1.2.2)])) 0 ?_ ?_))))))
   ·intro c4
    have g := g.tr ay
    exact nQ (zT (wR (zD (xL i 1 (zD (zG (zG (zG (nQ (zS (zP (zH (zH (zP (zH (yC [(.pointer none), (N6 (i + 1)), (I6 (fsE (l ++ [((rowR ((scanF (((i + 1) : Nat) : Int) (List.drop a.1 (List.take a.2.1 text))).1.2.2.2.1)).1.1, (rowR ((scanF (((i + 1) : Nat) : Int) (List.drop a.1 (List.take a.2.1 text))).1.2.2.2.1)).1.2.1, (rowR ((scanF (((i + 1) : Nat) : Int) (List.drop a.1 (List.take a.2.1 text))).1.2.2.2.1)).1.2.2)])))] (hd := q) ⟨tup3 rfl (e6 (by (rw [uJ i3 i4 za za za za rfl za]; done))) (e6 (by (rw [uJ i3 i4 za za za za rfl za]; done))), g⟩))))))))))))))))
   intro c1
   refine nQ (zF (zK (zI (zB (zQ (zD (xL i 1 (zG (zR ?_)))))))))
   have g := g.tr ay
   have c := c.below ay
   have d := d.below ay
   have b := b.below ay
   refine zB ⟨_, zo, (i + 1), (l ++ [((rowR ((scanF (((i + 1) : Nat) : Int) (List.drop a.1 (List.take a.2.1 text))).1.2.2.2.1)).1.1, (rowR ((scanF (((i + 1) : Nat) : Int) (List.drop a.1 (List.take a.2.1 text))).1.2.2.2.1)).1.2.1, (rowR ((scanF (((i + 1) : Nat) : Int) (List.drop a.1 (List.take a.2.1 text))).1.2.2.2.1)).1.2.2)]), (af ++ [(((i + 1) : Nat) : Int)]), b0, cd, rfl, q, zk, b, c, d, g, zo, ?_, ?_, ?_, ?_⟩
   ·(simp only [List.length_append, List.length_cons, List.length_nil]; omega)
   ·(simp only [List.length_append, List.length_cons, List.length_nil]; omega)
   ·exact pr_add i3 i4 za za za za rfl za
   first | exact i4 | assumption
  skip
  refine yJ 18 rfl ?_ rfl
  refine zN [(I6 0), (U8 0), (S []), (.slice none 0 0), (S [])] 90 ?_
  intro b4 da ai
  have g := g.tr ab
  have n := ai.ge g.size
  have h := ai.here
  refine zR ?_
  have b := b.below ai.below
  refine ⟨rfl, .inr b.rd, yD 13 zk (yJ 13 rfl ?_ rfl)⟩
  refine L_sslice text a.1 a.2.1 underlying9 zk ⟨.i64, zk⟩ ⟨.i64, zk⟩ zo zo (zR ?_)
  refine ⟨rfl, .inr b.rd, yD 14 zk (yJ 14 rfl ?_ rfl)⟩
  refine zc (wK (((i + 1) : Nat) : Int) (List.drop a.1 (List.take a.2.1 text)) _ zo) ?_
  rintro _ cn ⟨a0, rfl, p, u⟩
  have g := g.tr ai.below
  have p := p.base g.size
  have := scan_err (((i + 1) : Nat) : Int) (List.drop a.1 (List.take a.2.1 text))
  refine zR ?_
  have b := b.below u
  refine ⟨rfl, .inr b.rd, mp 15 rfl (.tuple #[(Value.agg #[(I6 ((scanF (((i + 1) : Nat) : Int) (List.drop a.1 (List.take a.2.1 text))).1.1)), (U8 ((scanF (((i + 1) : Nat) : Int) (List.drop a.1 (List.take a.2.1 text))).1.2.1)), (S ((scanF (((i + 1) : Nat) : Int) (List.drop a.1 (List.take a.2.1 text))).1.2.2.1)), a0, (S ((scanF (((i + 1) : Nat) : Int) (List.drop a.1 (List.take a.2.1 text))).1.2.2.2.2))]), (I6 ((scanF (((i + 1) : Nat) : Int) (List.drop a.1 (List.take a.2.1 text))).2))]) (.inr b.rd) zg (mp 16 rfl (Value.agg #[(I6 ((scanF (((i + 1) : Nat) : Int) (List.drop a.1 (List.take a.2.1 text))).1.1)), (U8 ((scanF (((i + 1) : Nat) : Int) (List.drop a.1 (List.take a.2.1 text))).1.2.1)), (S ((scanF (((i + 1) : Nat) : Int) (List.drop a.1 (List.take a.2.1 text))).1.2.2.1)), a0, (S ((scanF (((i + 1) : Nat) : Int) (List.drop a.1 (List.take a.2.1 text))).1.2.2.2.2))]) (.inr b.rd) zg (mp 17 rfl (I6 ((scanF (((i + 1) : Nat) : Int) (List.drop a.1 (List.take a.2.1 text))).2)) (.inr b.rd) zg (yD 19 zk (yJ 19 rfl ?_ rfl))))⟩
  have h := zA h u
  refine xP b4 0 [(I6 ((scanF (((i + 1) : Nat) : Int) (List.drop a.1 (List.take a.2.1 text))).1.1)), (U8 ((scanF (((i + 1) : Nat) : Int) (List.drop a.1 (List.take a.2.1 text))).1.2.1)), (S ((scanF (((i + 1) : Nat) : Int) (List.drop a.1 (List.take a.2.1 text))).1.2.2.1)), a0, (S ((scanF (((i + 1) : Nat) : Int) (List.drop a.1 (List.take a.2.1 text))).1.2.2.2.2))] [(I6 0), (U8 0), (S []), (.slice none 0 0), (S [])] [(I6 ((scanF (((i + 1) : Nat) : Int) (List.drop a.1 (List.take a.2.1 text))).1.1)), (U8 ((scanF (((i + 1) : Nat) : Int) (List.drop a.1 (List.take a.2.1 text))).1.2.1)), (S ((scanF (((i + 1) : Nat) : Int) (List.drop a.1 (List.take a.2.1 text))).1.2.2.1)), a0, (S ((scanF (((i + 1) : Nat) : Int) (List.drop a.1 (List.take a.2.1 text))).1.2.2.2.2))] 90 zk zk (xC rfl (xC rfl (xC rfl (xC p.one (xC rfl rfl))))) zk h zk rfl ?_
  intro cp r
  have b := b.wrote r (b.ne h zi)
  have c := ((c.below ab).below ai.below).below u
  have c := c.wrote r (c.ne h zi)
  have d := ((d.below ab).below ai.below).below u
  have d := d.wrote r (d.ne h zi)
  have p := p.wrote r (p.ne h zi)
  have h := r.here
  refine zR ?_
  refine ⟨rfl, .inl zk, mp 20 rfl (I6 ((scanF (((i + 1) : Nat) : Int) (List.drop a.1 (List.take a.2.1 text))).2)) (.inl zk) zg (yO zk (zB (zY (wR (zD (zNe .i64 ((scanF (((i + 1) : Nat) : Int) (List.drop a.1 (List.take a.2.1 text))).2) 0 ?_ ?_))))))⟩
  ·intro cu
   have g := (g.tr u).trans (r.below n)
   exact nQ (zT (wR (zD (xL i 1 (zD (zG (zG (zG (nQ (zS (zH (zP (zH (zH (zP (zH (yC [(.pointer none), (N6 (i + 1)), (I6 ((scanF (((i + 1) : Nat) : Int) (List.drop a.1 (List.take a.2.1 text))).2))] (hd := q) ⟨tup3 rfl (e6 (by (rw [pr_scan i3 za za]; done))) (e6 (by (rw [pr_scan i3 za za]; done))), g⟩)))))))))))))))))
  intro c9
  refine nQ (zF (zK (zB (zY (wR (uF 1 h rfl (qA .u8 ((scanF (((i + 1) : Nat) : Int) (List.drop a.1 (List.take a.2.1 text))).1.2.1) 2 ?_ ?_)))))))
  ·intro cr
   have g := (g.tr u).trans (r.below n)
   exact nQ (zT (wR (zD (xL i 1 (zG (zG (zG (nQ (zS (zH (zP (zH (zH (zP (zH (yC [(.pointer none), (N6 (i + 1)), (I6 80)] (hd := q) ⟨tup3 rfl (e6 (by (rw [uG i3 za za za]; done))) (e6 (by (rw [uG i3 za za za]; done))), g⟩))))))))))))))))
  intro c5
  refine nQ (zF (zK (zB (zY (wR (uF 1 h rfl (zNe .u8 ((scanF (((i + 1) : Nat) : Int) (List.drop a.1 (List.take a.2.1 text))).1.2.1) 1 ?_ ?_)))))))
  ·intro dd
   refine nQ (zT (yH (zL (yB (zB (zQ (zD (xL i 1 (zG (zR ?_))))))))))
   have g := (g.tr u).trans (r.below n)
   refine zB ⟨_, zo, (i + 1), l, af, ao, an, rfl, q, zk, b, c, d, g, zo, zo, zo, ?_, ?_⟩
   ·exact pr_skip i3 za za za za
   first | exact i4 | assumption
  intro cv
  refine nQ (zF (zK (zB (wR (zOW h (zc (c_Row8 ((scanF (((i + 1) : Nat) : Int) (List.drop a.1 (List.take a.2.1 text))).1.1) ((scanF (((i + 1) : Nat) : Int) (List.drop a.1 (List.take a.2.1 text))).1.2.1) ((scanF (((i + 1) : Nat) : Int) (List.drop a.1 (List.take a.2.1 text))).1.2.2.1) a0 ((scanF (((i + 1) : Nat) : Int) (List.drop a.1 (List.take a.2.1 text))).1.2.2.2.1) ((scanF (((i + 1) : Nat) : Int) (List.drop a.1 (List.take a.2.1 text))).1.2.2.2.2) _ p.rd (by first | exact (by assumption : _ ∧ _).1) zo) ?_))))))
  rintro _ c0 ⟨rfl, aw⟩
  refine zD (zr (Value.agg #[(I3 ((rowR ((scanF (((i + 1) : Nat) : Int) (List.drop a.1 (List.take a.2.1 text))).1.2.2.2.1)).1.1)), (I3 ((rowR ((scanF (((i + 1) : Nat) : Int) (List.drop a.1 (List.take a.2.1 text))).1.2.2.2.1)).1.2.1)), (U8 ((rowR ((scanF (((i + 1) : Nat) : Int) (List.drop a.1 (List.take a.2.1 text))).1.2.2.2.1)).1.2.2))]) (zr (I6 ((rowR ((scanF (((i + 1) : Nat) : Int) (List.drop a.1 (List.take a.2.1 text))).1.2.2.2.1)).2)) (zN [(I3 0), (I3 0), (U8 0)] 26 ?_)))
  intro cw cm y
  have g := ((g.tr u).trans (r.below n)).tr aw
  have z := y.ge g.size
  have c := c.below aw
  have e := c.new_ne y
  have j := y.here
  refine wG [(I3 ((rowR ((scanF (((i + 1) : Nat) : Int) (List.drop a.1 (List.take a.2.1 text))).1.2.2.2.1)).1.1)), (I3 ((rowR ((scanF (((i + 1) : Nat) : Int) (List.drop a.1 (List.take a.2.1 text))).1.2.2.2.1)).1.2.1)), (U8 ((rowR ((scanF (((i + 1) : Nat) : Int) (List.drop a.1 (List.take a.2.1 text))).1.2.2.2.1)).1.2.2))] j ?_
  intro cy ah
  have b := (b.below aw).below y.below
  have b := b.wrote ah (b.ne j zi)
  have d := (d.below aw).below y.below
  have d := d.wrote ah (d.ne j zi)
  have j := ah.here
  refine zG (nW (wR (zD (zNe .i64 ((rowR ((scanF (((i + 1) : Nat) : Int) (List.drop a.1 (List.take a.2.1 text))).1.2.2.2.1)).2) 0 ?_ ?_))))
  ·intro c7
   have g := (g.tr y.below).trans (ah.below z)
   exact nQ (zT (wR (zD (xL i 1 (zD (zG (zG (zG (nQ (zS (zH (zP (zH (zH (zP (zH (yC [(.pointer none), (N6 (i + 1)), (I6 ((rowR ((scanF (((i + 1) : Nat) : Int) (List.drop a.1 (List.take a.2.1 text))).1.2.2.2.1)).2))] (hd := q) ⟨tup3 rfl (e6 (by (rw [pr_row i3 za za za za]; done))) (e6 (by (rw [pr_row i3 za za za za]; done))), g⟩)))))))))))))))))
  intro cq
  have g := (g.tr y.below).trans (ah.below z)
  have c := (c.below y.below).wrote ah e
  refine nQ (zF (zK (zB (wR (zD (zOW j (xW qJ w.heap.size ao l ((rowR ((scanF (((i + 1) : Nat) : Int) (List.drop a.1 (List.take a.2.1 text))).1.2.2.2.1)).1.1, (rowR ((scanF (((i + 1) : Nat) : Int) (List.drop a.1 (List.take a.2.1 text))).1.2.2.2.1)).1.2.1, (rowR ((scanF (((i + 1) : Nat) : Int) (List.drop a.1 (List.take a.2.1 text))).1.2.2.2.1)).1.2.2) g.size c zo zk rfl rfl zk rfl zk zk ?_)))))))
  intro bm ct bq a2 bg
  have o := wM bg e (yA j)
  have g := g.tg g.size a2 c
  have b := b.grown a2 (b.apart c zk)
  have d := d.grown a2 (d.apart c zk)
  have e := o
  have c := bq
  refine zD (zD (xL i 1 (xW el79 w.heap.size an af (((i + 1) : Nat) : Int) g.size d zo zk rfl rfl zk rfl zk zk ?_)))
  intro b1 c3 bs a3 ca
  have g := g.tg g.size a3 d
  have b := b.grown a3 (b.apart d zk)
  have c := c.grown a3 (c.apart d zk)
  have d := bs
  refine zG (zG (nR (zD (zc (c_First8 bm (l ++ [((rowR ((scanF (((i + 1) : Nat) : Int) (List.drop a.1 (List.take a.2.1 text))).1.2.2.2.1)).1.1, (rowR ((scanF (((i + 1) : Nat) : Int) (List.drop a.1 (List.take a.2.1 text))).1.2.2.2.1)).1.2.1, (rowR ((scanF (((i + 1) : Nat) : Int) (List.drop a.1 (List.take a.2.1 text))).1.2.2.2.1)).1.2.2)]) _ c.rd (by exact cap_row za) (by (simp only [List.length_append, List.length_cons, List.length_nil]; omega))) ?_))))
  rintro _ co ⟨rfl, am⟩
  refine zD (zr (N6 (fsI (l ++ [((rowR ((scanF (((i + 1) : Nat) : Int) (List.drop a.1 (List.take a.2.1 text))).1.2.2.2.1)).1.1, (rowR ((scanF (((i + 1) : Nat) : Int) (List.drop a.1 (List.take a.2.1 text))).1.2.2.2.1)).1.2.1, (rowR ((scanF (((i + 1) : Nat) : Int) (List.drop a.1 (List.take a.2.1 text))).1.2.2.2.1)).1.2.2)]))) (zr (I6 (fsE (l ++ [((rowR ((scanF (((i + 1) : Nat) : Int) (List.drop a.1 (List.take a.2.1 text))).1.2.2.2.1)).1.1, (rowR ((scanF (((i + 1) : Nat) : Int) (List.drop a.1 (List.take a.2.1 text))).1.2.2.2.1)).1.2.1, (rowR ((scanF (((i + 1) : Nat) : Int) (List.drop a.1 (List.take a.2.1 text))).1.2.2.2.1)).1.2.2)]))) (zG (nR (zD (zNe .i64 (fsE (l ++ [((rowR ((scanF (((i + 1) : Nat) : Int) (List.drop a.1 (List.take a.2.1 text))).1.2.2.2.1)).1.1, (rowR ((scanF (((i + 1) : Nat) : Int) (List.drop a.1 (List.take a.2.1 text))).1.2.2.2.1)).1.2.1, (rowR ((scanF (((i + 1) : Nat) : Int) (List.drop a.1 (List.take a.2.1 text))).1.2.2.2.1)).1.2.2)])) 0 ?_ ?_))))))
  ·intro cz
   have g := g.tr am
   exact nQ (zT (wR (zD (xL i 1 (zD (zG (zG (zG (nQ (zS (zP (zH (zH (zP (zH (yC [(.pointer none), (N6 (i + 1)), (I6 (fsE (l ++ [((rowR ((scanF (((i + 1) : Nat) : Int) (List.drop a.1 (List.take a.2.1 text))).1.2.2.2.1)).1.1, (rowR ((scanF (((i + 1) : Nat) : Int) (List.drop a.1 (List.take a.2.1 text))).1.2.2.2.1)).1.2.1, (rowR ((scanF (((i + 1) : Nat) : Int) (List.drop a.1 (List.take a.2.1 text))).1.2.2.2.1)).1.2.2)])))] (hd := q) ⟨tup3 rfl (e6 (by (rw [uJ i3 i4 za za za za rfl za]; done))) (e6 (by (rw [uJ i3 i4 za za za za rfl za]; done))), g⟩))))))))))))))))
  intro c2
  refine nQ (zF (zK (zI (zB (zQ (zD (xL i 1 (zG (zR ?_)))))))))
  have g := g.tr am
  have c := c.below am
  have d := d.below am
  have b := b.below am
  refine zB ⟨_, zo, (i + 1), (l ++ [((rowR ((scanF (((i + 1) : Nat) : Int) (List.drop a.1 (List.take a.2.1 text))).1.2.2.2.1)).1.1, (rowR ((scanF (((i + 1) : Nat) : Int) (List.drop a.1 (List.take a.2.1 text))).1.2.2.2.1)).1.2.1, (rowR ((scanF (((i + 1) : Nat) : Int) (List.drop a.1 (List.take a.2.1 text))).1.2.2.2.1)).1.2.2)]), (af ++ [(((i + 1) : Nat) : Int)]), bm, b1, rfl, q, zk, b, c, d, g, zo, ?_, ?_, ?_, ?_⟩
  ·(simp only [List.length_append, List.length_cons, List.length_nil]; omega)
  ·(simp only [List.length_append, List.length_cons, List.length_nil]; omega)
  ·exact pr_add i3 i4 za za za za rfl za
  first | exact i4 | assumption
 intro cl
 refine nQ (zF (yH (zL (zL (yB (zB (wR (zD ?_))))))))
 by_cases bp : newB l = none
 ·skip
  exfalso; rw [pr_new i3 zo bp] at hbad; exact hbad rfl
 skip
 refine zc (c_New8_bad ao l _ c.rd (by exact cap_row za) zo zo) ?_
 rintro _ c8 ⟨rfl, bd⟩
 refine zD (zr (.pointer none) (zr (N6 (newI l)) (zr (I6 (newE l)) (zG (zG (zG (nW (wR (zD (zNe .i64 (newE l) 0 ?_ ?_))))))))))
 ·intro db
  refine nQ (zT (zY (xA zk zk (yE (yE ?_)))))
  have hz := zV af (((newI l : Nat) : Int).toNat) (by (have hq := newI_lt i4 za; omega)); obtain ⟨bl, br⟩ := hz
  have d := d.below bd
  have hz := (d.rd).at (k := 1) zj br
  obtain ⟨bn, a6, bu, bo⟩ := hz
  refine Lq_ixaddrZ (k := .i64) an ((newI l : Nat) : Int) (((newI l : Nat) : Int).toNat) _ bn a6 zo el79 bu (by (have hq := newI_lt i4 za; omega)) zk zk (zZ bn (a6 + (((newI l : Nat) : Int).toNat) * 1) (I6 bl) zk zf (bo 0 _ rfl) (yE (wU (wU (wU (yN ?_))))))
  intro cs bv
  have g := (g.tr bd).tr bv
  exact zB (zS (zH (yC [(.pointer none), (I6 bl), (I6 (newE l))] (hd := q) ⟨tup3 rfl (e6 (by (rw [pr_lone i3 i4 zo za za]; done))) (e6 (by (rw [pr_lone i3 i4 zo za za]; done))), g⟩)))
 intro dc
 exfalso; (have hq := newI_lt i4 za; omega)
theorem c_Parse8_ok (text : List UInt8) (w : World) (hs : text.length ≤ 67108864) (hok : (parF text).2.2 = 0) :
  Calls Tryz.prog 19 #[(S text)] w (Ret fun v w' => ∃ (q0 : Value) (q1 : Value) (cb0 : Nat), v = (.tuple #[(pt cb0 0), (I6 0), (I6 0)]) ∧ Row w' w.heap.size 26 3 encBrk q0 (rowsB (kv (parF text).1.1)) ∧ Row w' w.heap.size 52 2 encTw q1 ([] : List (Int × Int)) ∧ w'.heap[cb0]? = some (.cells [q0, q1].toArray 78 (0, 0)) ∧ w.heap.size ≤ cb0 ∧ Below w.heap.size w w') := by
 refine wI 98 func19 rfl ?_
 have h := Below.refl w.heap.size w
 have ea := pcsR_len text
 refine wR (zG (zG (zG (nR (zD (zc (c_furrowref03_Pieces text _ zo) ?_))))))
 rintro q1 w2 ⟨_, rfl, b, cq⟩
 have b := b.base h.size
 refine zG (nR (zG (nR (zG (nW (wR (zG (nQ (zX ?_)))))))))
 have h := h.tr cq
 refine yZ (fun m s0 w0 => ∃ (i : Nat) (l : List Brk) (aa : List Int) (ak : Value) (ap : Value), (m = (pcsR text).length - i) ∧ (s0.ds = []) ∧ ([0, 5, 6, 7, 8].map s0.f = [(S text), q1, ak, ap, (N6 i)]) ∧ (Row w0 w.heap.size 110 3 encPcN q1 (pcsR text)) ∧ (Row w0 w.heap.size 26 3 encBrk ak l) ∧ (Row w0 w.heap.size 3 1 encInt ap aa) ∧ (Below w.heap.size w w0) ∧ (i ≤ (pcsR text).length) ∧ (l.length ≤ i) ∧ (aa.length = l.length) ∧ (ParI ((toldF text).take i) l aa) ∧ (fsE l = 0)) _ ⟨0, [], [], (.slice none 0 0), (.slice none 0 0), rfl, zk, zk, b, Row.nil _ _ _ _ _, Row.nil _ _ _ _ _, h, (Nat.zero_le _), (Nat.le_refl _), rfl, ParI.nil, fs_nil⟩ ?_
 rintro m5 s6 w7 ⟨i, l, aa, ak, ap, hm, a2, cu, b, c, d, h, i1, i2, i5, i3, i4⟩
 refine yS cu (zY (wR (zD (zD (zln underlying105 (b.rd).len (nLt i ((pcsR text).length) ?_ ?_))))))
 ·intro h8
  refine nQ (zT (zK (zB (zY (zX (zY (xB 19 21 zk zk zk ?_)))))))
  intro w9 q
  refine ⟨fun w => (Rd w encPcN q1 (pcsR text)), ?_⟩
  have b := b.below q
  refine mp 0 rfl (N6 i) (.inr b.rd) zg (mp 1 rfl (N6 (i + 1)) (.inr b.rd) (fun w2 _ => wO i 1 zo zk zk w2) (mp 2 rfl (S text) (.inr b.rd) zg (mp 3 rfl q1 (.inr b.rd) zg (mp 4 rfl (N6 i) (.inr b.rd) zg ?_))))
  have hz := zV (pcsR text) i zo; obtain ⟨a, a0⟩ := hz
  have hz := (b.rd).at (k := 3) zj a0; obtain ⟨bk, av, bn, dd⟩ := hz
  have cl := pcsR_ok a0
  have ci : (List.drop a.1 (List.take a.2.1 text)).length = a.2.1 - a.1 := by simp only [List.length_drop, List.length_take]; omega
  have cd := scan_parts (no := ((i + 1 : Nat) : Int)) (s := List.drop a.1 (List.take a.2.1 text)) 1073741824 zo
  have cg := scan_flen ((i + 1 : Nat) : Int) (List.drop a.1 (List.take a.2.1 text))
  refine mp 5 rfl (pt bk (av + i * 3)) (.inr b.rd) (yF (k := .i64) q1 i _ bk av el105 bn zo zk zk) (mp 6 rfl (pt bk (av + i * 3)) (.inr b.rd) zg (mt 7 [7, 13, 14, 15, 16, 17, 19, 20] rfl (N6 a.1) b.rd (yR bk (av + i * 3) (N6 a.1) zk zf (fun w2 h2 => Rd.later (k := 3) h2 zj bn a0 0 _ rfl)) (mp 8 rfl q1 (.inr b.rd) zg (mp 9 rfl (N6 i) (.inr b.rd) zg ?_))))
  have hz := (b.rd).at (k := 3) zj a0; obtain ⟨bj, aq, bl, c5⟩ := hz
  refine mp 10 rfl (pt bj (aq + i * 3)) (.inr b.rd) (yF (k := .i64) q1 i _ bj aq el105 bl zo zk zk) (mp 11 rfl (pt bj ((aq + i * 3) + 1)) (.inr b.rd) zg (mt 12 [12, 13, 14, 15, 16, 17, 19, 20] rfl (N6 a.2.1) b.rd (yR bj ((aq + i * 3) + 1) (N6 a.2.1) zk zf (fun w2 h2 => Rd.later (k := 3) h2 zj bl a0 1 _ rfl)) ?_))
  refine wS 13 18 zk ?_ ?_
  ·skip
   refine yJ 13 rfl ?_ rfl
   refine L_sslice text a.1 a.2.1 underlying9 zk ⟨.i64, zk⟩ ⟨.i64, zk⟩ zo zo (zR ?_)
   refine ⟨rfl, .inr b.rd, wS 14 18 zk ?_ ?_⟩
   ·skip
    refine yJ 14 rfl ?_ rfl
    refine zc (wK (((i + 1) : Nat) : Int) (List.drop a.1 (List.take a.2.1 text)) _ zo) ?_
    rintro _ d8 ⟨bf, rfl, p, a7⟩
    have h := h.tr q
    have p := p.base h.size
    have := scan_err (((i + 1) : Nat) : Int) (List.drop a.1 (List.take a.2.1 text))
    refine zR ?_
    have b := b.below a7
    refine ⟨rfl, .inr b.rd, mp 15 rfl (.tuple #[(Value.agg #[(I6 ((scanF (((i + 1) : Nat) : Int) (List.drop a.1 (List.take a.2.1 text))).1.1)), (U8 ((scanF (((i + 1) : Nat) : Int) (List.drop a.1 (List.take a.2.1 text))).1.2.1)), (S ((scanF (((i + 1) : Nat) : Int) (List.drop a.1 (List.take a.2.1 text))).1.2.2.1)), bf, (S ((scanF (((i + 1) : Nat) : Int) (List.drop a.1 (List.take a.2.1 text))).1.2.2.2.2))]), (I6 ((scanF (((i + 1) : Nat) : Int) (List.drop a.1 (List.take a.2.1 text))).2))]) (.inr b.rd) zg (mp 16 rfl (Value.agg #[(I6 ((scanF (((i + 1) : Nat) : Int) (List.drop a.1 (List.take a.2.1 text))).1.1)), (U8 ((scanF (((i + 1) : Nat) : Int) (List.drop a.1 (List.take a.2.1 text))).1.2.1)), (S ((scanF (((i + 1) : Nat) : Int) (List.drop a.1 (List.take a.2.1 text))).1.2.2.1)), bf, (S ((scanF (((i + 1) : Nat) : Int) (List.drop a.1 (List.take a.2.1 text))).1.2.2.2.2))]) (.inr b.rd) zg (mp 17 rfl (I6 ((scanF (((i + 1) : Nat) : Int) (List.drop a.1 (List.take a.2.1 text))).2)) (.inr b.rd) zg (yD 18 zk (yJ 18 rfl ?_ rfl))))⟩
    refine zN [(I6 0), (U8 0), (S []), (.slice none 0 0), (S [])] 90 ?_
    intro co dn ab
    have h := h.tr a7
    have ac := ab.ge h.size
    have g := ab.here
    refine zR ?_
    have b := b.below ab.below
    refine ⟨rfl, .inr b.rd, yD 19 zk (yJ 19 rfl ?_ rfl)⟩
    have p := p.below ab.below
    refine xP co 0 [(I6 ((scanF (((i + 1) : Nat) : Int) (List.drop a.1 (List.take a.2.1 text))).1.1)), (U8 ((scanF (((i + 1) : Nat) : Int) (List.drop a.1 (List.take a.2.1 text))).1.2.1)), (S ((scanF (((i + 1) : Nat) : Int) (List.drop a.1 (List.take a.2.1 text))).1.2.2.1)), bf, (S ((scanF (((i + 1) : Nat) : Int) (List.drop a.1 (List.take a.2.1 text))).1.2.2.2.2))] [(I6 0), (U8 0), (S []), (.slice none 0 0), (S [])] [(I6 ((scanF (((i + 1) : Nat) : Int) (List.drop a.1 (List.take a.2.1 text))).1.1)), (U8 ((scanF (((i + 1) : Nat) : Int) (List.drop a.1 (List.take a.2.1 text))).1.2.1)), (S ((scanF (((i + 1) : Nat) : Int) (List.drop a.1 (List.take a.2.1 text))).1.2.2.1)), bf, (S ((scanF (((i + 1) : Nat) : Int) (List.drop a.1 (List.take a.2.1 text))).1.2.2.2.2))] 90 zk zk (xC rfl (xC rfl (xC rfl (xC p.one (xC rfl rfl))))) zk g zk rfl ?_
    intro d4 ae
    have b := b.wrote ae (b.ne g zi)
    have c := ((c.below q).below a7).below ab.below
    have c := c.wrote ae (c.ne g zi)
    have d := ((d.below q).below a7).below ab.below
    have d := d.wrote ae (d.ne g zi)
    have p := p.wrote ae (p.ne g zi)
    have g := ae.here
    refine zR ?_
    refine ⟨rfl, .inl zk, mp 20 rfl (I6 ((scanF (((i + 1) : Nat) : Int) (List.drop a.1 (List.take a.2.1 text))).2)) (.inl zk) zg (yO zk (zB (zY (wR (zD (zNe .i64 ((scanF (((i + 1) : Nat) : Int) (List.drop a.1 (List.take a.2.1 text))).2) 0 ?_ ?_))))))⟩
    ·intro b3
     exfalso; (rw [pr_scan i3 za b3] at hok; exact b3 hok)
    intro d9
    refine nQ (zF (zK (zB (zY (wR (uF 1 g rfl (qA .u8 ((scanF (((i + 1) : Nat) : Int) (List.drop a.1 (List.take a.2.1 text))).1.2.1) 2 ?_ ?_)))))))
    ·intro cp
     exfalso; (rw [uG i3 za za cp] at hok; cases hok)
    intro dq
    refine nQ (zF (zK (zB (zY (wR (uF 1 g rfl (zNe .u8 ((scanF (((i + 1) : Nat) : Int) (List.drop a.1 (List.take a.2.1 text))).1.2.1) 1 ?_ ?_)))))))
    ·intro dv
     refine nQ (zT (yH (zL (yB (zB (zQ (zD (xL i 1 (zG (zR ?_))))))))))
     have h := (h.tr ab.below).trans (ae.below ac)
     refine zB ⟨_, zo, (i + 1), l, aa, ak, ap, rfl, a2, zk, b, c, d, h, zo, zo, zo, ?_, ?_⟩
     ·exact pr_skip i3 za za za za
     first | exact i4 | assumption
    intro d1
    refine nQ (zF (zK (zB (wR (zOW g (zc (c_Row8 ((scanF (((i + 1) : Nat) : Int) (List.drop a.1 (List.take a.2.1 text))).1.1) ((scanF (((i + 1) : Nat) : Int) (List.drop a.1 (List.take a.2.1 text))).1.2.1) ((scanF (((i + 1) : Nat) : Int) (List.drop a.1 (List.take a.2.1 text))).1.2.2.1) bf ((scanF (((i + 1) : Nat) : Int) (List.drop a.1 (List.take a.2.1 text))).1.2.2.2.1) ((scanF (((i + 1) : Nat) : Int) (List.drop a.1 (List.take a.2.1 text))).1.2.2.2.2) _ p.rd (by first | exact (by assumption : _ ∧ _).1) zo) ?_))))))
    rintro _ dt ⟨rfl, a8⟩
    refine zD (zr (Value.agg #[(I3 ((rowR ((scanF (((i + 1) : Nat) : Int) (List.drop a.1 (List.take a.2.1 text))).1.2.2.2.1)).1.1)), (I3 ((rowR ((scanF (((i + 1) : Nat) : Int) (List.drop a.1 (List.take a.2.1 text))).1.2.2.2.1)).1.2.1)), (U8 ((rowR ((scanF (((i + 1) : Nat) : Int) (List.drop a.1 (List.take a.2.1 text))).1.2.2.2.1)).1.2.2))]) (zr (I6 ((rowR ((scanF (((i + 1) : Nat) : Int) (List.drop a.1 (List.take a.2.1 text))).1.2.2.2.1)).2)) (zN [(I3 0), (I3 0), (U8 0)] 26 ?_)))
    intro du dw ag
    have h := ((h.tr ab.below).trans (ae.below ac)).tr a8
    have ai := ag.ge h.size
    have c := c.below a8
    have e := c.new_ne ag
    have j := ag.here
    refine wG [(I3 ((rowR ((scanF (((i + 1) : Nat) : Int) (List.drop a.1 (List.take a.2.1 text))).1.2.2.2.1)).1.1)), (I3 ((rowR ((scanF (((i + 1) : Nat) : Int) (List.drop a.1 (List.take a.2.1 text))).1.2.2.2.1)).1.2.1)), (U8 ((rowR ((scanF (((i + 1) : Nat) : Int) (List.drop a.1 (List.take a.2.1 text))).1.2.2.2.1)).1.2.2))] j ?_
    intro dp az
    have b := (b.below a8).below ag.below
    have b := b.wrote az (b.ne j zi)
    have d := (d.below a8).below ag.below
    have d := d.wrote az (d.ne j zi)
    have j := az.here
    refine zG (nW (wR (zD (zNe .i64 ((rowR ((scanF (((i + 1) : Nat) : Int) (List.drop a.1 (List.take a.2.1 text))).1.2.2.2.1)).2) 0 ?_ ?_))))
    ·intro cb
     exfalso; (rw [pr_row i3 za za za cb] at hok; exact cb hok)
    intro ee
    have h := (h.tr ag.below).trans (az.below ai)
    have c := (c.below ag.below).wrote az e
    refine nQ (zF (zK (zB (wR (zD (zOW j (xW qJ w.heap.size ak l ((rowR ((scanF (((i + 1) : Nat) : Int) (List.drop a.1 (List.take a.2.1 text))).1.2.2.2.1)).1.1, (rowR ((scanF (((i + 1) : Nat) : Int) (List.drop a.1 (List.take a.2.1 text))).1.2.2.2.1)).1.2.1, (rowR ((scanF (((i + 1) : Nat) : Int) (List.drop a.1 (List.take a.2.1 text))).1.2.2.2.1)).1.2.2) h.size c zo zk rfl rfl zk rfl zk zk ?_)))))))
    intro b5 dr b4 bc bw
    have n := wM bw e (yA j)
    have h := h.tg h.size bc c
    have b := b.grown bc (b.apart c zk)
    have d := d.grown bc (d.apart c zk)
    have e := n
    have c := b4
    refine zD (zD (xL i 1 (xW el79 w.heap.size ap aa (((i + 1) : Nat) : Int) h.size d zo zk rfl rfl zk rfl zk zk ?_)))
    intro cv dj bz bd cn
    have h := h.tg h.size bd d
    have b := b.grown bd (b.apart d zk)
    have c := c.grown bd (c.apart d zk)
    have d := bz
    refine zG (zG (nR (zD (zc (c_First8 b5 (l ++ [((rowR ((scanF (((i + 1) : Nat) : Int) (List.drop a.1 (List.take a.2.1 text))).1.2.2.2.1)).1.1, (rowR ((scanF (((i + 1) : Nat) : Int) (List.drop a.1 (List.take a.2.1 text))).1.2.2.2.1)).1.2.1, (rowR ((scanF (((i + 1) : Nat) : Int) (List.drop a.1 (List.take a.2.1 text))).1.2.2.2.1)).1.2.2)]) _ c.rd (by exact cap_row za) (by (simp only [List.length_append, List.length_cons, List.length_nil]; omega))) ?_))))
    rintro _ dh ⟨rfl, a6⟩
    refine zD (zr (N6 (fsI (l ++ [((rowR ((scanF (((i + 1) : Nat) : Int) (List.drop a.1 (List.take a.2.1 text))).1.2.2.2.1)).1.1, (rowR ((scanF (((i + 1) : Nat) : Int) (List.drop a.1 (List.take a.2.1 text))).1.2.2.2.1)).1.2.1, (rowR ((scanF (((i + 1) : Nat) : Int) (List.drop a.1 (List.take a.2.1 text))).1.2.2.2.1)).1.2.2)]))) (zr (I6 (fsE (l ++ [((rowR ((scanF (((i + 1) : Nat) : Int) (List.drop a.1 (List.take a.2.1 text))).1.2.2.2.1)).1.1, (rowR ((scanF (((i + 1) : Nat) : Int) (List.drop a.1 (List.take a.2.1 text))).1.2.2.2.1)).1.2.1, (rowR ((scanF (((i + 1) : Nat) : Int) (List.drop a.1 (List.take a.2.1 text))).1.2.2.2.1)).1.2.2)]))) (zG (nR (zD (zNe .i64 (fsE (l ++ [((rowR ((scanF (((i + 1) : Nat) : Int) (List.drop a.1 (List.take a.2.1 text))).1.2.2.2.1)).1.1, (rowR ((scanF (((i + 1) : Nat) : Int) (List.drop a.1 (List.take a.2.1 text))).1.2.2.2.1)).1.2.1, (rowR ((scanF (((i + 1) : Nat) : Int) (List.drop a.1 (List.take a.2.1 text))).1.2.2.2.1)).1.2.2)])) 0 ?_ ?_))))))
    ·intro b7
     exfalso; (rw [uJ i3 i4 za za za za rfl b7] at hok; exact b7 hok)
    intro dl
    refine nQ (zF (zK (zI (zB (zQ (zD (xL i 1 (zG (zR ?_)))))))))
    have h := h.tr a6
    have c := c.below a6
    have d := d.below a6
    have b := b.below a6
    refine zB ⟨_, zo, (i + 1), (l ++ [((rowR ((scanF (((i + 1) : Nat) : Int) (List.drop a.1 (List.take a.2.1 text))).1.2.2.2.1)).1.1, (rowR ((scanF (((i + 1) : Nat) : Int) (List.drop a.1 (List.take a.2.1 text))).1.2.2.2.1)).1.2.1, (rowR ((scanF (((i + 1) : Nat) : Int) (List.drop a.1 (List.take a.2.1 text))).1.2.2.2.1)).1.2.2)]), (aa ++ [(((i + 1) : Nat) : Int)]), b5, cv, rfl, a2, zk, b, c, d, h, zo, ?_, ?_, ?_, ?_⟩
    ·(simp only [List.length_append, List.length_cons, List.length_nil]; omega)
    ·(simp only [List.length_append, List.length_cons, List.length_nil]; omega)
    ·exact pr_add i3 i4 za za za za rfl za
    first | exact i4 | assumption
   skip
   refine yJ 18 rfl ?_ rfl
   refine zN [(I6 0), (U8 0), (S []), (.slice none 0 0), (S [])] 90 ?_
   intro cs dk al
   have h := h.tr q
   have ac := al.ge h.size
   have g := al.here
   refine zR ?_
   have b := b.below al.below
   refine ⟨rfl, .inr b.rd, yD 14 zk (yJ 14 rfl ?_ rfl)⟩
   refine zc (wK (((i + 1) : Nat) : Int) (List.drop a.1 (List.take a.2.1 text)) _ zo) ?_
   rintro _ d3 ⟨be, rfl, u, am⟩
   have h := h.tr al.below
   have u := u.base h.size
   have := scan_err (((i + 1) : Nat) : Int) (List.drop a.1 (List.take a.2.1 text))
   refine zR ?_
   have b := b.below am
   refine ⟨rfl, .inr b.rd, mp 15 rfl (.tuple #[(Value.agg #[(I6 ((scanF (((i + 1) : Nat) : Int) (List.drop a.1 (List.take a.2.1 text))).1.1)), (U8 ((scanF (((i + 1) : Nat) : Int) (List.drop a.1 (List.take a.2.1 text))).1.2.1)), (S ((scanF (((i + 1) : Nat) : Int) (List.drop a.1 (List.take a.2.1 text))).1.2.2.1)), be, (S ((scanF (((i + 1) : Nat) : Int) (List.drop a.1 (List.take a.2.1 text))).1.2.2.2.2))]), (I6 ((scanF (((i + 1) : Nat) : Int) (List.drop a.1 (List.take a.2.1 text))).2))]) (.inr b.rd) zg (mp 16 rfl (Value.agg #[(I6 ((scanF (((i + 1) : Nat) : Int) (List.drop a.1 (List.take a.2.1 text))).1.1)), (U8 ((scanF (((i + 1) : Nat) : Int) (List.drop a.1 (List.take a.2.1 text))).1.2.1)), (S ((scanF (((i + 1) : Nat) : Int) (List.drop a.1 (List.take a.2.1 text))).1.2.2.1)), be, (S ((scanF (((i + 1) : Nat) : Int) (List.drop a.1 (List.take a.2.1 text))).1.2.2.2.2))]) (.inr b.rd) zg (mp 17 rfl (I6 ((scanF (((i + 1) : Nat) : Int) (List.drop a.1 (List.take a.2.1 text))).2)) (.inr b.rd) zg (yD 19 zk (yJ 19 rfl ?_ rfl))))⟩
   have g := zA g am
   refine xP cs 0 [(I6 ((scanF (((i + 1) : Nat) : Int) (List.drop a.1 (List.take a.2.1 text))).1.1)), (U8 ((scanF (((i + 1) : Nat) : Int) (List.drop a.1 (List.take a.2.1 text))).1.2.1)), (S ((scanF (((i + 1) : Nat) : Int) (List.drop a.1 (List.take a.2.1 text))).1.2.2.1)), be, (S ((scanF (((i + 1) : Nat) : Int) (List.drop a.1 (List.take a.2.1 text))).1.2.2.2.2))] [(I6 0), (U8 0), (S []), (.slice none 0 0), (S [])] [(I6 ((scanF (((i + 1) : Nat) : Int) (List.drop a.1 (List.take a.2.1 text))).1.1)), (U8 ((scanF (((i + 1) : Nat) : Int) (List.drop a.1 (List.take a.2.1 text))).1.2.1)), (S ((scanF (((i + 1) : Nat) : Int) (List.drop a.1 (List.take a.2.1 text))).1.2.2.1)), be, (S ((scanF (((i + 1) : Nat) : Int) (List.drop a.1 (List.take a.2.1 text))).1.2.2.2.2))] 90 zk zk (xC rfl (xC rfl (xC rfl (xC u.one (xC rfl rfl))))) zk g zk rfl ?_
   intro ed ah
   have b := b.wrote ah (b.ne g zi)
   have c := ((c.below q).below al.below).below am
   have c := c.wrote ah (c.ne g zi)
   have d := ((d.below q).below al.below).below am
   have d := d.wrote ah (d.ne g zi)
   have u := u.wrote ah (u.ne g zi)
   have g := ah.here
   refine zR ?_
   refine ⟨rfl, .inl zk, mp 20 rfl (I6 ((scanF (((i + 1) : Nat) : Int) (List.drop a.1 (List.take a.2.1 text))).2)) (.inl zk) zg (yO zk (zB (zY (wR (zD (zNe .i64 ((scanF (((i + 1) : Nat) : Int) (List.drop a.1 (List.take a.2.1 text))).2) 0 ?_ ?_))))))⟩
   ·intro b9
    exfalso; (rw [pr_scan i3 za b9] at hok; exact b9 hok)
   intro dz
   refine nQ (zF (zK (zB (zY (wR (uF 1 g rfl (qA .u8 ((scanF (((i + 1) : Nat) : Int) (List.drop a.1 (List.take a.2.1 text))).1.2.1) 2 ?_ ?_)))))))
   ·intro cr
    exfalso; (rw [uG i3 za za cr] at hok; cases hok)
   intro dm
   refine nQ (zF (zK (zB (zY (wR (uF 1 g rfl (zNe .u8 ((scanF (((i + 1) : Nat) : Int) (List.drop a.1 (List.take a.2.1 text))).1.2.1) 1 ?_ ?_)))))))
   ·intro d2
    refine nQ (zT (yH (zL (yB (zB (zQ (zD (xL i 1 (zG (zR ?_))))))))))
    have h := (h.tr am).trans (ah.below ac)
    refine zB ⟨_, zo, (i + 1), l, aa, ak, ap, rfl, a2, zk, b, c, d, h, zo, zo, zo, ?_, ?_⟩
    ·exact pr_skip i3 za za za za
    first | exact i4 | assumption
   intro dx
   refine nQ (zF (zK (zB (wR (zOW g (zc (c_Row8 ((scanF (((i + 1) : Nat) : Int) (List.drop a.1 (List.take a.2.1 text))).1.1) ((scanF (((i + 1) : Nat) : Int) (List.drop a.1 (List.take a.2.1 text))).1.2.1) ((scanF (((i + 1) : Nat) : Int) (List.drop a.1 (List.take a.2.1 text))).1.2.2.1) be ((scanF (((i + 1) : Nat) : Int) (List.drop a.1 (List.take a.2.1 text))).1.2.2.2.1) ((scanF (((i + 1) : Nat) : Int) (List.drop a.1 (List.take a.2.1 text))).1.2.2.2.2) _ u.rd (by first | exact (by assumption : _ ∧ _).1) zo) ?_))))))
   rintro _ d5 ⟨rfl, a9⟩
   refine zD (zr (Value.agg #[(I3 ((rowR ((scanF (((i + 1) : Nat) : Int) (List.drop a.1 (List.take a.2.1 text))).1.2.2.2.1)).1.1)), (I3 ((rowR ((scanF (((i + 1) : Nat) : Int) (List.drop a.1 (List.take a.2.1 text))).1.2.2.2.1)).1.2.1)), (U8 ((rowR ((scanF (((i + 1) : Nat) : Int) (List.drop a.1 (List.take a.2.1 text))).1.2.2.2.1)).1.2.2))]) (zr (I6 ((rowR ((scanF (((i + 1) : Nat) : Int) (List.drop a.1 (List.take a.2.1 text))).1.2.2.2.1)).2)) (zN [(I3 0), (I3 0), (U8 0)] 26 ?_)))
   intro eb ec aj
   have h := ((h.tr am).trans (ah.below ac)).tr a9
   have ai := aj.ge h.size
   have c := c.below a9
   have e := c.new_ne aj
   have j := aj.here
   refine wG [(I3 ((rowR ((scanF (((i + 1) : Nat) : Int) (List.drop a.1 (List.take a.2.1 text))).1.2.2.2.1)).1.1)), (I3 ((rowR ((scanF (((i + 1) : Nat) : Int) (List.drop a.1 (List.take a.2.1 text))).1.2.2.2.1)).1.2.1)), (U8 ((rowR ((scanF (((i + 1) : Nat) : Int) (List.drop a.1 (List.take a.2.1 text))).1.2.2.2.1)).1.2.2))] j ?_
   intro di ay
   have b := (b.below a9).below aj.below
   have b := b.wrote ay (b.ne j zi)
   have d := (d.below a9).below aj.below
   have d := d.wrote ay (d.ne j zi)
   have j := ay.here
   refine zG (nW (wR (zD (zNe .i64 ((rowR ((scanF (((i + 1) : Nat) : Int) (List.drop a.1 (List.take a.2.1 text))).1.2.2.2.1)).2) 0 ?_ ?_))))
   ·intro ch
    exfalso; (rw [pr_row i3 za za za ch] at hok; exact ch hok)
   intro d0
   have h := (h.tr aj.below).trans (ay.below ai)
   have c := (c.below aj.below).wrote ay e
   refine nQ (zF (zK (zB (wR (zD (zOW j (xW qJ w.heap.size ak l ((rowR ((scanF (((i + 1) : Nat) : Int) (List.drop a.1 (List.take a.2.1 text))).1.2.2.2.1)).1.1, (rowR ((scanF (((i + 1) : Nat) : Int) (List.drop a.1 (List.take a.2.1 text))).1.2.2.2.1)).1.2.1, (rowR ((scanF (((i + 1) : Nat) : Int) (List.drop a.1 (List.take a.2.1 text))).1.2.2.2.1)).1.2.2) h.size c zo zk rfl rfl zk rfl zk zk ?_)))))))
   intro b0 dy ce bg bx
   have n := wM bx e (yA j)
   have h := h.tg h.size bg c
   have b := b.grown bg (b.apart c zk)
   have d := d.grown bg (d.apart c zk)
   have e := n
   have c := ce
   refine zD (zD (xL i 1 (xW el79 w.heap.size ap aa (((i + 1) : Nat) : Int) h.size d zo zk rfl rfl zk rfl zk zk ?_)))
   intro cm d7 cf bb ct
   have h := h.tg h.size bb d
   have b := b.grown bb (b.apart d zk)
   have c := c.grown bb (c.apart d zk)
   have d := cf
   refine zG (zG (nR (zD (zc (c_First8 b0 (l ++ [((rowR ((scanF (((i + 1) : Nat) : Int) (List.drop a.1 (List.take a.2.1 text))).1.2.2.2.1)).1.1, (rowR ((scanF (((i + 1) : Nat) : Int) (List.drop a.1 (List.take a.2.1 text))).1.2.2.2.1)).1.2.1, (rowR ((scanF (((i + 1) : Nat) : Int) (List.drop a.1 (List.take a.2.1 text))).1.2.2.2.1)).1.2.2)]) _ c.rd (by exact cap_row za) (by (simp only [List.length_append, List.length_cons, List.length_nil]; omega))) ?_))))
   rintro _ d6 ⟨rfl, a5⟩
   refine zD (zr (N6 (fsI (l ++ [((rowR ((scanF (((i + 1) : Nat) : Int) (List.drop a.1 (List.take a.2.1 text))).1.2.2.2.1)).1.1, (rowR ((scanF (((i + 1) : Nat) : Int) (List.drop a.1 (List.take a.2.1 text))).1.2.2.2.1)).1.2.1, (rowR ((scanF (((i + 1) : Nat) : Int) (List.drop a.1 (List.take a.2.1 text))).1.2.2.2.1)).1.2.2)]))) (zr (I6 (fsE (l ++ [((rowR ((scanF (((i + 1) : Nat) : Int) (List.drop a.1 (List.take a.2.1 text))).1.2.2.2.1)).1.1, (rowR ((scanF (((i + 1) : Nat) : Int) (List.drop a.1 (List.take a.2.1 text))).1.2.2.2.1)).1.2.1, (rowR ((scanF (((i + 1) : Nat) : Int) (List.drop a.1 (List.take a.2.1 text))).1.2.2.2.1)).1.2.2)]))) (zG (nR (zD (zNe .i64 (fsE (l ++ [((rowR ((scanF (((i + 1) : Nat) : Int) (List.drop a.1 (List.take a.2.1 text))).1.2.2.2.1)).1.1, (rowR ((scanF (((i + 1) : Nat) : Int) (List.drop a.1 (List.take a.2.1 text))).1.2.2.2.1)).1.2.1, (rowR ((scanF (((i + 1) : Nat) : Int) (List.drop a.1 (List.take a.2.1 text))).1.2.2.2.1)).1.2.2)])) 0 ?_ ?_))))))
   ·intro bq
    exfalso; (rw [uJ i3 i4 za za za za rfl bq] at hok; exact bq hok)
   intro c9
   refine nQ (zF (zK (zI (zB (zQ (zD (xL i 1 (zG (zR ?_)))))))))
   have h := h.tr a5
   have c := c.below a5
   have d := d.below a5
   have b := b.below a5
   refine zB ⟨_, zo, (i + 1), (l ++ [((rowR ((scanF (((i + 1) : Nat) : Int) (List.drop a.1 (List.take a.2.1 text))).1.2.2.2.1)).1.1, (rowR ((scanF (((i + 1) : Nat) : Int) (List.drop a.1 (List.take a.2.1 text))).1.2.2.2.1)).1.2.1, (rowR ((scanF (((i + 1) : Nat) : Int) (List.drop a.1 (List.take a.2.1 text))).1.2.2.2.1)).1.2.2)]), (aa ++ [(((i + 1) : Nat) : Int)]), b0, cm, rfl, a2, zk, b, c, d, h, zo, ?_, ?_, ?_, ?_⟩
   ·(simp only [List.length_append, List.length_cons, List.length_nil]; omega)
   ·(simp only [List.length_append, List.length_cons, List.length_nil]; omega)
   ·exact pr_add i3 i4 za za za za rfl za
   first | exact i4 | assumption
  skip
  refine yJ 18 rfl ?_ rfl
  refine zN [(I6 0), (U8 0), (S []), (.slice none 0 0), (S [])] 90 ?_
  intro b6 df y
  have h := h.tr q
  have ac := y.ge h.size
  have g := y.here
  refine zR ?_
  have b := b.below y.below
  refine ⟨rfl, .inr b.rd, yD 13 zk (yJ 13 rfl ?_ rfl)⟩
  refine L_sslice text a.1 a.2.1 underlying9 zk ⟨.i64, zk⟩ ⟨.i64, zk⟩ zo zo (zR ?_)
  refine ⟨rfl, .inr b.rd, yD 14 zk (yJ 14 rfl ?_ rfl)⟩
  refine zc (wK (((i + 1) : Nat) : Int) (List.drop a.1 (List.take a.2.1 text)) _ zo) ?_
  rintro _ cy ⟨ax, rfl, o, z⟩
  have h := h.tr y.below
  have o := o.base h.size
  have := scan_err (((i + 1) : Nat) : Int) (List.drop a.1 (List.take a.2.1 text))
  refine zR ?_
  have b := b.below z
  refine ⟨rfl, .inr b.rd, mp 15 rfl (.tuple #[(Value.agg #[(I6 ((scanF (((i + 1) : Nat) : Int) (List.drop a.1 (List.take a.2.1 text))).1.1)), (U8 ((scanF (((i + 1) : Nat) : Int) (List.drop a.1 (List.take a.2.1 text))).1.2.1)), (S ((scanF (((i + 1) : Nat) : Int) (List.drop a.1 (List.take a.2.1 text))).1.2.2.1)), ax, (S ((scanF (((i + 1) : Nat) : Int) (List.drop a.1 (List.take a.2.1 text))).1.2.2.2.2))]), (I6 ((scanF (((i + 1) : Nat) : Int) (List.drop a.1 (List.take a.2.1 text))).2))]) (.inr b.rd) zg (mp 16 rfl (Value.agg #[(I6 ((scanF (((i + 1) : Nat) : Int) (List.drop a.1 (List.take a.2.1 text))).1.1)), (U8 ((scanF (((i + 1) : Nat) : Int) (List.drop a.1 (List.take a.2.1 text))).1.2.1)), (S ((scanF (((i + 1) : Nat) : Int) (List.drop a.1 (List.take a.2.1 text))).1.2.2.1)), ax, (S ((scanF (((i + 1) : Nat) : Int) (List.drop a.1 (List.take a.2.1 text))).1.2.2.2.2))]) (.inr b.rd) zg (mp 17 rfl (I6 ((scanF (((i + 1) : Nat) : Int) (List.drop a.1 (List.take a.2.1 text))).2)) (.inr b.rd) zg (yD 19 zk (yJ 19 rfl ?_ rfl))))⟩
  have g := zA g z
  refine xP b6 0 [(I6 ((scanF (((i + 1) : Nat) : Int) (List.drop a.1 (List.take a.2.1 text))).1.1)), (U8 ((scanF (((i + 1) : Nat) : Int) (List.drop a.1 (List.take a.2.1 text))).1.2.1)), (S ((scanF (((i + 1) : Nat) : Int) (List.drop a.1 (List.take a.2.1 text))).1.2.2.1)), ax, (S ((scanF (((i + 1) : Nat) : Int) (List.drop a.1 (List.take a.2.1 text))).1.2.2.2.2))] [(I6 0), (U8 0), (S []), (.slice none 0 0), (S [])] [(I6 ((scanF (((i + 1) : Nat) : Int) (List.drop a.1 (List.take a.2.1 text))).1.1)), (U8 ((scanF (((i + 1) : Nat) : Int) (List.drop a.1 (List.take a.2.1 text))).1.2.1)), (S ((scanF (((i + 1) : Nat) : Int) (List.drop a.1 (List.take a.2.1 text))).1.2.2.1)), ax, (S ((scanF (((i + 1) : Nat) : Int) (List.drop a.1 (List.take a.2.1 text))).1.2.2.2.2))] 90 zk zk (xC rfl (xC rfl (xC rfl (xC o.one (xC rfl rfl))))) zk g zk rfl ?_
  intro c0 t
  have b := b.wrote t (b.ne g zi)
  have c := ((c.below q).below y.below).below z
  have c := c.wrote t (c.ne g zi)
  have d := ((d.below q).below y.below).below z
  have d := d.wrote t (d.ne g zi)
  have o := o.wrote t (o.ne g zi)
  have g := t.here
  refine zR ?_
  refine ⟨rfl, .inl zk, mp 20 rfl (I6 ((scanF (((i + 1) : Nat) : Int) (List.drop a.1 (List.take a.2.1 text))).2)) (.inl zk) zg (yO zk (zB (zY (wR (zD (zNe .i64 ((scanF (((i + 1) : Nat) : Int) (List.drop a.1 (List.take a.2.1 text))).2) 0 ?_ ?_))))))⟩
  ·intro bm
   exfalso; (rw [pr_scan i3 za bm] at hok; exact bm hok)
  intro de
  refine nQ (zF (zK (zB (zY (wR (uF 1 g rfl (qA .u8 ((scanF (((i + 1) : Nat) : Int) (List.drop a.1 (List.take a.2.1 text))).1.2.1) 2 ?_ ?_)))))))
  ·intro b8
   exfalso; (rw [uG i3 za za b8] at hok; cases hok)
  intro dc
  refine nQ (zF (zK (zB (zY (wR (uF 1 g rfl (zNe .u8 ((scanF (((i + 1) : Nat) : Int) (List.drop a.1 (List.take a.2.1 text))).1.2.1) 1 ?_ ?_)))))))
  ·intro dg
   refine nQ (zT (yH (zL (yB (zB (zQ (zD (xL i 1 (zG (zR ?_))))))))))
   have h := (h.tr z).trans (t.below ac)
   refine zB ⟨_, zo, (i + 1), l, aa, ak, ap, rfl, a2, zk, b, c, d, h, zo, zo, zo, ?_, ?_⟩
   ·exact pr_skip i3 za za za za
   first | exact i4 | assumption
  intro c3
  refine nQ (zF (zK (zB (wR (zOW g (zc (c_Row8 ((scanF (((i + 1) : Nat) : Int) (List.drop a.1 (List.take a.2.1 text))).1.1) ((scanF (((i + 1) : Nat) : Int) (List.drop a.1 (List.take a.2.1 text))).1.2.1) ((scanF (((i + 1) : Nat) : Int) (List.drop a.1 (List.take a.2.1 text))).1.2.2.1) ax ((scanF (((i + 1) : Nat) : Int) (List.drop a.1 (List.take a.2.1 text))).1.2.2.2.1) ((scanF (((i + 1) : Nat) : Int) (List.drop a.1 (List.take a.2.1 text))).1.2.2.2.2) _ o.rd (by first | exact (by assumption : _ ∧ _).1) zo) ?_))))))
  rintro _ c8 ⟨rfl, ar⟩
  refine zD (zr (Value.agg #[(I3 ((rowR ((scanF (((i + 1) : Nat) : Int) (List.drop a.1 (List.take a.2.1 text))).1.2.2.2.1)).1.1)), (I3 ((rowR ((scanF (((i + 1) : Nat) : Int) (List.drop a.1 (List.take a.2.1 text))).1.2.2.2.1)).1.2.1)), (U8 ((rowR ((scanF (((i + 1) : Nat) : Int) (List.drop a.1 (List.take a.2.1 text))).1.2.2.2.1)).1.2.2))]) (zr (I6 ((rowR ((scanF (((i + 1) : Nat) : Int) (List.drop a.1 (List.take a.2.1 text))).1.2.2.2.1)).2)) (zN [(I3 0), (I3 0), (U8 0)] 26 ?_)))
  intro c4 cx r
  have h := ((h.tr z).trans (t.below ac)).tr ar
  have ai := r.ge h.size
  have c := c.below ar
  have e := c.new_ne r
  have j := r.here
  refine wG [(I3 ((rowR ((scanF (((i + 1) : Nat) : Int) (List.drop a.1 (List.take a.2.1 text))).1.2.2.2.1)).1.1)), (I3 ((rowR ((scanF (((i + 1) : Nat) : Int) (List.drop a.1 (List.take a.2.1 text))).1.2.2.2.1)).1.2.1)), (U8 ((rowR ((scanF (((i + 1) : Nat) : Int) (List.drop a.1 (List.take a.2.1 text))).1.2.2.2.1)).1.2.2))] j ?_
  intro c7 ad
  have b := (b.below ar).below r.below
  have b := b.wrote ad (b.ne j zi)
  have d := (d.below ar).below r.below
  have d := d.wrote ad (d.ne j zi)
  have j := ad.here
  refine zG (nW (wR (zD (zNe .i64 ((rowR ((scanF (((i + 1) : Nat) : Int) (List.drop a.1 (List.take a.2.1 text))).1.2.2.2.1)).2) 0 ?_ ?_))))
  ·intro br
   exfalso; (rw [pr_row i3 za za za br] at hok; exact br hok)
  intro c1
  have h := (h.tr r.below).trans (ad.below ai)
  have c := (c.below r.below).wrote ad e
  refine nQ (zF (zK (zB (wR (zD (zOW j (xW qJ w.heap.size ak l ((rowR ((scanF (((i + 1) : Nat) : Int) (List.drop a.1 (List.take a.2.1 text))).1.2.2.2.1)).1.1, (rowR ((scanF (((i + 1) : Nat) : Int) (List.drop a.1 (List.take a.2.1 text))).1.2.2.2.1)).1.2.1, (rowR ((scanF (((i + 1) : Nat) : Int) (List.drop a.1 (List.take a.2.1 text))).1.2.2.2.1)).1.2.2) h.size c zo zk rfl rfl zk rfl zk zk ?_)))))))
  intro bp c2 bt a3 bi
  have n := wM bi e (yA j)
  have h := h.tg h.size a3 c
  have b := b.grown a3 (b.apart c zk)
  have d := d.grown a3 (d.apart c zk)
  have e := n
  have c := bt
  refine zD (zD (xL i 1 (xW el79 w.heap.size ap aa (((i + 1) : Nat) : Int) h.size d zo zk rfl rfl zk rfl zk zk ?_)))
  intro b2 db bv a4 cj
  have h := h.tg h.size a4 d
  have b := b.grown a4 (b.apart d zk)
  have c := c.grown a4 (c.apart d zk)
  have d := bv
  refine zG (zG (nR (zD (zc (c_First8 bp (l ++ [((rowR ((scanF (((i + 1) : Nat) : Int) (List.drop a.1 (List.take a.2.1 text))).1.2.2.2.1)).1.1, (rowR ((scanF (((i + 1) : Nat) : Int) (List.drop a.1 (List.take a.2.1 text))).1.2.2.2.1)).1.2.1, (rowR ((scanF (((i + 1) : Nat) : Int) (List.drop a.1 (List.take a.2.1 text))).1.2.2.2.1)).1.2.2)]) _ c.rd (by exact cap_row za) (by (simp only [List.length_append, List.length_cons, List.length_nil]; omega))) ?_))))
  rintro _ cz ⟨rfl, aw⟩
  refine zD (zr (N6 (fsI (l ++ [((rowR ((scanF (((i + 1) : Nat) : Int) (List.drop a.1 (List.take a.2.1 text))).1.2.2.2.1)).1.1, (rowR ((scanF (((i + 1) : Nat) : Int) (List.drop a.1 (List.take a.2.1 text))).1.2.2.2.1)).1.2.1, (rowR ((scanF (((i + 1) : Nat) : Int) (List.drop a.1 (List.take a.2.1 text))).1.2.2.2.1)).1.2.2)]))) (zr (I6 (fsE (l ++ [((rowR ((scanF (((i + 1) : Nat) : Int) (List.drop a.1 (List.take a.2.1 text))).1.2.2.2.1)).1.1, (rowR ((scanF (((i + 1) : Nat) : Int) (List.drop a.1 (List.take a.2.1 text))).1.2.2.2.1)).1.2.1, (rowR ((scanF (((i + 1) : Nat) : Int) (List.drop a.1 (List.take a.2.1 text))).1.2.2.2.1)).1.2.2)]))) (zG (nR (zD (zNe .i64 (fsE (l ++ [((rowR ((scanF (((i + 1) : Nat) : Int) (List.drop a.1 (List.take a.2.1 text))).1.2.2.2.1)).1.1, (rowR ((scanF (((i + 1) : Nat) : Int) (List.drop a.1 (List.take a.2.1 text))).1.2.2.2.1)).1.2.1, (rowR ((scanF (((i + 1) : Nat) : Int) (List.drop a.1 (List.take a.2.1 text))).1.2.2.2.1)).1.2.2)])) 0 ?_ ?_))))))
  ·intro bo
   exfalso; (rw [uJ i3 i4 za za za za rfl bo] at hok; exact bo hok)
  intro da
  refine nQ (zF (zK (zI (zB (zQ (zD (xL i 1 (zG (zR ?_)))))))))
  have h := h.tr aw
  have c := c.below aw
  have d := d.below aw
  have b := b.below aw
  refine zB ⟨_, zo, (i + 1), (l ++ [((rowR ((scanF (((i + 1) : Nat) : Int) (List.drop a.1 (List.take a.2.1 text))).1.2.2.2.1)).1.1, (rowR ((scanF (((i + 1) : Nat) : Int) (List.drop a.1 (List.take a.2.1 text))).1.2.2.2.1)).1.2.1, (rowR ((scanF (((i + 1) : Nat) : Int) (List.drop a.1 (List.take a.2.1 text))).1.2.2.2.1)).1.2.2)]), (aa ++ [(((i + 1) : Nat) : Int)]), bp, b2, rfl, a2, zk, b, c, d, h, zo, ?_, ?_, ?_, ?_⟩
  ·(simp only [List.length_append, List.length_cons, List.length_nil]; omega)
  ·(simp only [List.length_append, List.length_cons, List.length_nil]; omega)
  ·exact pr_add i3 i4 za za za za rfl za
  first | exact i4 | assumption
 intro cw
 refine nQ (zF (yH (zL (zL (yB (zB (wR (zD ?_))))))))
 by_cases bs : newB l = none
 ·skip
  refine zc (c_New8_ok ak l _ c.rd (by exact cap_row za) (by exact book_len (newB_ok za)) zo) ?_
  rintro _ c6 ⟨ca, cc, a1, rfl, au, ao, bh, af, bu⟩
  replace af := Nat.le_trans h.size af
  have au := au.base h.size
  have ao := ao.base h.size
  have h := h.tr bu
  exact zD (zr (pt a1 0) (zr (I6 0) (zr (I6 0) (zG (zG (zG (nW (wR (zD (zr (.bool false) (nQ (zF (zK (zB (wR (zD (zG (zG (zG (nQ (zS (yC [(pt a1 0), (I6 0), (I6 0)] (hd := a2) ⟨ca, cc, a1, rfl, au.cast (by (rw [pr_new i3 zo za]; done)), ao, bh, af, h⟩))))))))))))))))))))))
 skip
 exfalso; exact pr_nob i3 i4 zo bs hok
end Go.Proofs.YtddnhlobnembaaaGreatDoor
end

/- === As === -/
section
/- errors.As at a target of type **api.Fault, by its own text: turned to this seat out of the worked example by my program asgen.py. -/
namespace Go.Proofs.YtddnhlobnembaaaGreatDoor
open Go Go.RowKit Go.Extern.Stop Go.Stop Go.Extern Go.FK
theorem As.valueOf27 (t : Addr) (w : World) : (ReflectliteValue.unpack (.iface 114 (.pointer (some t)))).run Tryz.prog w
  = .ok (.agg #[.pointer (some ⟨7, 114, none⟩), .pointer (some ⟨w.heap.size, 0, none⟩), .int .u64 150]) (w.alloc (.cells #[.pointer (some t)] 114)) := by kernel_rfl
theorem As.type27 (a : Addr) (w : World) : (ReflectliteValue.methodAny (ReflectliteValue.valueError "reflectlite.Value.Type" 0) (fun t _ _ _ => ReflectliteType.toType t) #[.agg #[.pointer (some ⟨7, 114, none⟩), .pointer (some a), .int .u64 150]]).run Tryz.prog w
  = .ok (.iface 180 (.agg #[.pointer (some ⟨7, 114, none⟩)])) w := by kernel_rfl
theorem As.methodKind (h : Value) (w : World) : (Go.method 387 180 (.agg #[h]) "Kind").run Tryz.prog w = .ok (182, h) w := by kernel_rfl
theorem As.kind27 (w : World) : ((ReflectliteType.abiMethod fun t => (fun a : Nat => Value.int IntKind.u8 (a : Int)) <$> Rtype.kind t) #[.pointer (some ⟨7, 114, none⟩)]).run Tryz.prog w = .ok (.int .u8 22) w := by kernel_rfl
theorem As.kind25 (w : World) : ((ReflectliteType.abiMethod fun t => (fun a : Nat => Value.int IntKind.u8 (a : Int)) <$> Rtype.kind t) #[.pointer (some ⟨7, 83, none⟩)]).run Tryz.prog w = .ok (.int .u8 22) w := by kernel_rfl
theorem rlm (z : Sem Value) (f : TypeId → Addr → Nat → Nat → Sem Value) (v : Value) :
  ReflectliteValue.method z f #[v] = (do match ← ReflectliteValue.parts v with | none => z | some (t, a, fl) => f t a fl (fl % 32)) := rfl
theorem As.parts27 (a : Addr) (w : World) : (ReflectliteValue.parts (.agg #[.pointer (some ⟨7, 114, none⟩), .pointer (some a), .int .u64 150])).run Tryz.prog w = .ok (some (114, a, 150)) w := by kernel_rfl
theorem As.isNil27 (a p : Addr) (W : World) (ha : W.cell? a = some (.pointer (some p))) :
  (ReflectliteValue.method (ReflectliteValue.valueError "reflectlite.Value.IsNil" 0) ReflectliteValue.isNil #[.agg #[.pointer (some ⟨7, 114, none⟩), .pointer (some a), .int .u64 150]]).run Tryz.prog W = .ok (.bool false) W := by
 rw [rlm]
 simp only [Sem.run_bind, As.parts27, Result.andThen]
 simp [ReflectliteValue.isNil, loadVar, isAgg, underlying, Tryz.underlying114, ha, Result.andThen]
theorem As.methodElem (h : Value) (w : World) : (Go.method 387 180 (.agg #[h]) "Elem").run Tryz.prog w = .ok (208, .agg #[h]) w := by kernel_rfl
theorem As.methodImplements (h : Value) (w : World) : (Go.method 387 180 (.agg #[h]) "Implements").run Tryz.prog w = .ok (209, .agg #[h]) w := by kernel_rfl
theorem As.methodAssignableTo (h : Value) (w : World) : (Go.method 387 180 (.agg #[h]) "AssignableTo").run Tryz.prog w = .ok (206, .agg #[h]) w := by kernel_rfl
theorem As.elem27 (w : World) : (ReflectliteType.method ReflectliteType.elem #[.agg #[.pointer (some ⟨7, 114, none⟩)]]).run Tryz.prog w = .ok (.iface 180 (.agg #[.pointer (some ⟨7, 83, none⟩)])) w := by kernel_rfl
theorem As.implements25 (w : World) : (ReflectliteType.relation "Implements" ReflectliteType.implements_ #[.agg #[.pointer (some ⟨7, 83, none⟩)], .iface 180 (.agg #[.pointer (some ⟨7, 39, none⟩)])]).run Tryz.prog w = .ok (.bool true) w := by kernel_rfl
theorem As.typeOf25 (v : Value) (w : World) : (ReflectliteType.typeOf #[.iface 83 v]).run Tryz.prog w = .ok (.iface 180 (.agg #[.pointer (some ⟨7, 83, none⟩)])) w := by kernel_rfl
theorem As.assignable25 (w : World) : (ReflectliteType.relation "AssignableTo" ReflectliteType.assignableTo #[.agg #[.pointer (some ⟨7, 83, none⟩)], .iface 180 (.agg #[.pointer (some ⟨7, 83, none⟩)])]).run Tryz.prog w = .ok (.bool true) w := by kernel_rfl
theorem As.valueOf25 (e : Addr) (w : World) : (ReflectliteValue.unpack (.iface 83 (.pointer (some e)))).run Tryz.prog w
  = .ok (.agg #[.pointer (some ⟨7, 83, none⟩), .pointer (some ⟨w.heap.size, 0, none⟩), .int .u64 150]) (w.alloc (.cells #[.pointer (some e)] 83)) := by kernel_rfl
theorem As.elemOf27 (w : World) : (Rtype.elem? 114).run Tryz.prog w = .ok (some 83) w := by kernel_rfl
theorem As.mk25 (p : Addr) (w : World) : (ReflectliteValue.mk 83 p ReflectliteValue.flagAddr).run Tryz.prog w = .ok (.agg #[.pointer (some ⟨7, 83, none⟩), .pointer (some p), .int .u64 406]) w := by kernel_rfl
theorem As.elemV27 (a p : Addr) (W : World) (ha : W.cell? a = some (.pointer (some p))) :
  (ReflectliteValue.method (ReflectliteValue.valueError "reflectlite.Value.Elem" 0) ReflectliteValue.elem #[.agg #[.pointer (some ⟨7, 114, none⟩), .pointer (some a), .int .u64 150]]).run Tryz.prog W
   = .ok (.agg #[.pointer (some ⟨7, 83, none⟩), .pointer (some p), .int .u64 406]) W := by
 rw [rlm]
 simp only [Sem.run_bind, As.parts27, Result.andThen]
 simp [ReflectliteValue.elem, loadVar, isAgg, underlying, Tryz.underlying114, ha, Result.andThen, As.elemOf27, As.mk25]
theorem rls (v x : Value) : ReflectliteValue.set #[v, x] = (do
  let (some (dst, a, fl), some (src, b, _)) := (← ReflectliteValue.parts v, ← ReflectliteValue.parts x)
   | unsupported (.noEntry "extern/(internal/reflectlite.Value).Set.zeroValue")
  if fl / ReflectliteValue.flagAddr % 2 == 0 then unsupported (.noEntry "extern/(internal/reflectlite.Value).Set.unaddressable")
  let val ← loadVar src b
  if ← Rtype.directlyAssignable dst src then storeVar dst a val
  else if ← Rtype.implements dst src then
   if (← Rtype.kind src) == 20 then
    match val with
    | .nilIface => unsupported (.noEntry "extern/reflectlite: a nil value of one interface type handed on as a value of another")
    | _ => storeVar dst a val
   else storeVar dst a (.iface src val)
  else panicString ("reflectlite.Set: value of type " ++ (← Rtype.spelt src) ++ " is not assignable to type " ++ (← Rtype.spelt dst))
  pure (.tuple #[])) := rfl
theorem As.parts25a (a : Addr) (w : World) : (ReflectliteValue.parts (.agg #[.pointer (some ⟨7, 83, none⟩), .pointer (some a), .int .u64 406])).run Tryz.prog w = .ok (some (83, a, 406)) w := by kernel_rfl
theorem As.parts25 (a : Addr) (w : World) : (ReflectliteValue.parts (.agg #[.pointer (some ⟨7, 83, none⟩), .pointer (some a), .int .u64 150])).run Tryz.prog w = .ok (some (83, a, 150)) w := by kernel_rfl
theorem As.direct25 (w : World) : (Rtype.directlyAssignable 83 83).run Tryz.prog w = .ok true w := by kernel_rfl
theorem As.set25 (ta b e : Addr) (old : Value) (W : World) (hb : W.cell? b = some (.pointer (some e))) (ht : W.cell? ta = some old) (hf : W.frozen? ta = false) :
  (ReflectliteValue.set #[.agg #[.pointer (some ⟨7, 83, none⟩), .pointer (some ta), .int .u64 406], .agg #[.pointer (some ⟨7, 83, none⟩), .pointer (some b), .int .u64 150]]).run Tryz.prog W
   = .ok (.tuple #[]) (W.setCell ta (.pointer (some e))) := by
 rw [rls]
 simp only [Sem.run_bind, As.parts25a, As.parts25, Result.andThen]
 simp [ReflectliteValue.flagAddr, loadVar, isAgg, underlying, Tryz.underlying83, hb, Result.andThen, As.direct25, storeVar, Value.cells, storeCells, Addr.add]
 rw [run_store Tryz.prog W ta _ _ (by rfl)]
 simp [ht, hf]
set_option maxHeartbeats 4000000 in
theorem as_hit (e t : Addr) (old : Value) (w : World) (hg : w.cell? ⟨0, 0, none⟩ = some (.iface 180 (.agg #[.pointer (some ⟨7, 39, none⟩)]))) (ht0 : w.cell? t = some old) (hf0 : w.frozen? t = false) :
  Calls Tryz.prog 49 #[.iface 83 (.pointer (some e)), .iface 114 (.pointer (some t))] w fun ev w' => ev = .returned (.bool true) ∧ w' = ((((w.alloc (.cells #[.pointer (some t)] 114)).alloc (.cells #[.pointer (some ⟨7, 114, none⟩), .pointer (some ⟨w.heap.size, 0, none⟩), .int .u64 150] 156)).alloc (.cells #[.pointer (some ⟨7, 114, none⟩), .pointer (some ⟨w.heap.size, 0, none⟩), .int .u64 150] 156)).alloc (.cells #[.pointer (some e)] 83)).setCell t (.pointer (some e)) := by
 have r := @run_callFunc_extern Tryz.prog 88 _ (fun args => ReflectliteValue.unpack (args.getD 0 (.tuple #[]))) Tryz.func88 (by kernel_rfl) (by kernel_rfl) (by kernel_rfl) (by kernel_rfl)
 have s := @run_callFunc_extern Tryz.prog 89 _ (ReflectliteValue.methodAny (ReflectliteValue.valueError "reflectlite.Value.Type" 0) (fun t _ _ _ => ReflectliteType.toType t)) Tryz.func89 (by kernel_rfl) (by kernel_rfl) (by kernel_rfl) (by kernel_rfl)
 have v := @run_callFunc_extern Tryz.prog 90 _ (ReflectliteValue.method (ReflectliteValue.valueError "reflectlite.Value.IsNil" 0) ReflectliteValue.isNil) Tryz.func90 (by kernel_rfl) (by kernel_rfl) (by kernel_rfl) (by kernel_rfl)
 have j := @run_callFunc_extern Tryz.prog 182 _ (ReflectliteType.abiMethod fun t => do pure (.int .u8 (← Rtype.kind t))) Tryz.func182 (by kernel_rfl) (by kernel_rfl) (by kernel_rfl) (by kernel_rfl)
 have i := @run_callFunc_extern Tryz.prog 208 _ (ReflectliteType.method ReflectliteType.elem) Tryz.func208 (by kernel_rfl) (by kernel_rfl) (by kernel_rfl) (by kernel_rfl)
 have d := @run_callFunc_extern Tryz.prog 209 _ (ReflectliteType.relation "Implements" ReflectliteType.implements_) Tryz.func209 (by kernel_rfl) (by kernel_rfl) (by kernel_rfl) (by kernel_rfl)
 have n := @run_callFunc_extern Tryz.prog 92 _ ReflectliteType.typeOf Tryz.func92 (by kernel_rfl) (by kernel_rfl) (by kernel_rfl) (by kernel_rfl)
 have a := @run_callFunc_extern Tryz.prog 206 _ (ReflectliteType.relation "AssignableTo" ReflectliteType.assignableTo) Tryz.func206 (by kernel_rfl) (by kernel_rfl) (by kernel_rfl) (by kernel_rfl)
 have k := @run_callFunc_extern Tryz.prog 110 _ (ReflectliteValue.method (ReflectliteValue.valueError "reflectlite.Value.Elem" 0) ReflectliteValue.elem) Tryz.func110 (by kernel_rfl) (by kernel_rfl) (by kernel_rfl) (by kernel_rfl)
 have l := @run_callFunc_extern Tryz.prog 111 _ ReflectliteValue.set Tryz.func111 (by kernel_rfl) (by kernel_rfl) (by kernel_rfl) (by kernel_rfl)
 have tO := As.typeOf25
 have mA := As.methodAssignableTo
 have b := As.assignable25
 have o := As.valueOf25
 have z := As.valueOf27
 have y := As.type27
 have mK := As.methodKind
 have mE := As.methodElem
 have mI := As.methodImplements
 have q := As.kind27
 have m := As.kind25
 have p := As.elem27
 have f := As.implements25
 have u := As.isNil27 ⟨w.heap.size, 0, none⟩ t ((w.alloc (.cells #[.pointer (some t)] 114)).alloc (.cells #[.pointer (some ⟨7, 114, none⟩), .pointer (some ⟨w.heap.size, 0, none⟩), .int .u64 150] 156)) (by simp)
 have hlt : 0 < w.heap.size := by
  rcases Nat.eq_zero_or_pos w.heap.size with g | h
  ·simp [World.cell?, g] at hg
  ·exact h
 have c : ((w.alloc (.cells #[.pointer (some t)] 114)).alloc (.cells #[.pointer (some ⟨7, 114, none⟩), .pointer (some ⟨w.heap.size, 0, none⟩), .int .u64 150] 156)).cell? ⟨0, 0, none⟩ = some (.iface 180 (.agg #[.pointer (some ⟨7, 39, none⟩)])) := by
  rw [World.cell?_alloc_lt _ _ ⟨0, 0, none⟩ (by simp), World.cell?_alloc_lt _ _ ⟨0, 0, none⟩ hlt]; exact hg
 have htl : t.block < w.heap.size := by
  rcases Nat.lt_or_ge t.block w.heap.size with h | h
  ·exact h
  ·simp [World.cell?, Array.getElem?_eq_none h] at ht0
 have el := As.elemV27 ⟨w.heap.size, 0, none⟩ t (((w.alloc (.cells #[.pointer (some t)] 114)).alloc (.cells #[.pointer (some ⟨7, 114, none⟩), .pointer (some ⟨w.heap.size, 0, none⟩), .int .u64 150] 156)).alloc (.cells #[.pointer (some ⟨7, 114, none⟩), .pointer (some ⟨w.heap.size, 0, none⟩), .int .u64 150] 156)) (by rw [World.cell?_alloc_lt _ _ ⟨w.heap.size, 0, none⟩ (by simp; omega)]; simp)
 have st := As.set25 t ⟨w.heap.size + 1 + 1 + 1, 0, none⟩ e old ((((w.alloc (.cells #[.pointer (some t)] 114)).alloc (.cells #[.pointer (some ⟨7, 114, none⟩), .pointer (some ⟨w.heap.size, 0, none⟩), .int .u64 150] 156)).alloc (.cells #[.pointer (some ⟨7, 114, none⟩), .pointer (some ⟨w.heap.size, 0, none⟩), .int .u64 150] 156)).alloc (.cells #[.pointer (some e)] 83))
  (by rw [World.cell?_alloc_at _ _ _ _ (by simp)]; rfl)
  (by rw [World.cell?_alloc_lt _ _ t (by simp; omega), World.cell?_alloc_lt _ _ t (by simp; omega), World.cell?_alloc_lt _ _ t (by simp; omega), World.cell?_alloc_lt _ _ t htl]; exact ht0)
  (by rw [World.frozen?_alloc_old _ _ t (by simp; omega), World.frozen?_alloc_old _ _ t (by simp; omega), World.frozen?_alloc_old _ _ t (by simp; omega), World.frozen?_alloc_old _ _ t (Nat.ne_of_lt htl)]; exact hf0)
 go_enter Tryz.func49, Tryz.ntmps49
 go_wp2
 refine wp_loop_rounds 1 ?_
 rw [rounds_succ]
 go_wp2
 go_ret
 exact ⟨rfl, rfl⟩
theorem as_fk (e t : Nat) (old : Value) (w : World) (hg : w.cell? ⟨0, 0, none⟩ = some (.iface 180 (.agg #[.pointer (some ⟨7, 39, none⟩)]))) (ht : w.heap[t]? = some (.cells [old].toArray 83 (0, 0))) :
  Calls Tryz.prog 49 #[.iface 83 (.pointer (some ⟨e, 0, none⟩)), .iface 114 (.pointer (some ⟨t, 0, none⟩))] w (Ret fun v w' => v = .bool true ∧ ∃ w1, Below w.heap.size w w1 ∧ Wrote w1 w' t (.cells [.pointer (some ⟨e, 0, none⟩)].toArray 83 (0, 0))) := by
 have hc : w.cell? ⟨t, 0, none⟩ = some old := by simp [World.cell?, ht]
 have hf : w.frozen? ⟨t, 0, none⟩ = false := by simp [World.frozen?, ht]
 refine (as_hit ⟨e, 0, none⟩ ⟨t, 0, none⟩ old w hg hc hf).mono ?_
 rintro ev w' ⟨rfl, rfl⟩
 have hlt := yA ht
 have hb : Below w.heap.size w ((((w.alloc (.cells #[.pointer (some ⟨t, 0, none⟩)] 114)).alloc (.cells #[.pointer (some ⟨7, 114, none⟩), .pointer (some ⟨w.heap.size, 0, none⟩), .int .u64 150] 156)).alloc (.cells #[.pointer (some ⟨7, 114, none⟩), .pointer (some ⟨w.heap.size, 0, none⟩), .int .u64 150] 156)).alloc (.cells #[.pointer (some ⟨e, 0, none⟩)] 83)) :=
  ((((Below.refl _ _).alloc (Nat.le_refl _) _).alloc (by simp) _).alloc (by simp; omega) _).alloc (by simp; omega) _
 have a := zA ht hb
 refine ⟨_, rfl, rfl, _, hb, ⟨rfl, rfl, rfl, by simp [World.setCell], ?_, fun k hk => Below.heap_setCell _ _ _ _ hk⟩⟩
 generalize (((w.alloc _).alloc _).alloc _).alloc _ = w4 at a ⊢
 obtain ⟨b, c⟩ := Array.getElem?_eq_some_iff.1 a
 show (w4.heap.modify t _)[t]? = _
 rw [Array.getElem?_eq_getElem (by rw [Array.size_modify]; exact b), Array.getElem_modify_self, c]
 simp
end Go.Proofs.YtddnhlobnembaaaGreatDoor
end

/- === IsF === -/
section
/- errors.Is of a *api.Fault at its own number: true; the memory is left as it was. Turned to this seat out of the kit's worked example on errors.Is. -/
namespace Go.Proofs.YtddnhlobnembaaaGreatDoor
open Go Go.RowKit Go.Extern.Stop Go.Stop Go.Extern Go.FK
theorem is_typeOf (v : Value) (w : World) : (Extern.ReflectliteType.typeOf #[.iface 28 v]).run Tryz.prog w = .ok (.iface 180 (.agg #[.pointer (some ⟨7, 28, none⟩)])) w := by kernel_rfl
def is_cmpM : Array Value → Sem Value := Extern.ReflectliteType.method fun t => do Go.Extern.Rtype.noPackHeld "Comparable" t; pure (.bool (← typeInfo t).comparable)
theorem is_comparable (w : World) : (is_cmpM #[.agg #[.pointer (some ⟨7, 28, none⟩)]]).run Tryz.prog w = .ok (.bool true) w := by kernel_rfl
theorem is_mComparable (v : Value) (w : World) : (Go.method 387 180 v "Comparable").run Tryz.prog w = .ok (207, v) w := by kernel_rfl
theorem is_mUnwrap (v : Value) (w : World) : (Go.method 387 83 v "Unwrap").run Tryz.prog w = .ok (200, v) w := by kernel_rfl
theorem is_noIs (v : Value) (xT : TypeId) (w : World) : (Instr.typeAssert (.iface 83 v) xT 192 true).run Tryz.prog w = .ok (.tuple #[.nilIface, .bool false]) w := run_typeAssert_lacksB Tryz.underlying192 (by kernel_rfl) (by kernel_rfl) v xT w
theorem is_hasUnwrap (v : Value) (xT : TypeId) (w : World) : (Instr.typeAssert (.iface 83 v) xT 187 true).run Tryz.prog w = .ok (.tuple #[.iface 83 v, .bool true]) w := run_typeAssert_hasB Tryz.underlying187 (by kernel_rfl) v xT w
theorem is_same_no (c : Int) (w : World) : (binOp .eql 39 (.iface 28 (.int .i64 c)) (.iface 28 (.int .i64 c))).run Tryz.prog w = .ok (.bool true) w := by
 have hi := Tryz.underlying39
 obtain ⟨i, hinfo, hcomp⟩ := Option.map_eq_some_iff.1 (show (Tryz.prog.info? 28).map (·.comparable) = some true by kernel_rfl)
 have hu := Tryz.underlying28
 simp only [binOp]
 have h : ∀ d : Nat, (Op.equalIn (d + 2) 39 (.iface 28 (.int .i64 c)) (.iface 28 (.int .i64 c))).run Tryz.prog w = .ok true w := fun d => by
  simp [Op.equalIn, run_underlying hi, run_underlying hu, typeInfo, hinfo, hcomp, sizeOf]
 simp [Op.equal, Op.maxDepth, h 9998]
theorem is_unwrap (b : Nat) (c : Int) (w : World) (h1 : w.cell? ⟨b, 2, none⟩ = some (.int .i64 c)) :
  Calls Tryz.prog 200 #[.pointer (some ⟨b, 0, none⟩)] w fun e w' => e = .returned (.iface 28 (.int .i64 c)) ∧ w' = w := by
 go_enter Tryz.func200, Tryz.ntmps200
 go_wp2
 go_ret
 exact ⟨rfl, rfl⟩
set_option maxRecDepth 100000 in
theorem is_fault (b : Nat) (c : Int) (w : World) (h1 : w.cell? ⟨b, 2, none⟩ = some (.int .i64 c)) :
  Calls Tryz.prog 50 #[.iface 83 (.pointer (some ⟨b, 0, none⟩)), .iface 28 (.int .i64 c)] w fun e w' => e = .returned (.bool true) ∧ w' = w := by
 have d := @run_callFunc_extern Tryz.prog 92 _ Extern.ReflectliteType.typeOf Tryz.func92 (by kernel_rfl) (by kernel_rfl) (by kernel_rfl) (by kernel_rfl)
 have a := @run_callFunc_extern Tryz.prog 207 _ is_cmpM Tryz.func207 (by kernel_rfl) (by kernel_rfl) (by kernel_rfl) (by kernel_rfl)
 have tT := is_typeOf
 have cT := is_comparable
 have mR := is_mComparable
 have mU := is_mUnwrap
 have nI := is_noIs
 have uW := is_hasUnwrap
 have hty := run_eql_iface_types (P := Tryz.prog) 83 28 (.pointer (some ⟨b, 0, none⟩)) (.int .i64 c) Tryz.underlying39 (by decide) w
 have heq : (binOp .eql 39 (.iface 28 (.int .i64 c)) (.iface 28 (.int .i64 c))).run Tryz.prog w = .ok (.bool true) w := is_same_no c w
 go_enter Tryz.func50, Tryz.ntmps50
 go_wp2
 refine wp_loop_rounds 2 ?_
 rw [rounds_succ]
 go_wp2_with (go_at_call 200; refine (is_unwrap b c _ h1).mono ?_; rintro e w' ⟨rfl, rfl⟩)
 rw [rounds_succ]
 go_wp2
 go_ret
 exact ⟨rfl, rfl⟩
theorem is_fk (b : Nat) (f : List UInt8) (l c : Int) (w : World) (ho : w.heap[b]? = some (.cells [S f, .int .i64 l, .int .i64 c].toArray 85 (0, 0))) :
  Calls Tryz.prog 50 #[.iface 83 (.pointer (some ⟨b, 0, none⟩)), .iface 28 (.int .i64 c)] w (Ret fun v w' => v = .bool true ∧ Below w.heap.size w w') := by
 refine (is_fault b c w (by simp [World.cell?, ho])).mono ?_
 rintro e w' ⟨rfl, rfl⟩
 exact ⟨_, rfl, rfl, Below.refl _ _⟩
end Go.Proofs.YtddnhlobnembaaaGreatDoor
end
