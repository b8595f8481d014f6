/- Joined by my program pack2.py out of my own texts: Wctb3 Wclaw Wlref PUtfM Wcref FKaj FKan. -/
import Derived.Test.YtkclikfejmeblaaGreatDoorProg
import Derived.Tactics2
import Derived.Lib.DecodeN
import Derived.Test.YtkclikfejmeblaaGreatDoorR1
import Derived.Test.YtkclikfejmeblaaGreatDoorR2
import Derived.Test.YtkclikfejmeblaaGreatDoorR3
import Derived.Test.YtkclikfejmeblaaGreatDoorR4
set_option linter.unusedVariables false
set_option linter.unusedSimpArgs false
/- === Wctb3 === -/
section
/- Walks, written by my program walk.py out of the specification ctb3.py: each theorem says what one function returns and that it leaves memory as it was. -/
namespace Go.Proofs.YtkclikfejmeblaaGreatDoor
open Go Go.RowKit Go.FK _root_.Go.Proofs.Tryz
set_option maxHeartbeats 4000000
set_option maxRecDepth 100000
theorem eqin32_34 (d : Nat) (a0 : Int) (a1 : Int) (c0 : Int) (c1 : Int) (w : World) : (Op.equalIn (d + 2) 32 (.agg #[.int .i32 a0, .int .i32 a1]) (.agg #[.int .i32 c0, .int .i32 c1])).run Tryz.prog w = .ok (a0 == c0 && a1 == c1) w := by
 have g : Tryz.prog.underlying 32 = some (.struct (Tryz.prog.fieldsOf 32)) := by kernel_rfl
 have e : Tryz.prog.stoodInHeld 32 = false := by kernel_rfl
 rw [run_equalIn_agg w (d + 1) 32 _ _ g e]
 simp only [Program.fieldsOf, Tryz.underlying32]
 have c := Tryz.isAgg21
 have b := Tryz.sizeOf21
 have a := Tryz.underlying21
 go_simp
 by_cases f : a0 = c0 <;> by_cases h : a1 = c1 <;> simp [f, h]
theorem qV (a0 : Int) (a1 : Int) (a2 : Int) (c0 : Int) (c1 : Int) (c2 : Int) (w : World) : (Op.equalIn 10000 34 (.agg #[.int .i32 a0, .int .i32 a1, .int .u8 a2]) (.agg #[.int .i32 c0, .int .i32 c1, .int .u8 c2])).run Tryz.prog w = .ok (a0 == c0 && a1 == c1 && a2 == c2) w := by
 have k : Tryz.prog.underlying 34 = some (.struct (Tryz.prog.fieldsOf 34)) := by kernel_rfl
 have i : Tryz.prog.stoodInHeld 34 = false := by kernel_rfl
 have g : ∀ w, (Op.equalIn 9999 32 (.agg #[.int .i32 a0, .int .i32 a1]) (.agg #[.int .i32 c0, .int .i32 c1])).run Tryz.prog w = .ok (a0 == c0 && a1 == c1) w := fun w => eqin32_34 9997 a0 a1 c0 c1 w
 have h : ∀ w a b, (Op.equalIn 9999 28 (U8 a) (U8 b)).run Tryz.prog w = .ok (a == b) w := fun w a b => run_equalIn_int w 9998 28 .u8 .u8 a b underlying28
 rw [show (10000 : Nat) = 9999 + 1 from rfl, run_equalIn_agg w 9999 34 _ _ k i]
 simp only [Program.fieldsOf, Tryz.underlying34]
 have e := Tryz.isAgg28
 have c := Tryz.sizeOf28
 have f := Tryz.isAgg32
 have d := Tryz.sizeOf32
 simp [Op.eqFields, part, Sem.run_bind, Sem.run_ite, Result.andThen_ok, e, c, h, f, d, g]
 by_cases j : a0 = c0 <;> by_cases m : a1 = c1 <;> by_cases l : a2 = c2 <;> simp [j, m, l]
theorem eqagg45 (a0 : Int) (a1 : Int) (a2 : Int) (c0 : Int) (c1 : Int) (c2 : Int) (w : World) : (Op.equalIn 10000 45 (.agg #[.int .i32 a0, .int .i32 a1, .int .u8 a2]) (.agg #[.int .i32 c0, .int .i32 c1, .int .u8 c2])).run Tryz.prog w = .ok (a0 == c0 && a1 == c1 && a2 == c2) w := by
 have k : Tryz.prog.underlying 45 = some (.struct (Tryz.prog.fieldsOf 45)) := by kernel_rfl
 have i : Tryz.prog.stoodInHeld 45 = false := by kernel_rfl
 have g : ∀ w, (Op.equalIn 9999 32 (.agg #[.int .i32 a0, .int .i32 a1]) (.agg #[.int .i32 c0, .int .i32 c1])).run Tryz.prog w = .ok (a0 == c0 && a1 == c1) w := fun w => eqin32_34 9997 a0 a1 c0 c1 w
 have h : ∀ w a b, (Op.equalIn 9999 28 (U8 a) (U8 b)).run Tryz.prog w = .ok (a == b) w := fun w a b => run_equalIn_int w 9998 28 .u8 .u8 a b underlying28
 rw [show (10000 : Nat) = 9999 + 1 from rfl, run_equalIn_agg w 9999 45 _ _ k i]
 simp only [Program.fieldsOf, Tryz.underlying45]
 have e := Tryz.isAgg28
 have c := Tryz.sizeOf28
 have f := Tryz.isAgg32
 have d := Tryz.sizeOf32
 simp [Op.eqFields, part, Sem.run_bind, Sem.run_ite, Result.andThen_ok, e, c, h, f, d, g]
 by_cases j : a0 = c0 <;> by_cases m : a1 = c1 <;> by_cases l : a2 = c2 <;> simp [j, m, l]
theorem c_tWrite (ay : Nat) (ac : Nat) (bd : Nat) (aw : Value) (mm : List (Int × Int × Int)) (bg : Nat) (ax : Value) (am : List (Int × Int × Int)) (w : World) (p : w.heap[ay]? = some (.cells [(pt ac 0), (pt bd 0), aw, (pt bg 0)].toArray 66 (0, 0))) (ao : Rd w encSpanC aw mm) (n : w.heap[ac]? = some (.cells [ax, (.bool true)].toArray 115 (0, 0))) (u : Rd w encSpanC ax am) (hcm : clsB mm) (hca : clsB am) (hm : mm.length ≤ 1048576) (ha : am.length ≤ 1114112) :
  Calls Tryz.prog 15 #[(pt ay 0)] w (Ret fun v w' => v = (S (writeC mm am)) ∧ Below w.heap.size w w') := by
 refine enterM (args := [(pt ay 0)]) func15 rfl (zk : _ = 40) zk ?_
 have s := Below.refl w.heap.size w
 have aq := ao
 have z := u
 refine wR (zH (nW (wR (zD (zc (c_tnone ay ac bd aw bg _ p) ?_)))))
 rintro _ w1 ⟨rfl, b6⟩
 refine nQ (zF (zK (zB (wR (zN [(.pointer none), (.slice none 0 0)] 86 ?_)))))
 intro b4 w5 bn
 have s := s.tr b6
 have a8 := bn.ge s.size
 have j := bn.here
 refine nR (zr (.func (.func 42) #[] #[(pt b4 0)]) (zN [.nilFunc] 92 ?_))
 intro b7 w8 bk
 have s := s.tr bn.below
 have cp := bk.ge s.size
 have d := bk.here
 refine z1 0 (.func (.func 42) #[] #[(pt b4 0)]) [(.func (.func 42) #[] #[(pt b4 0)])] d ?_
 intro dg a4
 have p := zC (zC (zC p b6) bn.below) bk.below
 have p := zI p a4 (zU p d zi)
 have n := zC (zC (zC n b6) bn.below) bk.below
 have n := zI n a4 (zU n d zi)
 have j := zC j bk.below
 have j := zI j a4 (zU j d zi)
 have d := a4.here
 have s := (s.tr bk.below).trans (a4.below cp)
 have ao := aq.below s
 refine nW (wR (zD (zr (pt ay 0) (wB 2 p rfl (vY underlying42 (ao).len (zD (nQ (zW ?_))))))))
 have u := z.below s
 refine xA (fun m s0 w0 => ∃ (i : Nat) (ae : List UInt8) (pp : Value) (r : Value), (m = mm.length - i) ∧ (s0.ds = []) ∧ ([0, 2, 3, 4, 15, 16, 17].map s0.f = [(pt ay 0), (S []), (pt b4 0), (pt b7 0), aw, (N6 ((mm).length)), (N6 i)]) ∧ (Rd w0 encSpanC aw mm) ∧ (Rd w0 encSpanC ax am) ∧ (Row w0 w.heap.size 5 1 encByt r ae) ∧ (w0.heap[ay]? = some (.cells [(pt ac 0), (pt bd 0), aw, (pt bg 0)].toArray 66 (0, 0))) ∧ (w0.heap[ac]? = some (.cells [ax, (.bool true)].toArray 115 (0, 0))) ∧ (w0.heap[b4]? = some (.cells [pp, r].toArray 86 (0, 0))) ∧ (w0.heap[b7]? = some (.cells [(.func (.func 42) #[] #[(pt b4 0)])].toArray 92 (0, 0))) ∧ (Below w.heap.size w w0) ∧ (i ≤ mm.length) ∧ (pp = .pointer none ∨ pp = .pointer (some ⟨b4, 0, none⟩)) ∧ (ae = (mm.take i).flatMap mlC)) _ ⟨0, [], (.pointer none), (.slice none 0 0), rfl, zk, zk, ao, u, Row.nil _ _ _ _ _, p, n, j, d, s, (Nat.zero_le _), (.inl rfl), rfl⟩ ?_
 rintro dj dt du ⟨i, ae, pp, r, hm, cg, c6, ao, u, a, p, n, j, d, s, i1, ip, ia⟩
 refine yX c6 ?_
 have c7 := mi_len ia
 refine wR (nLt i ((mm).length) ?_ ?_)
 ·intro d3
  refine nW (zT (zK (zB (yA (zW (wR ?_))))))
  have hz := zX mm i zo; obtain ⟨q, bw⟩ := hz
  have cb := Zf q.2.2
  have cd := uJ q.1 q.2.1
  have bq := hcm _ (List.mem_of_getElem? bw)
  have b9 := bq
  refine zEA ao el42 i bw [(I3 q.1), (I3 q.2.1), (U8 q.2.2)] rfl fun _ => (zN [(I3 0), (I3 0), (U8 0)] 45 ?_)
  intro c9 dh an
  have ct := an.ge s.size
  have al := an.here
  refine qQ [(I3 q.1), (I3 q.2.1), (U8 q.2.2)] al ?_
  intro dr ar
  have p := zC p an.below
  have p := zI p ar (zU p al zi)
  have n := zC n an.below
  have n := zI n ar (zU n al zi)
  have j := zC j an.below
  have j := zI j ar (zU j al zi)
  have d := zC d an.below
  have d := zI d ar (zU d al zi)
  have a := a.below an.below
  have a := a.wrote ar (a.ne al zi)
  have al := ar.here
  refine nQ (zP (zO 0 d rfl (zr (pt c9 0) (zOA 0 [(I3 q.1), (I3 q.2.1)] al (wB 2 al rfl (vQ 42 [(S [35, 32, 64, 109, 105, 115, 115, 105, 110, 103, 58, 32]), (Value.agg #[(I3 q.1), (I3 q.2.1)]), (.func (.func 45) #[] #[]), (U8 q.2.2), (pt b4 0)] zk zk (wJ 32 func42 rfl (wR (zN [(I3 q.1), (I3 q.2.1)] 32 ?_)))))))))
  intro d0 dk ap
  have s := (s.tr an.below).trans (ar.below ct)
  have cl := ap.ge s.size
  have bp := ap.here
  refine nR (vT bp (zc (c_points_ShowSpan q.1 q.2.1 _ ) ?_))
  rintro _ d5 ⟨rfl, a2⟩
  refine zD (zr (S ((showSpanF q.1 q.2.1).1)) (zr (I6 ((showSpanF q.1 q.2.1).2)) (zH (zH (nR (zD (zD (zc (c_words_Long q.2.2 _ (by (have := b9; omega))) ?_))))))))
  rintro _ dw ⟨rfl, a0⟩
  have s := ((s.tr ap.below).tr a2).tr a0
  have j := zC (zC (zC j ap.below) a2) a0
  have a := ((a.below ap.below).below a2).below a0
  refine zD (zr (S (longS q.2.2)) (zr (I6 (toldE q.2.2)) (zH (zH (nQ (zP (zD (zD (wK ([35, 32, 64, 109, 105, 115, 115, 105, 110, 103, 58, 32] : List UInt8) ((showSpanF q.1 q.2.1).1) (by (simp only [List.length_append, List.length_cons, List.length_nil]; omega)) zk zk (wK (([35, 32, 64, 109, 105, 115, 115, 105, 110, 103, 58, 32] : List UInt8) ++ (showSpanF q.1 q.2.1).1) ([59, 32] : List UInt8) (by (simp only [List.length_append, List.length_cons, List.length_nil]; omega)) zk zk (zD (wK ((([35, 32, 64, 109, 105, 115, 115, 105, 110, 103, 58, 32] : List UInt8) ++ (showSpanF q.1 q.2.1).1) ++ ([59, 32] : List UInt8)) (longS q.2.2) (by (simp only [List.length_append, List.length_cons, List.length_nil]; omega)) zk zk (wK (((([35, 32, 64, 109, 105, 115, 115, 105, 110, 103, 58, 32] : List UInt8) ++ (showSpanF q.1 q.2.1).1) ++ ([59, 32] : List UInt8)) ++ longS q.2.2) ([10] : List UInt8) (by (simp only [List.length_append, List.length_cons, List.length_nil]; omega)) zk zk (zc (bd_WriteString b4 pp r ae ((((([35, 32, 64, 109, 105, 115, 115, 105, 110, 103, 58, 32] : List UInt8) ++ (showSpanF q.1 q.2.1).1) ++ ([59, 32] : List UInt8)) ++ longS q.2.2) ++ ([10] : List UInt8)) w.heap.size _ s.size j a8 a za zo (by (simp only [List.length_append, List.length_cons, List.length_nil]; omega))) ?_))))))))))))))
  rintro _ d6 ⟨c4, rfl, co, b5, dd, be⟩
  have s := be.below s s.size (fun k e => e.elim (fun x => x ▸ a8) (fun x => (World.ownsRow.lt a k x).1))
  have p := zC (zC (zC p ap.below) a2) a0
  have p := yP p be (zU p j zi) (a.ne p zi)
  have n := zC (zC (zC n ap.below) a2) a0
  have n := yP n be (zU n j zi) (a.ne n zi)
  have d := zC (zC (zC d ap.below) a2) a0
  have d := yP d be (zU d j zi) (a.ne d zi)
  have j := co
  refine zQ (znrm [] ?_)
  show L _ _ _ _ _ _ (Fm.put _ _ (.tuple #[])) _
  refine zQ (zJ (zB (zP (xN i 1 (zD (zQ ?_))))))
  have u := z.below s
  have ao := aq.below s
  refine zB ⟨_, zo, (i + 1), (ae ++ ((((([35, 32, 64, 109, 105, 115, 115, 105, 110, 103, 58, 32] : List UInt8) ++ (showSpanF q.1 q.2.1).1) ++ ([59, 32] : List UInt8)) ++ longS q.2.2) ++ ([10] : List UInt8))), (pt b4 0), c4, rfl, cg, zk, ao, u, b5, p, n, j, d, s, zo, ?_, ?_⟩
  ·exact .inr rfl
  exact wr_miss ia za
 intro d4
 refine nW (zF (yU (zS (zS (yF (zB (yA (wR (zD (zr (pt ay 0) (wB 0 p rfl (zc (c_all_C ac ax am _ n u) ?_))))))))))))
 rintro _ ad ⟨a9, rfl, o, bf, a1⟩
 replace bf := Nat.le_trans s.size bf
 refine nQ (zW ?_)
 have p := zC p a1
 have bi : ay < ad.heap.size := yL p
 have n := zC n a1
 have av : ac < ad.heap.size := yL n
 have j := zC j a1
 have a5 : b4 < ad.heap.size := yL j
 have d := zC d a1
 have a7 : b7 < ad.heap.size := yL d
 have ah : a9 < ad.heap.size := yL o
 have s := s.tr a1
 have bs := s.size
 have df := s
 have u := z.below s
 refine W_range 68 [(pt a9 0)] am zk (fun _ _ => rfl) (it_all_C a9 ac ax am zo) ⟨o, n, u⟩ ((fun D A B h hc hd => ⟨yG h.1 hc (fun h => Nat.not_lt.2 (hd _ h) ah), yG h.2.1 hc (fun h => Nat.not_lt.2 (hd _ h) av), Rd.ch u (Nat.le_refl _) h.2.2 hc hd⟩)) (by intro x; rfl) (fun K bu A => ∃ (pp : Value) (ae : List UInt8) (r : Value), (A.heap[ay]? = some (.cells [(pt ac 0), (pt bd 0), aw, (pt bg 0)].toArray 66 (0, 0))) ∧ (A.heap[ac]? = some (.cells [ax, (.bool true)].toArray 115 (0, 0))) ∧ (A.heap[b4]? = some (.cells [pp, r].toArray 86 (0, 0))) ∧ (A.heap[b7]? = some (.cells [(.func (.func 42) #[] #[(pt b4 0)])].toArray 92 (0, 0))) ∧ (A.heap[a9]? = some (.cells [(pt ac 0)].toArray 61 (0, 0))) ∧ (Row A w.heap.size 5 1 encByt r ae) ∧ (∀ g, Value.ownBlock r = some g → ¬ Iv ad.heap.size K g) ∧ (Below w.heap.size w A) ∧ (pp = .pointer none ∨ pp = .pointer (some ⟨b4, 0, none⟩)) ∧ (ae = mm.flatMap mlC ++ bu.flatMap nlC)) (fun K c bu A => False) ?_ ?_ ?_ ?_ ?_ ?_
 ·intro A hA
  have a := a.below a1
  exact ⟨pp, ae, r, zC p hA, zC n hA, zC j hA, zC d hA, zC o hA, a.below hA, nr_old a _, s.trans (hA.mono s.size), by exact ip, by exact wr_half ia zo⟩
 ·rintro K bu A B ⟨pp, ae, r, p, n, j, d, o, a, t, s, rp, ra⟩ hc
  exact ⟨pp, ae, r, yG p hc (fun h => Nat.not_lt.2 h.1 bi), yG n hc (fun h => Nat.not_lt.2 h.1 av), yG j hc (fun h => Nat.not_lt.2 h.1 a5), yG d hc (fun h => Nat.not_lt.2 h.1 a7), yG o hc (fun h => Nat.not_lt.2 h.1 ah), a.ch hc t, t, hc.below s s.size (fun k h => Nat.le_trans bs h.1), rp, ra⟩
 ·intro K c _ A B h hc; exact h.elim
 ·intro l K bu x A hi hN dl hK bx
  obtain ⟨pp, ae, r, p, n, j, d, o, a, t, s, rp, ra⟩ := hi
  have hk := Kp.refl (ad.heap.size) K A
  have ck : ¬ Iv (ad.heap.size) K ay := fun h => Nat.not_lt.2 h.1 bi
  have b1 : ¬ Iv (ad.heap.size) K ac := fun h => Nat.not_lt.2 h.1 av
  have bo : ¬ Iv (ad.heap.size) K b4 := fun h => Nat.not_lt.2 h.1 a5
  have b2 : ¬ Iv (ad.heap.size) K b7 := fun h => Nat.not_lt.2 h.1 a7
  have br : ¬ Iv (ad.heap.size) K a9 := fun h => Nat.not_lt.2 h.1 ah
  have u := z.below s
  have o := hN.1
  have n := hN.2.1
  have c7 := na_len ra
  have dp := tk_lt bx
  have c0 := uD x.2.2
  have cy := uJ x.1 x.2.1
  have b9 := hca _ (List.mem_of_getElem? (tk_one bx))
  refine wR (zN [(I3 0), (I3 0)] 32 ?_)
  intro c5 dn ab
  have cj := ab.ge s.size
  have bt : ¬ Iv ad.heap.size K c5 := fun h => by have := h.2; have := ab.num; omega
  replace hk := hk.ch (Ch.of_below ab.below) hK (fun _ h => h.elim)
  replace hK := Nat.le_trans hK (ab.below.size)
  have af := ab.here
  refine qQ [(I3 x.1), (I3 x.2.1)] af ?_
  intro dq ag
  replace hk := hk.ch (Ch.of_wrote ag) hK (fun k e h => bt (e ▸ h))
  replace hK := Nat.le_trans hK (Nat.le_of_eq ag.size.symm)
  have p := zC p ab.below
  have p := zI p ag (zU p af zi)
  have n := zC n ab.below
  have n := zI n ag (zU n af zi)
  have j := zC j ab.below
  have j := zI j ag (zU j af zi)
  have d := zC d ab.below
  have d := zI d ag (zU d af zi)
  have o := zC o ab.below
  have o := zI o ag (zU o af zi)
  have a := a.below ab.below
  have a := a.wrote ag (a.ne af zi)
  have af := ag.here
  refine nQ (zP (zH (zQ (zB ⟨hk, ?_⟩))))
  intro da ak
  have s := (s.tr ab.below).trans (ag.below cj)
  have s := ak.below s s.size (fun k h => Nat.le_trans bs h.1)
  replace hK := Nat.le_trans hK ak.size
  replace hk := Kp.refl (ad.heap.size) K da
  have d := yG d ak b2
  have af := yG af ak bt
  refine zW (zP (zO 0 d rfl (vT af (zD (vQ 42 [(S []), (Value.agg #[(I3 x.1), (I3 x.2.1)]), (.func (.func 46) #[] #[]), (U8 x.2.2), (pt b4 0)] zk zk (wJ 32 func42 rfl (wR (zN [(I3 x.1), (I3 x.2.1)] 32 ?_))))))))
  intro c8 dy aa
  have cm := aa.ge s.size
  have ca : ¬ Iv ad.heap.size K c8 := fun h => by have := h.2; have := aa.num; omega
  replace hk := hk.ch (Ch.of_below aa.below) hK (fun _ h => h.elim)
  replace hK := Nat.le_trans hK (aa.below.size)
  have bm := aa.here
  refine nR (vT bm (zc (c_points_ShowSpan x.1 x.2.1 _ ) ?_))
  rintro _ dz ⟨rfl, ai⟩
  replace hk := hk.ch (Ch.of_below ai) hK (fun _ h => h.elim)
  replace hK := Nat.le_trans hK (ai.size)
  refine zD (zr (S ((showSpanF x.1 x.2.1).1)) (zr (I6 ((showSpanF x.1 x.2.1).2)) (zH (zH (nR (zD (zD (zc (c_words_Short x.2.2 _ (by (have := b9; omega))) ?_))))))))
  rintro _ dv ⟨rfl, aj⟩
  replace hk := hk.ch (Ch.of_below aj) hK (fun _ h => h.elim)
  replace hK := Nat.le_trans hK (aj.size)
  have s := ((s.tr aa.below).tr ai).tr aj
  have j := zC (zC (zC (yG j ak bo) aa.below) ai) aj
  have a := (((a.ch ak t).below aa.below).below ai).below aj
  refine zD (zr (S (shortS x.2.2)) (zr (I6 (toldE x.2.2)) (zH (zH (nQ (zP (zD (zD (wK ([] : List UInt8) ((showSpanF x.1 x.2.1).1) (by (simp only [List.length_append, List.length_cons, List.length_nil]; omega)) zk zk (wK (([] : List UInt8) ++ (showSpanF x.1 x.2.1).1) ([59, 32] : List UInt8) (by (simp only [List.length_append, List.length_cons, List.length_nil]; omega)) zk zk (zD (wK ((([] : List UInt8) ++ (showSpanF x.1 x.2.1).1) ++ ([59, 32] : List UInt8)) (shortS x.2.2) (by (simp only [List.length_append, List.length_cons, List.length_nil]; omega)) zk zk (wK (((([] : List UInt8) ++ (showSpanF x.1 x.2.1).1) ++ ([59, 32] : List UInt8)) ++ shortS x.2.2) ([10] : List UInt8) (by (simp only [List.length_append, List.length_cons, List.length_nil]; omega)) zk zk (zc (bd_WriteString b4 pp r ae ((((([] : List UInt8) ++ (showSpanF x.1 x.2.1).1) ++ ([59, 32] : List UInt8)) ++ shortS x.2.2) ++ ([10] : List UInt8)) w.heap.size _ s.size j a8 a za zo (by (simp only [List.length_append, List.length_cons, List.length_nil]; omega))) ?_))))))))))))))
  rintro _ di ⟨cr, rfl, cf, b8, ci, au⟩
  have cu : ∀ k, Dm b4 r k → ¬ Iv (ad.heap.size) K k := fun k e => e.elim (fun x => by rw [x]; exact bo) (fun x => t k x)
  have bj : ∀ g, Value.ownBlock cr = some g → ¬ Iv (ad.heap.size) K g := fun g hg => (ci g hg).elim (fun x y => by have := y.2; omega) (fun e => cu g e)
  replace hk := hk.ch au hK cu
  replace hK := Nat.le_trans hK au.size
  have s := au.below s s.size (fun k e => e.elim (fun x => x ▸ a8) (fun x => (World.ownsRow.lt a k x).1))
  have p := zC (zC (zC (yG p ak ck) aa.below) ai) aj
  have p := yP p au (zU p j zi) (a.ne p zi)
  have n := zC (zC (zC (yG n ak b1) aa.below) ai) aj
  have n := yP n au (zU n j zi) (a.ne n zi)
  have d := zC (zC (zC d aa.below) ai) aj
  have d := yP d au (zU d j zi) (a.ne d zi)
  have o := zC (zC (zC (yG o ak br) aa.below) ai) aj
  have o := yP o au (zU o j zi) (a.ne o zi)
  have j := cf
  refine zQ (znrm [] ?_)
  show L _ _ _ _ _ _ (Fm.put _ _ (.tuple #[])) _
  refine zQ (zJ ?_)
  have u := z.below s
  refine qY hk ⟨o, n, u⟩ ⟨(pt b4 0), (ae ++ ((((([] : List UInt8) ++ (showSpanF x.1 x.2.1).1) ++ ([59, 32] : List UInt8)) ++ shortS x.2.2) ++ ([10] : List UInt8))), cr, p, n, j, d, o, b8, bj, s, ?_, ?_⟩
  ·exact .inr rfl
  exact wr_name ra
 ·intro K A hi dm bh
  obtain ⟨pp, ae, r, p, n, j, d, o, a, t, s, rp, ra⟩ := hi
  refine zJ (zB (wR ?_))
  have bz := Bld.ofRow za j a a8 (a.ne j zi)
  refine zc (bldStr (fun B b l w h hB => Tryz.Builder_String_any_k B b l w h hB) ae _ bz s.size) ?_
  rintro _ d7 ⟨rfl, cq, cv, a6⟩
  have dc := Bld.obj_kept bz a6 p (by intro cs X fz e; first | (simp [mapObj] at e; done) | (injection e with _ e2 _; subst e2; decide))
  have cx := Bld.obj_kept bz a6 n (by intro cs X fz e; first | (simp [mapObj] at e; done) | (injection e with _ e2 _; subst e2; decide))
  have cw := Bld.obj_kept bz a6 d (by intro cs X fz e; first | (simp [mapObj] at e; done) | (injection e with _ e2 _; subst e2; decide))
  have ce := Bld.obj_kept bz a6 o (by intro cs X fz e; first | (simp [mapObj] at e; done) | (injection e with _ e2 _; subst e2; decide))
  have bc := Bld.obj_kept bz a6 bh (by intro cs X fz e; first | (simp [mapObj] at e; done) | (injection e with _ e2 _; subst e2; decide))
  have s := s.trans cv
  have c1 := aq.below s
  have cz := z.below s
  have bh := bc; clear bc
  replace bz := cq
  refine zH (nQ (zR (wN (ds := [⟨.collected ad.heap.size, #[]⟩]) (congrArg (List.cons _) cg) (Lv_mark bh ?_))))
  intro d1 b0
  replace bz := Bld.wrote bz b0 bh (by intro cs X fz e; first | (simp [mapObj] at e; done) | (injection e with _ e2 _; subst e2; decide))
  refine vL [.tmp 2] [(S ae)] rfl ⟨zk, trivial⟩ ?_
  have s := s.trans (b0.below bs)
  exact ⟨congrArg S (by first | rfl | exact ra), s⟩
 intro K c _ x A _ h; exact h.elim
theorem c_toldN (au : Nat) (ac : Nat) (ay : Nat) (a1 : Value) (a0 : Nat) (few : Int) (a2 : Value) (am : List (Int × Int × Int)) (w : World) (n : w.heap[au]? = some (.cells [(pt ac 0), (pt ay 0), a1, (pt a0 0)].toArray 66 (0, 0))) (f : w.heap[ac]? = some (.cells [a2, (.bool true)].toArray 115 (0, 0))) (ai : Rd w encSpanC a2 am) (hl : am.length ≤ 1114112) :
  Calls Tryz.prog 11 #[(pt au 0), (.bool false), (I6 few)] w (Ret fun v w' => ∃ (q0 : Value), v = q0 ∧ Row w' w.heap.size 34 3 encSpanC q0 (fewC am few) ∧ Below w.heap.size w w') := by
 refine enterM (args := [(pt au 0), (.bool false), (I6 few)]) func11 rfl (zk : _ = 39) zk ?_
 have p := Below.refl w.heap.size w
 have an := ai
 refine wR (zN [(I6 few)] 3 ?_)
 intro b1 w2 bk
 have cc := bk.ge p.size
 have i := bk.here
 refine zN [(.slice none 0 0)] 29 ?_
 intro b4 w5 a9
 replace p := p.tr bk.below
 have bn := a9.ge p.size
 have d := a9.here
 replace n := zC (zC n bk.below) a9.below
 refine nR (zD (zc (c_tNamed au ac ay a1 a0 _ n) ?_))
 rintro _ w7 ⟨aw, rfl, b, a8, bg⟩
 replace p := p.tr a9.below
 replace a8 := Nat.le_trans p.size a8
 refine zH (nW (wR (zD (nQ (zF (zK (zB (wR (zN [(.slice none 0 0)] 29 ?_)))))))))
 intro bl u aj
 replace d := zC d bg
 have ao := NE_new (yL d) aj
 replace p := p.tr bg
 have bh := aj.ge p.size
 have m := aj.here
 refine nW (wR (zD (zr (.bool false) (nQ (zF (zK (zB (yA (wR (zD (nQ (zW ?_))))))))))))
 replace n := zC (zC n bg) aj.below
 have ap : au < u.heap.size := yL n
 replace f := zC (zC (zC (zC f bk.below) a9.below) bg) aj.below
 have al : ac < u.heap.size := yL f
 replace i := zC (zC (zC i a9.below) bg) aj.below
 have aq : b1 < u.heap.size := yL i
 replace d := zC d aj.below
 have ar : b4 < u.heap.size := yL d
 replace b := zC b aj.below
 have y : aw < u.heap.size := yL b
 have az : bl < u.heap.size := yL m
 replace p := p.tr aj.below
 have a3 := p.size
 have cd := p
 replace ai := an.below p
 refine W_range 70 [(pt aw 0)] am zk (fun _ _ => rfl) (it_Named aw au ac ay a1 a0 a2 am zo) ⟨b, n, f, ai⟩ ((fun D A B h hc hd => ⟨yG h.1 hc (fun h => Nat.not_lt.2 (hd _ h) y), yG h.2.1 hc (fun h => Nat.not_lt.2 (hd _ h) ap), yG h.2.2.1 hc (fun h => Nat.not_lt.2 (hd _ h) al), Rd.ch ai (Nat.le_refl _) h.2.2.2 hc hd⟩)) (by intro x; rfl) (fun K af A => ∃ (s : List SpI) (o : Value), (A.heap[au]? = some (.cells [(pt ac 0), (pt ay 0), a1, (pt a0 0)].toArray 66 (0, 0))) ∧ (A.heap[ac]? = some (.cells [a2, (.bool true)].toArray 115 (0, 0))) ∧ (A.heap[b1]? = some (.cells [(I6 few)].toArray 3 (0, 0))) ∧ (A.heap[b4]? = some (.cells [(.slice none 0 0)].toArray 29 (0, 0))) ∧ (A.heap[aw]? = some (.cells [(pt au 0)].toArray 23 (0, 0))) ∧ (A.heap[bl]? = some (.cells [o].toArray 29 (0, 0))) ∧ (Row A w.heap.size 34 3 encSpanC o s) ∧ (∀ g, Value.ownBlock o = some g → ¬ Iv u.heap.size K g) ∧ (Below w.heap.size w A) ∧ (s = af) ∧ (few < 0 ∨ (af.length : Int) ≤ few)) (fun K c af A => (∃ (s : List SpI) (q : Value), (c = .ret) ∧ (A.heap[au]? = some (.cells [(pt ac 0), (pt ay 0), a1, (pt a0 0)].toArray 66 (0, 0))) ∧ (A.heap[ac]? = some (.cells [a2, (.bool true)].toArray 115 (0, 0))) ∧ (A.heap[b1]? = some (.cells [(I6 few)].toArray 3 (0, 0))) ∧ (A.heap[b4]? = some (.cells [q].toArray 29 (0, 0))) ∧ (A.heap[aw]? = some (.cells [(pt au 0)].toArray 23 (0, 0))) ∧ (Row A w.heap.size 34 3 encSpanC q s) ∧ (∀ g, Value.ownBlock q = some g → ¬ Iv u.heap.size K g) ∧ (Below w.heap.size w A) ∧ (s = af) ∧ ((af.length : Int) = few + 1) ∧ (0 ≤ few))) ?_ ?_ ?_ ?_ ?_ ?_
 ·intro A hA
  exact ⟨[], (.slice none 0 0), zC n hA, zC f hA, zC i hA, zC d hA, zC b hA, zC m hA, Row.nil _ _ _ _ _, nr_nil _ _, p.trans (hA.mono p.size), by rfl, by (simp only [List.length_nil]; omega)⟩
 ·rintro K af A B ⟨s, o, n, f, i, d, b, m, a, j, p, p1, p2⟩ hc
  exact ⟨s, o, yG n hc (fun h => Nat.not_lt.2 h.1 ap), yG f hc (fun h => Nat.not_lt.2 h.1 al), yG i hc (fun h => Nat.not_lt.2 h.1 aq), yG d hc (fun h => Nat.not_lt.2 h.1 ar), yG b hc (fun h => Nat.not_lt.2 h.1 y), yG m hc (fun h => Nat.not_lt.2 h.1 az), a.ch hc j, j, hc.below p p.size (fun k h => Nat.le_trans a3 h.1), p1, p2⟩
 ·rintro K c af A B (⟨s, q, b7, n, f, i, d, b, ab, ag, p, q1, q2, q3⟩) hc
  exact ⟨s, q, b7, yG n hc (fun h => Nat.not_lt.2 h.1 ap), yG f hc (fun h => Nat.not_lt.2 h.1 al), yG i hc (fun h => Nat.not_lt.2 h.1 aq), yG d hc (fun h => Nat.not_lt.2 h.1 ar), yG b hc (fun h => Nat.not_lt.2 h.1 y), ab.ch hc ag, ag, hc.below p p.size (fun k h => Nat.le_trans a3 h.1), q1, q2, q3⟩
 ·intro l K af x A hi hN ck hK a6
  obtain ⟨s, o, n, f, i, d, b, m, a, j, p, p1, p2⟩ := hi
  have hk := Kp.refl (u.heap.size) K A
  have bt : ¬ Iv (u.heap.size) K au := fun h => Nat.not_lt.2 h.1 ap
  have bo : ¬ Iv (u.heap.size) K ac := fun h => Nat.not_lt.2 h.1 al
  have bp : ¬ Iv (u.heap.size) K b1 := fun h => Nat.not_lt.2 h.1 aq
  have bj : ¬ Iv (u.heap.size) K b4 := fun h => Nat.not_lt.2 h.1 ar
  have bc : ¬ Iv (u.heap.size) K aw := fun h => Nat.not_lt.2 h.1 y
  have bd : ¬ Iv (u.heap.size) K bl := fun h => Nat.not_lt.2 h.1 az
  have ai := an.below p
  replace b := hN.1
  replace n := hN.2.1
  replace f := hN.2.2.1
  have cn := tk_lt a6
  have cm : s.length = af.length := by rw [p1]
  refine wR (zN [(I3 0), (I3 0)] 32 ?_)
  intro b2 ci t
  have bx := t.ge p.size
  have ba : ¬ Iv u.heap.size K b2 := fun h => by have := h.2; have := t.num; omega
  replace hk := hk.ch (Ch.of_below t.below) hK (fun _ h => h.elim)
  replace hK := Nat.le_trans hK (t.below.size)
  have z := t.here
  refine qQ [(I3 x.1), (I3 x.2.1)] z ?_
  intro cf aa
  replace hk := hk.ch (Ch.of_wrote aa) hK (fun k e h => ba (e ▸ h))
  replace hK := Nat.le_trans hK (Nat.le_of_eq aa.size.symm)
  replace n := zC n t.below
  replace n := zI n aa (zU n z zi)
  replace f := zC f t.below
  replace f := zI f aa (zU f z zi)
  replace i := zC i t.below
  replace i := zI i aa (zU i z zi)
  replace d := zC d t.below
  replace d := zI d aa (zU d z zi)
  replace b := zC b t.below
  replace b := zI b aa (zU b z zi)
  replace m := zC m t.below
  replace m := zI m aa (zU m z zi)
  replace a := a.below t.below
  replace a := a.wrote aa (a.ne z zi)
  replace z := aa.here
  refine nQ (zP (zH (zQ (zB ⟨hk, ?_⟩))))
  intro b3 ad
  replace p := (p.tr t.below).trans (aa.below bx)
  replace p := ad.below p p.size (fun k h => Nat.le_trans a3 h.1)
  replace hK := Nat.le_trans hK ad.size
  replace hk := Kp.refl (u.heap.size) K b3
  replace m := yG m ad bd
  replace z := yG z ad ba
  replace a := a.ch ad j
  refine zW (wR (zO 0 m rfl (vT z (zD (zr (Value.agg #[(I3 x.1), (I3 x.2.1), (U8 x.2.2)]) (wH uH w.heap.size o s (x.1, x.2.1, x.2.2) p.size a zo zk rfl rfl zk rfl zk zk ?_))))))
  intro a4 ct bu ah br
  have bw := nr_app br j hK
  replace p := p.tg p.size ah a
  replace hk := hk.ch (Ch.of_grown ah) hK (fun k e => j k e)
  replace hK := Nat.le_trans hK (ah.size)
  replace n := yG n ad bt
  replace n := zY n ah (a.ne n zi)
  replace f := yG f ad bo
  replace f := zY f ah (a.ne f zi)
  replace i := yG i ad bp
  replace i := zY i ah (a.ne i zi)
  replace d := yG d ad bj
  replace d := zY d ah (a.ne d zi)
  replace b := yG b ad bc
  replace b := zY b ah (a.ne b zi)
  replace m := zY m ah (a.ne m zi)
  replace a := bu
  have j := bw; clear bw
  refine xC bl 0 a4 [o] [a4] 29 zk zk a.one zk m zi rfl ?_
  intro cs r
  replace hk := hk.ch (Ch.of_wrote r) hK (fun k e h => bd (e ▸ h))
  replace hK := Nat.le_trans hK (Nat.le_of_eq r.size.symm)
  replace n := zI n r (zU n m zi)
  replace f := zI f r (zU f m zi)
  replace i := zI i r (zU i m zi)
  replace b := zI b r (zU b m zi)
  replace a := a.wrote r (a.ne m zi)
  replace m := r.here
  refine nR (zO 0 i rfl (zGe .i64 few 0 ?_ ?_))
  ·intro co
   refine zD (zw (zO 0 m rfl (zw (vY underlying29 (a.rd).len (zw (zO 0 i rfl (zw (zGt .i64 ((((s ++ [(x.1, x.2.1, x.2.2)])).length : Nat) : Int) few ?_ ?_))))))))
   ·intro cl
    replace d := zI d r ao
    refine xJ (nQ (zT (wR (zO 0 m rfl (xC b4 0 a4 [(.slice none 0 0)] [a4] 29 zk zk a.one zk d zi rfl ?_)))))
    intro cu ak
    replace hk := hk.ch (Ch.of_wrote ak) hK (fun k e h => bj (e ▸ h))
    replace hK := Nat.le_trans hK (Nat.le_of_eq ak.size.symm)
    replace n := zI n ak (zU n d zi)
    replace f := zI f ak (zU f d zi)
    replace i := zI i ak (zU i d zi)
    replace b := zI b ak (zU b d zi)
    replace a := a.wrote ak (a.ne d zi)
    replace d := ak.here
    refine nQ (zR (zL ?_))
    replace p := (p.trans (r.below bh)).trans (ak.below bn)
    refine round_ret hk (⟨(s ++ [(x.1, x.2.1, x.2.2)]), a4, rfl, n, f, i, d, b, a, j, p, ?_, ?_, zo⟩)
    ·rw [p1]
    have hx : (s ++ [(x.1, x.2.1, x.2.2)]).length = af.length + 1 := (by simp [p1]); simp only [List.length_append, List.length_cons, List.length_nil] at *; omega
   intro cg
   refine xJ (nQ (zF (zK (zJ ?_))))
   replace p := p.trans (r.below bh)
   replace d := zI d r ao
   replace ai := an.below p
   refine qY hk ⟨b, n, f, ai⟩ ⟨(s ++ [(x.1, x.2.1, x.2.2)]), a4, n, f, i, d, b, m, a, j, p, ?_, ?_⟩
   ·rw [p1]
   have hx : (s ++ [(x.1, x.2.1, x.2.2)]).length = af.length + 1 := (by simp [p1]); rw [List.length_append]; simp only [List.length_cons, List.length_nil]; omega
  intro cq
  refine zD (zs (zs (zs (zs (xF (nQ (zF (zK (zJ ?_)))))))))
  replace p := p.trans (r.below bh)
  replace d := zI d r ao
  replace ai := an.below p
  refine qY hk ⟨b, n, f, ai⟩ ⟨(s ++ [(x.1, x.2.1, x.2.2)]), a4, n, f, i, d, b, m, a, j, p, ?_, ?_⟩
  ·rw [p1]
  have hx : (s ++ [(x.1, x.2.1, x.2.2)]).length = af.length + 1 := (by simp [p1]); rw [List.length_append]; simp only [List.length_cons, List.length_nil]; omega
 ·intro K A hi b5 ae
  obtain ⟨s, o, n, f, i, d, b, m, a, j, p, p1, p2⟩ := hi
  refine zJ (zB (wR (zO 0 m rfl (xC b4 0 o [(.slice none 0 0)] [o] 29 zk zk a.one zk d zi rfl ?_))))
  intro ce a7
  replace ae := zI ae a7 (zU ae d zi)
  replace a := a.wrote a7 (a.ne d zi)
  replace d := a7.here
  refine nQ (zR (wN (ds := [⟨.collected u.heap.size, #[]⟩]) zk (Lv_mark ae ?_)))
  intro cp bf
  replace d := zI d bf (zU d ae zi)
  replace a := a.wrote bf (a.ne ae zi)
  refine vL [.cell 6 29] [o] rfl ⟨⟨⟨b4, 0, none⟩, zk, load_one zk (yI d rfl)⟩, trivial⟩ ?_
  replace p := (p.trans (a7.below bn)).trans (bf.below a3)
  exact ⟨o, rfl, a.cast (by (rw [p1]; exact few_all zo)), p⟩
 intro K c bs x0 A a6 hx b5 ae
 obtain ⟨af, bi⟩ : ∃ af, af = bs ++ [x0] := ⟨_, rfl⟩
 rw [← bi] at a6; try rw [← bi] at hx
 rcases hx with ⟨s, q, rfl, n, f, i, d, b, ab, ag, p, q1, q2, q3⟩
 refine zR (zL (zG (wN (ds := [⟨.collected u.heap.size, #[]⟩]) zk (Lv_mark ae ?_))))
 intro cr be
 replace d := zI d be (zU d ae zi)
 replace ab := ab.wrote be (ab.ne ae zi)
 refine vL [.cell 6 29] [q] rfl ⟨⟨⟨b4, 0, none⟩, zk, load_one zk (yI d rfl)⟩, trivial⟩ ?_
 replace p := p.trans (be.below a3)
 exact ⟨q, rfl, ab.cast (by (rw [q1]; exact few_stop a6 q3 q2)), p⟩
theorem c_toldW (ap : Nat) (ay : Nat) (ax : Nat) (a0 : Value) (ad : Nat) (few : Int) (a4 : Value) (wh : List (Int × Int × Int)) (w : World) (o : w.heap[ap]? = some (.cells [(pt ay 0), (pt ax 0), a0, (pt ad 0)].toArray 66 (0, 0))) (i : w.heap[ad]? = some (.cells [a4, (.bool true)].toArray 115 (0, 0))) (an : Rd w encSpanC a4 wh) (hl : wh.length ≤ 1114112) :
  Calls Tryz.prog 11 #[(pt ap 0), (.bool true), (I6 few)] w (Ret fun v w' => ∃ (q0 : Value), v = q0 ∧ Row w' w.heap.size 34 3 encSpanC q0 (fewC wh few) ∧ Below w.heap.size w w') := by
 refine enterM (args := [(pt ap 0), (.bool true), (I6 few)]) func11 rfl (zk : _ = 39) zk ?_
 have q := Below.refl w.heap.size w
 have ao := an
 refine wR (zN [(I6 few)] 3 ?_)
 intro b1 w2 bp
 have ci := bp.ge q.size
 have j := bp.here
 refine zN [(.slice none 0 0)] 29 ?_
 intro b4 w5 bd
 replace q := q.tr bp.below
 have bt := bd.ge q.size
 have d := bd.here
 replace o := zC (zC o bp.below) bd.below
 refine nR (zD (zc (c_tNamed ap ay ax a0 ad _ o) ?_))
 rintro _ w7 ⟨a9, rfl, f, bc, bi⟩
 replace q := q.tr bd.below
 replace bc := Nat.le_trans q.size bc
 replace o := zC o bi
 refine zH (nW (wR (zD (nQ (zT (zP (zD (zc (c_tWhole ap ay ax a0 ad _ o) ?_))))))))
 rintro _ cv ⟨az, rfl, b, bb, a1⟩
 replace q := q.tr bi
 replace bb := Nat.le_trans q.size bb
 refine zH (nR (zN [(.slice none 0 0)] 29 ?_))
 intro bq u ah
 replace d := zC (zC d bi) a1
 have aq := NE_new (yL d) ah
 replace q := q.tr a1
 have bk := ah.ge q.size
 have n := ah.here
 refine nW (wR (zD (zr (.bool false) (nQ (zF (zK (zB (yA (wR (zD (nQ (zW ?_))))))))))))
 replace o := zC (zC o a1) ah.below
 have ar : ap < u.heap.size := yL o
 replace i := zC (zC (zC (zC (zC i bp.below) bd.below) bi) a1) ah.below
 have am : ad < u.heap.size := yL i
 replace j := zC (zC (zC (zC j bd.below) bi) a1) ah.below
 have au : b1 < u.heap.size := yL j
 replace d := zC d ah.below
 have av : b4 < u.heap.size := yL d
 replace f := zC (zC f a1) ah.below
 have ak : a9 < u.heap.size := yL f
 replace b := zC b ah.below
 have aa : az < u.heap.size := yL b
 have a3 : bq < u.heap.size := yL n
 replace q := q.tr ah.below
 have a5 := q.size
 have cj := q
 replace an := ao.below q
 refine W_range 71 [(pt az 0)] wh zk (fun _ _ => rfl) (it_Whole az ap ay ax a0 ad a4 wh zo) ⟨b, o, i, an⟩ ((fun D A B h hc hd => ⟨yG h.1 hc (fun h => Nat.not_lt.2 (hd _ h) aa), yG h.2.1 hc (fun h => Nat.not_lt.2 (hd _ h) ar), yG h.2.2.1 hc (fun h => Nat.not_lt.2 (hd _ h) am), Rd.ch an (Nat.le_refl _) h.2.2.2 hc hd⟩)) (by intro x; rfl) (fun K aj A => ∃ (y : List SpI) (p : Value), (A.heap[ap]? = some (.cells [(pt ay 0), (pt ax 0), a0, (pt ad 0)].toArray 66 (0, 0))) ∧ (A.heap[ad]? = some (.cells [a4, (.bool true)].toArray 115 (0, 0))) ∧ (A.heap[b1]? = some (.cells [(I6 few)].toArray 3 (0, 0))) ∧ (A.heap[b4]? = some (.cells [(.slice none 0 0)].toArray 29 (0, 0))) ∧ (A.heap[a9]? = some (.cells [(pt ap 0)].toArray 23 (0, 0))) ∧ (A.heap[az]? = some (.cells [(pt ap 0)].toArray 23 (0, 0))) ∧ (A.heap[bq]? = some (.cells [p].toArray 29 (0, 0))) ∧ (Row A w.heap.size 34 3 encSpanC p y) ∧ (∀ g, Value.ownBlock p = some g → ¬ Iv u.heap.size K g) ∧ (Below w.heap.size w A) ∧ (y = aj) ∧ (few < 0 ∨ (aj.length : Int) ≤ few)) (fun K c aj A => (∃ (y : List SpI) (s : Value), (c = .ret) ∧ (A.heap[ap]? = some (.cells [(pt ay 0), (pt ax 0), a0, (pt ad 0)].toArray 66 (0, 0))) ∧ (A.heap[ad]? = some (.cells [a4, (.bool true)].toArray 115 (0, 0))) ∧ (A.heap[b1]? = some (.cells [(I6 few)].toArray 3 (0, 0))) ∧ (A.heap[b4]? = some (.cells [s].toArray 29 (0, 0))) ∧ (A.heap[a9]? = some (.cells [(pt ap 0)].toArray 23 (0, 0))) ∧ (A.heap[az]? = some (.cells [(pt ap 0)].toArray 23 (0, 0))) ∧ (Row A w.heap.size 34 3 encSpanC s y) ∧ (∀ g, Value.ownBlock s = some g → ¬ Iv u.heap.size K g) ∧ (Below w.heap.size w A) ∧ (y = aj) ∧ ((aj.length : Int) = few + 1) ∧ (0 ≤ few))) ?_ ?_ ?_ ?_ ?_ ?_
 ·intro A hA
  exact ⟨[], (.slice none 0 0), zC o hA, zC i hA, zC j hA, zC d hA, zC f hA, zC b hA, zC n hA, Row.nil _ _ _ _ _, nr_nil _ _, q.trans (hA.mono q.size), by rfl, by (simp only [List.length_nil]; omega)⟩
 ·rintro K aj A B ⟨y, p, o, i, j, d, f, b, n, a, m, q, p1, p2⟩ hc
  exact ⟨y, p, yG o hc (fun h => Nat.not_lt.2 h.1 ar), yG i hc (fun h => Nat.not_lt.2 h.1 am), yG j hc (fun h => Nat.not_lt.2 h.1 au), yG d hc (fun h => Nat.not_lt.2 h.1 av), yG f hc (fun h => Nat.not_lt.2 h.1 ak), yG b hc (fun h => Nat.not_lt.2 h.1 aa), yG n hc (fun h => Nat.not_lt.2 h.1 a3), a.ch hc m, m, hc.below q q.size (fun k h => Nat.le_trans a5 h.1), p1, p2⟩
 ·rintro K c aj A B (⟨y, s, cb, o, i, j, d, f, b, ae, al, q, q1, q2, q3⟩) hc
  exact ⟨y, s, cb, yG o hc (fun h => Nat.not_lt.2 h.1 ar), yG i hc (fun h => Nat.not_lt.2 h.1 am), yG j hc (fun h => Nat.not_lt.2 h.1 au), yG d hc (fun h => Nat.not_lt.2 h.1 av), yG f hc (fun h => Nat.not_lt.2 h.1 ak), yG b hc (fun h => Nat.not_lt.2 h.1 aa), ae.ch hc al, al, hc.below q q.size (fun k h => Nat.le_trans a5 h.1), q1, q2, q3⟩
 ·intro l K aj x A hi hN cs hK a8
  obtain ⟨y, p, o, i, j, d, f, b, n, a, m, q, p1, p2⟩ := hi
  have hk := Kp.refl (u.heap.size) K A
  have bz : ¬ Iv (u.heap.size) K ap := fun h => Nat.not_lt.2 h.1 ar
  have bw : ¬ Iv (u.heap.size) K ad := fun h => Nat.not_lt.2 h.1 am
  have bv : ¬ Iv (u.heap.size) K b1 := fun h => Nat.not_lt.2 h.1 au
  have bo : ¬ Iv (u.heap.size) K b4 := fun h => Nat.not_lt.2 h.1 av
  have bg : ¬ Iv (u.heap.size) K a9 := fun h => Nat.not_lt.2 h.1 ak
  have bj : ¬ Iv (u.heap.size) K az := fun h => Nat.not_lt.2 h.1 aa
  have bh : ¬ Iv (u.heap.size) K bq := fun h => Nat.not_lt.2 h.1 a3
  have an := ao.below q
  replace b := hN.1
  replace o := hN.2.1
  replace i := hN.2.2.1
  have cu := tk_lt a8
  have ct : y.length = aj.length := by rw [p1]
  refine wR (zN [(I3 0), (I3 0)] 32 ?_)
  intro cc cq t
  have b5 := t.ge q.size
  have be : ¬ Iv u.heap.size K cc := fun h => by have := h.2; have := t.num; omega
  replace hk := hk.ch (Ch.of_below t.below) hK (fun _ h => h.elim)
  replace hK := Nat.le_trans hK (t.below.size)
  have z := t.here
  refine qQ [(I3 x.1), (I3 x.2.1)] z ?_
  intro c0 ab
  replace hk := hk.ch (Ch.of_wrote ab) hK (fun k e h => be (e ▸ h))
  replace hK := Nat.le_trans hK (Nat.le_of_eq ab.size.symm)
  replace o := zC o t.below
  replace o := zI o ab (zU o z zi)
  replace i := zC i t.below
  replace i := zI i ab (zU i z zi)
  replace j := zC j t.below
  replace j := zI j ab (zU j z zi)
  replace d := zC d t.below
  replace d := zI d ab (zU d z zi)
  replace f := zC f t.below
  replace f := zI f ab (zU f z zi)
  replace b := zC b t.below
  replace b := zI b ab (zU b z zi)
  replace n := zC n t.below
  replace n := zI n ab (zU n z zi)
  replace a := a.below t.below
  replace a := a.wrote ab (a.ne z zi)
  replace z := ab.here
  refine nQ (zP (zH (zQ (zB ⟨hk, ?_⟩))))
  intro b7 ac
  replace q := (q.tr t.below).trans (ab.below b5)
  replace q := ac.below q q.size (fun k h => Nat.le_trans a5 h.1)
  replace hK := Nat.le_trans hK ac.size
  replace hk := Kp.refl (u.heap.size) K b7
  replace n := yG n ac bh
  replace z := yG z ac be
  replace a := a.ch ac m
  refine zW (wR (zO 0 n rfl (vT z (zD (zr (Value.agg #[(I3 x.1), (I3 x.2.1), (U8 x.2.2)]) (wH uH w.heap.size p y (x.1, x.2.1, x.2.2) q.size a zo zk rfl rfl zk rfl zk zk ?_))))))
  intro a7 cy b0 af bu
  have b3 := nr_app bu m hK
  replace q := q.tg q.size af a
  replace hk := hk.ch (Ch.of_grown af) hK (fun k e => m k e)
  replace hK := Nat.le_trans hK (af.size)
  replace o := yG o ac bz
  replace o := zY o af (a.ne o zi)
  replace i := yG i ac bw
  replace i := zY i af (a.ne i zi)
  replace j := yG j ac bv
  replace j := zY j af (a.ne j zi)
  replace d := yG d ac bo
  replace d := zY d af (a.ne d zi)
  replace f := yG f ac bg
  replace f := zY f af (a.ne f zi)
  replace b := yG b ac bj
  replace b := zY b af (a.ne b zi)
  replace n := zY n af (a.ne n zi)
  replace a := b0
  have m := b3; clear b3
  refine xC bq 0 a7 [p] [a7] 29 zk zk a.one zk n zi rfl ?_
  intro cz r
  replace hk := hk.ch (Ch.of_wrote r) hK (fun k e h => bh (e ▸ h))
  replace hK := Nat.le_trans hK (Nat.le_of_eq r.size.symm)
  replace o := zI o r (zU o n zi)
  replace i := zI i r (zU i n zi)
  replace j := zI j r (zU j n zi)
  replace f := zI f r (zU f n zi)
  replace b := zI b r (zU b n zi)
  replace a := a.wrote r (a.ne n zi)
  replace n := r.here
  refine nR (zO 0 j rfl (zGe .i64 few 0 ?_ ?_))
  ·intro cn
   refine zD (zw (zO 0 n rfl (zw (vY underlying29 (a.rd).len (zw (zO 0 j rfl (zw (zGt .i64 ((((y ++ [(x.1, x.2.1, x.2.2)])).length : Nat) : Int) few ?_ ?_))))))))
   ·intro cw
    replace d := zI d r aq
    refine xJ (nQ (zT (wR (zO 0 n rfl (xC b4 0 a7 [(.slice none 0 0)] [a7] 29 zk zk a.one zk d zi rfl ?_)))))
    intro ck ag
    replace hk := hk.ch (Ch.of_wrote ag) hK (fun k e h => bo (e ▸ h))
    replace hK := Nat.le_trans hK (Nat.le_of_eq ag.size.symm)
    replace o := zI o ag (zU o d zi)
    replace i := zI i ag (zU i d zi)
    replace j := zI j ag (zU j d zi)
    replace f := zI f ag (zU f d zi)
    replace b := zI b ag (zU b d zi)
    replace a := a.wrote ag (a.ne d zi)
    replace d := ag.here
    refine nQ (zR (zL ?_))
    replace q := (q.trans (r.below bk)).trans (ag.below bt)
    refine round_ret hk (⟨(y ++ [(x.1, x.2.1, x.2.2)]), a7, rfl, o, i, j, d, f, b, a, m, q, ?_, ?_, zo⟩)
    ·rw [p1]
    have hx : (y ++ [(x.1, x.2.1, x.2.2)]).length = aj.length + 1 := (by simp [p1]); simp only [List.length_append, List.length_cons, List.length_nil] at *; omega
   intro cp
   refine xJ (nQ (zF (zK (zJ ?_))))
   replace q := q.trans (r.below bk)
   replace d := zI d r aq
   replace an := ao.below q
   refine qY hk ⟨b, o, i, an⟩ ⟨(y ++ [(x.1, x.2.1, x.2.2)]), a7, o, i, j, d, f, b, n, a, m, q, ?_, ?_⟩
   ·rw [p1]
   have hx : (y ++ [(x.1, x.2.1, x.2.2)]).length = aj.length + 1 := (by simp [p1]); rw [List.length_append]; simp only [List.length_cons, List.length_nil]; omega
  intro co
  refine zD (zs (zs (zs (zs (xF (nQ (zF (zK (zJ ?_)))))))))
  replace q := q.trans (r.below bk)
  replace d := zI d r aq
  replace an := ao.below q
  refine qY hk ⟨b, o, i, an⟩ ⟨(y ++ [(x.1, x.2.1, x.2.2)]), a7, o, i, j, d, f, b, n, a, m, q, ?_, ?_⟩
  ·rw [p1]
  have hx : (y ++ [(x.1, x.2.1, x.2.2)]).length = aj.length + 1 := (by simp [p1]); rw [List.length_append]; simp only [List.length_cons, List.length_nil]; omega
 ·intro K A hi b9 ai
  obtain ⟨y, p, o, i, j, d, f, b, n, a, m, q, p1, p2⟩ := hi
  refine zJ (zB (wR (zO 0 n rfl (xC b4 0 p [(.slice none 0 0)] [p] 29 zk zk a.one zk d zi rfl ?_))))
  intro cx ba
  replace ai := zI ai ba (zU ai d zi)
  replace a := a.wrote ba (a.ne d zi)
  replace d := ba.here
  refine nQ (zR (wN (ds := [⟨.collected u.heap.size, #[]⟩]) zk (Lv_mark ai ?_)))
  intro cl bn
  replace d := zI d bn (zU d ai zi)
  replace a := a.wrote bn (a.ne ai zi)
  refine vL [.cell 6 29] [p] rfl ⟨⟨⟨b4, 0, none⟩, zk, load_one zk (yI d rfl)⟩, trivial⟩ ?_
  replace q := (q.trans (ba.below bt)).trans (bn.below a5)
  exact ⟨p, rfl, a.cast (by (rw [p1]; exact few_all zo)), q⟩
 intro K c bx x0 A a8 hx b9 ai
 obtain ⟨aj, bm⟩ : ∃ aj, aj = bx ++ [x0] := ⟨_, rfl⟩
 rw [← bm] at a8; try rw [← bm] at hx
 rcases hx with ⟨y, s, rfl, o, i, j, d, f, b, ae, al, q, q1, q2, q3⟩
 refine zR (zL (zG (wN (ds := [⟨.collected u.heap.size, #[]⟩]) zk (Lv_mark ai ?_))))
 intro cm bl
 replace d := zI d bl (zU d ai zi)
 replace ae := ae.wrote bl (ae.ne ai zi)
 refine vL [.cell 6 29] [s] rfl ⟨⟨⟨b4, 0, none⟩, zk, load_one zk (yI d rfl)⟩, trivial⟩ ?_
 replace q := q.trans (bl.below a5)
 exact ⟨s, rfl, ae.cast (by (rw [q1]; exact few_stop a8 q3 q2)), q⟩
theorem c_same7 (aj : Value) (a : List (Int × Int × Int)) (ai : Value) (l : List (Int × Int × Int)) (few : Int) (w : World) (e : Rd w encSpanC aj a) (g : Rd w encSpanC ai l) (ha : a.length ≤ 1073741824) (hl : l.length ≤ 1073741824) :
  Calls Tryz.prog 17 #[aj, ai, (I6 few)] w (Ret fun v w' => v = (.bool (decide (a = fewC l few))) ∧ Below w.heap.size w w') := by
 refine wJ 39 func17 rfl ?_
 have d := Below.refl w.heap.size w
 have ba := few_n l few
 refine wR (zH (nR (zD (vY underlying29 (g).len (zH (nW (wR (zD (zGe .i64 few 0 ?_ ?_)))))))))
 ·intro h1
  refine zD (zw (zD (zw (zD (zw (yY (((l).length : Nat) : Int) 1 ((((l).length : Nat) : Int) - 1) rfl zk zk (yK _ zh zh) (zw (zLt .i64 few ((((l).length : Nat) : Int) - 1) ?_ ?_))))))))
  ·intro h2
   refine xJ (nQ (zT (zP (zD (yY few 1 (few + 1) rfl zk zk (yK _ zh zh) (zH (nW (wR (zD (vY underlying29 (e).len (zD (zNe .i64 (((a).length : Nat) : Int) (few + 1) ?_ ?_))))))))))))
   ·intro h3
    exact nQ (zT (wR (zH (nQ (zR (zG (zZ [(.bool false)] ⟨eb (by exact (decide_eq_false (same_len (n := few + 1) (by rw [ba, if_pos zo]) zo)).symm), d⟩)))))))
   intro h4
   refine nQ (zF (zK (zB (yA (wR (zH (nQ (zW (xA (fun m s0 w0 => ∃ (i : Nat), (m = a.length - i) ∧ (s0.ds = []) ∧ ([0, 1, 7, 8].map s0.f = [aj, ai, (I6 (few + 1)), (N6 i)]) ∧ (Rd w0 encSpanC aj a) ∧ (Rd w0 encSpanC ai l) ∧ (Below w.heap.size w w0) ∧ ((i : Int) ≤ (few + 1)) ∧ ((a.length : Int) = (few + 1)) ∧ (((fewC l few).length : Int) = (few + 1)) ∧ (a.take i = (fewC l few).take i)) _ ⟨0, rfl, zk, zk, e, g, d, zo, zo, (by (rw [ba, if_pos zo]; done)), rfl⟩ ?_)))))))))
   rintro m5 s6 w7 ⟨i, hm, s, bg, e, g, d, i1, i2, i4, i3⟩
   refine yX bg (yA (wR (zD (zD (zLt .i64 ((i : Nat) : Int) (few + 1) ?_ ?_)))))
   ·intro h8
    refine nQ (zT (zK (zB (yA (zW (yA (wD 9 zk zk zk ?_)))))))
    intro w9 ad
    refine ip 0 rfl aj (ip 1 rfl (N6 i) (ip 4 rfl ai (ip 5 rfl (N6 i) (qD 2 6 zk ?_ ?_))))
    ·skip
     refine yO 2 rfl ?_ rfl
     have u := zX a i zo; obtain ⟨q, cv⟩ := u
     have e := e.below ad
     have u := (e).at (k := 3) zj cv
     obtain ⟨bs, av, c6, bb⟩ := u
     refine yS (k := .i64) aj i _ bs av uH c6 zo zk zk (zQ ?_)
     refine ⟨rfl, qD 3 6 zk ?_ ?_⟩
     ·skip
      refine yO 3 rfl ?_ rfl
      refine xB bs (av + i * 3) [(I3 q.1), (I3 q.2.1), (U8 q.2.2)] zk zk zk bb (zQ ?_)
      refine ⟨rfl, yC 6 zk (yO 6 rfl ?_ rfl)⟩
      have u := zX l i zo; obtain ⟨al, c7⟩ := u
      have g := g.below ad
      have u := (g).at (k := 3) zj c7
      obtain ⟨du, bd, c3, dr⟩ := u
      refine yS (k := .i64) ai i _ du bd uH c3 zo zk zk (zQ ?_)
      refine ⟨rfl, yC 7 zk (yO 7 rfl ?_ rfl)⟩
      refine xB du (bd + i * 3) [(I3 al.1), (I3 al.2.1), (U8 al.2.2)] zk zk zk dr (zQ ?_)
      refine ⟨rfl, yC 8 zk (yO 8 rfl ?_ rfl)⟩
      refine qW [(I3 q.1), (I3 q.2.1), (U8 q.2.2)] [(I3 al.1), (I3 al.2.1), (U8 al.2.2)] (q.1 == al.1 && q.2.1 == al.2.1 && q.2.2 == al.2.2) zk zk zk (qV q.1 q.2.1 q.2.2 al.1 al.2.1 al.2.2) ?_ ?_
      ·intro eo
       refine zQ ?_
       refine ⟨rfl, yJ zk ?_⟩
       have d := d.tr ad
       exact zB (zT (wR (zH (nQ (zR (zL (zG (zG (zL (zG (zZ [(.bool false)] (hd := s) ⟨eb (by exact (decide_eq_false (qU (i := i) i4 zo za za (uM za))).symm), d⟩)))))))))))
      intro dk
      replace dk : q.1 = al.1 ∧ q.2.1 = al.2.1 ∧ q.2.2 = al.2.2 := by simpa [and_assoc] using dk
      refine zQ ?_
      refine ⟨rfl, yJ zk (zB (zF (zK (zJ (zB (zP (zD (xN i 1 (zH (zQ ?_))))))))))⟩
      have d := d.tr ad
      refine zB ⟨_, zo, (i + 1), rfl, s, zk, e, g, d, zo, ?_, ?_, ?_⟩
      ·exact i2
      ·exact i4
      exact wG (i := i) i4 i3 zo za za (sp_eq za)
     skip
     refine yO 6 rfl ?_ rfl
     have u := zX l i zo; obtain ⟨ab, dd⟩ := u
     have g := g.below ad
     have u := (g).at (k := 3) zj dd
     obtain ⟨cp, a3, c1, bt⟩ := u
     refine yS (k := .i64) ai i _ cp a3 uH c1 zo zk zk (zQ ?_)
     refine ⟨rfl, qD 3 7 zk ?_ ?_⟩
     ·skip
      refine yO 3 rfl ?_ rfl
      refine xB bs (av + i * 3) [(I3 q.1), (I3 q.2.1), (U8 q.2.2)] zk zk zk bb (zQ ?_)
      refine ⟨rfl, yC 7 zk (yO 7 rfl ?_ rfl)⟩
      refine xB cp (a3 + i * 3) [(I3 ab.1), (I3 ab.2.1), (U8 ab.2.2)] zk zk zk bt (zQ ?_)
      refine ⟨rfl, yC 8 zk (yO 8 rfl ?_ rfl)⟩
      refine qW [(I3 q.1), (I3 q.2.1), (U8 q.2.2)] [(I3 ab.1), (I3 ab.2.1), (U8 ab.2.2)] (q.1 == ab.1 && q.2.1 == ab.2.1 && q.2.2 == ab.2.2) zk zk zk (qV q.1 q.2.1 q.2.2 ab.1 ab.2.1 ab.2.2) ?_ ?_
      ·intro er
       refine zQ ?_
       refine ⟨rfl, yJ zk ?_⟩
       have d := d.tr ad
       exact zB (zT (wR (zH (nQ (zR (zL (zG (zG (zL (zG (zZ [(.bool false)] (hd := s) ⟨eb (by exact (decide_eq_false (qU (i := i) i4 zo za za (uM za))).symm), d⟩)))))))))))
      intro c2
      replace c2 : q.1 = ab.1 ∧ q.2.1 = ab.2.1 ∧ q.2.2 = ab.2.2 := by simpa [and_assoc] using c2
      refine zQ ?_
      refine ⟨rfl, yJ zk (zB (zF (zK (zJ (zB (zP (zD (xN i 1 (zH (zQ ?_))))))))))⟩
      have d := d.tr ad
      refine zB ⟨_, zo, (i + 1), rfl, s, zk, e, g, d, zo, ?_, ?_, ?_⟩
      ·exact i2
      ·exact i4
      exact wG (i := i) i4 i3 zo za za (sp_eq za)
     skip
     refine yO 7 rfl ?_ rfl
     refine xB cp (a3 + i * 3) [(I3 ab.1), (I3 ab.2.1), (U8 ab.2.2)] zk zk zk bt (zQ ?_)
     refine ⟨rfl, yC 3 zk (yO 3 rfl ?_ rfl)⟩
     refine xB bs (av + i * 3) [(I3 q.1), (I3 q.2.1), (U8 q.2.2)] zk zk zk bb (zQ ?_)
     refine ⟨rfl, yC 8 zk (yO 8 rfl ?_ rfl)⟩
     refine qW [(I3 q.1), (I3 q.2.1), (U8 q.2.2)] [(I3 ab.1), (I3 ab.2.1), (U8 ab.2.2)] (q.1 == ab.1 && q.2.1 == ab.2.1 && q.2.2 == ab.2.2) zk zk zk (qV q.1 q.2.1 q.2.2 ab.1 ab.2.1 ab.2.2) ?_ ?_
     ·intro ey
      refine zQ ?_
      refine ⟨rfl, yJ zk ?_⟩
      have d := d.tr ad
      exact zB (zT (wR (zH (nQ (zR (zL (zG (zG (zL (zG (zZ [(.bool false)] (hd := s) ⟨eb (by exact (decide_eq_false (qU (i := i) i4 zo za za (uM za))).symm), d⟩)))))))))))
     intro dg
     replace dg : q.1 = ab.1 ∧ q.2.1 = ab.2.1 ∧ q.2.2 = ab.2.2 := by simpa [and_assoc] using dg
     refine zQ ?_
     refine ⟨rfl, yJ zk (zB (zF (zK (zJ (zB (zP (zD (xN i 1 (zH (zQ ?_))))))))))⟩
     have d := d.tr ad
     refine zB ⟨_, zo, (i + 1), rfl, s, zk, e, g, d, zo, ?_, ?_, ?_⟩
     ·exact i2
     ·exact i4
     exact wG (i := i) i4 i3 zo za za (sp_eq za)
    skip
    refine yO 6 rfl ?_ rfl
    have u := zX l i zo; obtain ⟨p, db⟩ := u
    have g := g.below ad
    have u := (g).at (k := 3) zj db
    obtain ⟨bp, ay, c5, bj⟩ := u
    refine yS (k := .i64) ai i _ bp ay uH c5 zo zk zk (zQ ?_)
    refine ⟨rfl, qD 2 7 zk ?_ ?_⟩
    ·skip
     refine yO 2 rfl ?_ rfl
     have u := zX a i zo; obtain ⟨y, dv⟩ := u
     have e := e.below ad
     have u := (e).at (k := 3) zj dv
     obtain ⟨cq, a4, dp, b2⟩ := u
     refine yS (k := .i64) aj i _ cq a4 uH dp zo zk zk (zQ ?_)
     refine ⟨rfl, qD 3 7 zk ?_ ?_⟩
     ·skip
      refine yO 3 rfl ?_ rfl
      refine xB cq (a4 + i * 3) [(I3 y.1), (I3 y.2.1), (U8 y.2.2)] zk zk zk b2 (zQ ?_)
      refine ⟨rfl, yC 7 zk (yO 7 rfl ?_ rfl)⟩
      refine xB bp (ay + i * 3) [(I3 p.1), (I3 p.2.1), (U8 p.2.2)] zk zk zk bj (zQ ?_)
      refine ⟨rfl, yC 8 zk (yO 8 rfl ?_ rfl)⟩
      refine qW [(I3 y.1), (I3 y.2.1), (U8 y.2.2)] [(I3 p.1), (I3 p.2.1), (U8 p.2.2)] (y.1 == p.1 && y.2.1 == p.2.1 && y.2.2 == p.2.2) zk zk zk (qV y.1 y.2.1 y.2.2 p.1 p.2.1 p.2.2) ?_ ?_
      ·intro en
       refine zQ ?_
       refine ⟨rfl, yJ zk ?_⟩
       have d := d.tr ad
       exact zB (zT (wR (zH (nQ (zR (zL (zG (zG (zL (zG (zZ [(.bool false)] (hd := s) ⟨eb (by exact (decide_eq_false (qU (i := i) i4 zo za za (uM za))).symm), d⟩)))))))))))
      intro c4
      replace c4 : y.1 = p.1 ∧ y.2.1 = p.2.1 ∧ y.2.2 = p.2.2 := by simpa [and_assoc] using c4
      refine zQ ?_
      refine ⟨rfl, yJ zk (zB (zF (zK (zJ (zB (zP (zD (xN i 1 (zH (zQ ?_))))))))))⟩
      have d := d.tr ad
      refine zB ⟨_, zo, (i + 1), rfl, s, zk, e, g, d, zo, ?_, ?_, ?_⟩
      ·exact i2
      ·exact i4
      exact wG (i := i) i4 i3 zo za za (sp_eq za)
     skip
     refine yO 7 rfl ?_ rfl
     refine xB bp (ay + i * 3) [(I3 p.1), (I3 p.2.1), (U8 p.2.2)] zk zk zk bj (zQ ?_)
     refine ⟨rfl, yC 3 zk (yO 3 rfl ?_ rfl)⟩
     refine xB cq (a4 + i * 3) [(I3 y.1), (I3 y.2.1), (U8 y.2.2)] zk zk zk b2 (zQ ?_)
     refine ⟨rfl, yC 8 zk (yO 8 rfl ?_ rfl)⟩
     refine qW [(I3 y.1), (I3 y.2.1), (U8 y.2.2)] [(I3 p.1), (I3 p.2.1), (U8 p.2.2)] (y.1 == p.1 && y.2.1 == p.2.1 && y.2.2 == p.2.2) zk zk zk (qV y.1 y.2.1 y.2.2 p.1 p.2.1 p.2.2) ?_ ?_
     ·intro ez
      refine zQ ?_
      refine ⟨rfl, yJ zk ?_⟩
      have d := d.tr ad
      exact zB (zT (wR (zH (nQ (zR (zL (zG (zG (zL (zG (zZ [(.bool false)] (hd := s) ⟨eb (by exact (decide_eq_false (qU (i := i) i4 zo za za (uM za))).symm), d⟩)))))))))))
     intro df
     replace df : y.1 = p.1 ∧ y.2.1 = p.2.1 ∧ y.2.2 = p.2.2 := by simpa [and_assoc] using df
     refine zQ ?_
     refine ⟨rfl, yJ zk (zB (zF (zK (zJ (zB (zP (zD (xN i 1 (zH (zQ ?_))))))))))⟩
     have d := d.tr ad
     refine zB ⟨_, zo, (i + 1), rfl, s, zk, e, g, d, zo, ?_, ?_, ?_⟩
     ·exact i2
     ·exact i4
     exact wG (i := i) i4 i3 zo za za (sp_eq za)
    skip
    refine yO 7 rfl ?_ rfl
    refine xB bp (ay + i * 3) [(I3 p.1), (I3 p.2.1), (U8 p.2.2)] zk zk zk bj (zQ ?_)
    refine ⟨rfl, yC 2 zk (yO 2 rfl ?_ rfl)⟩
    have u := zX a i zo; obtain ⟨am, cx⟩ := u
    have e := e.below ad
    have u := (e).at (k := 3) zj cx
    obtain ⟨cz, bc, c8, dm⟩ := u
    refine yS (k := .i64) aj i _ cz bc uH c8 zo zk zk (zQ ?_)
    refine ⟨rfl, yC 3 zk (yO 3 rfl ?_ rfl)⟩
    refine xB cz (bc + i * 3) [(I3 am.1), (I3 am.2.1), (U8 am.2.2)] zk zk zk dm (zQ ?_)
    refine ⟨rfl, yC 8 zk (yO 8 rfl ?_ rfl)⟩
    refine qW [(I3 am.1), (I3 am.2.1), (U8 am.2.2)] [(I3 p.1), (I3 p.2.1), (U8 p.2.2)] (am.1 == p.1 && am.2.1 == p.2.1 && am.2.2 == p.2.2) zk zk zk (qV am.1 am.2.1 am.2.2 p.1 p.2.1 p.2.2) ?_ ?_
    ·intro ex
     refine zQ ?_
     refine ⟨rfl, yJ zk ?_⟩
     have d := d.tr ad
     exact zB (zT (wR (zH (nQ (zR (zL (zG (zG (zL (zG (zZ [(.bool false)] (hd := s) ⟨eb (by exact (decide_eq_false (qU (i := i) i4 zo za za (uM za))).symm), d⟩)))))))))))
    intro dh
    replace dh : am.1 = p.1 ∧ am.2.1 = p.2.1 ∧ am.2.2 = p.2.2 := by simpa [and_assoc] using dh
    refine zQ ?_
    refine ⟨rfl, yJ zk (zB (zF (zK (zJ (zB (zP (zD (xN i 1 (zH (zQ ?_))))))))))⟩
    have d := d.tr ad
    refine zB ⟨_, zo, (i + 1), rfl, s, zk, e, g, d, zo, ?_, ?_, ?_⟩
    ·exact i2
    ·exact i4
    exact wG (i := i) i4 i3 zo za za (sp_eq za)
   intro el
   exact nQ (zF (yU (zS (zS (yF (zB (wR (zH (nQ (zR (zZ [(.bool true)] (hd := s) ⟨eb (by exact (decide_eq_true (same_end i4 i3 i2 zo)).symm), d⟩)))))))))))
  intro ek
  refine xJ (nQ (zF (zK (zB (yA (wR (zD (vY underlying29 (e).len (zD (nNe ((a).length) ((l).length) ?_ ?_))))))))))
  ·intro ei
   exact nQ (zT (wR (zH (nQ (zR (zG (zZ [(.bool false)] ⟨eb (by exact (decide_eq_false (same_len (n := l.length) (by rw [ba, if_neg zo]) zo)).symm), d⟩)))))))
  intro es
  refine nQ (zF (zK (zB (yA (wR (zH (nQ (zW (xA (fun m s0 w0 => ∃ (i : Nat), (m = a.length - i) ∧ (s0.ds = []) ∧ ([0, 1, 7, 8].map s0.f = [aj, ai, (N6 ((l).length)), (N6 i)]) ∧ (Rd w0 encSpanC aj a) ∧ (Rd w0 encSpanC ai l) ∧ (Below w.heap.size w w0) ∧ ((i : Int) ≤ (((l).length : Nat) : Int)) ∧ ((a.length : Int) = (((l).length : Nat) : Int)) ∧ (((fewC l few).length : Int) = (((l).length : Nat) : Int)) ∧ (a.take i = (fewC l few).take i)) _ ⟨0, rfl, zk, zk, e, g, d, zo, zo, (by (rw [ba, if_neg zo]; done)), rfl⟩ ?_)))))))))
  rintro em ej ep ⟨i, hm, s, bg, e, g, d, i1, i2, i4, i3⟩
  refine yX bg (yA (wR (zD (zD (nLt i ((l).length) ?_ ?_)))))
  ·intro eu
   refine nQ (zT (zK (zB (yA (zW (yA (wD 9 zk zk zk ?_)))))))
   intro e0 ae
   refine ip 0 rfl aj (ip 1 rfl (N6 i) (ip 4 rfl ai (ip 5 rfl (N6 i) (qD 2 6 zk ?_ ?_))))
   ·skip
    refine yO 2 rfl ?_ rfl
    have u := zX a i zo; obtain ⟨r, dt⟩ := u
    have e := e.below ae
    have u := (e).at (k := 3) zj dt
    obtain ⟨br, aw, dc, be⟩ := u
    refine yS (k := .i64) aj i _ br aw uH dc zo zk zk (zQ ?_)
    refine ⟨rfl, qD 3 6 zk ?_ ?_⟩
    ·skip
     refine yO 3 rfl ?_ rfl
     refine xB br (aw + i * 3) [(I3 r.1), (I3 r.2.1), (U8 r.2.2)] zk zk zk be (zQ ?_)
     refine ⟨rfl, yC 6 zk (yO 6 rfl ?_ rfl)⟩
     have u := zX l i zo; obtain ⟨ak, de⟩ := u
     have g := g.below ae
     have u := (g).at (k := 3) zj de
     obtain ⟨cy, bh, dj, dq⟩ := u
     refine yS (k := .i64) ai i _ cy bh uH dj zo zk zk (zQ ?_)
     refine ⟨rfl, yC 7 zk (yO 7 rfl ?_ rfl)⟩
     refine xB cy (bh + i * 3) [(I3 ak.1), (I3 ak.2.1), (U8 ak.2.2)] zk zk zk dq (zQ ?_)
     refine ⟨rfl, yC 8 zk (yO 8 rfl ?_ rfl)⟩
     refine qW [(I3 r.1), (I3 r.2.1), (U8 r.2.2)] [(I3 ak.1), (I3 ak.2.1), (U8 ak.2.2)] (r.1 == ak.1 && r.2.1 == ak.2.1 && r.2.2 == ak.2.2) zk zk zk (qV r.1 r.2.1 r.2.2 ak.1 ak.2.1 ak.2.2) ?_ ?_
     ·intro ev
      refine zQ ?_
      refine ⟨rfl, yJ zk ?_⟩
      have d := d.tr ae
      exact zB (zT (wR (zH (nQ (zR (zL (zG (zG (zL (zG (zZ [(.bool false)] (hd := s) ⟨eb (by exact (decide_eq_false (qU (i := i) i4 zo za za (uM za))).symm), d⟩)))))))))))
     intro di
     replace di : r.1 = ak.1 ∧ r.2.1 = ak.2.1 ∧ r.2.2 = ak.2.2 := by simpa [and_assoc] using di
     refine zQ ?_
     refine ⟨rfl, yJ zk (zB (zF (zK (zJ (zB (zP (zD (xN i 1 (zH (zQ ?_))))))))))⟩
     have d := d.tr ae
     refine zB ⟨_, zo, (i + 1), rfl, s, zk, e, g, d, zo, ?_, ?_, ?_⟩
     ·exact i2
     ·exact i4
     exact wG (i := i) i4 i3 zo za za (sp_eq za)
    skip
    refine yO 6 rfl ?_ rfl
    have u := zX l i zo; obtain ⟨z, c0⟩ := u
    have g := g.below ae
    have u := (g).at (k := 3) zj c0
    obtain ⟨ci, a1, c9, bz⟩ := u
    refine yS (k := .i64) ai i _ ci a1 uH c9 zo zk zk (zQ ?_)
    refine ⟨rfl, qD 3 7 zk ?_ ?_⟩
    ·skip
     refine yO 3 rfl ?_ rfl
     refine xB br (aw + i * 3) [(I3 r.1), (I3 r.2.1), (U8 r.2.2)] zk zk zk be (zQ ?_)
     refine ⟨rfl, yC 7 zk (yO 7 rfl ?_ rfl)⟩
     refine xB ci (a1 + i * 3) [(I3 z.1), (I3 z.2.1), (U8 z.2.2)] zk zk zk bz (zQ ?_)
     refine ⟨rfl, yC 8 zk (yO 8 rfl ?_ rfl)⟩
     refine qW [(I3 r.1), (I3 r.2.1), (U8 r.2.2)] [(I3 z.1), (I3 z.2.1), (U8 z.2.2)] (r.1 == z.1 && r.2.1 == z.2.1 && r.2.2 == z.2.2) zk zk zk (qV r.1 r.2.1 r.2.2 z.1 z.2.1 z.2.2) ?_ ?_
     ·intro ew
      refine zQ ?_
      refine ⟨rfl, yJ zk ?_⟩
      have d := d.tr ae
      exact zB (zT (wR (zH (nQ (zR (zL (zG (zG (zL (zG (zZ [(.bool false)] (hd := s) ⟨eb (by exact (decide_eq_false (qU (i := i) i4 zo za za (uM za))).symm), d⟩)))))))))))
     intro cw
     replace cw : r.1 = z.1 ∧ r.2.1 = z.2.1 ∧ r.2.2 = z.2.2 := by simpa [and_assoc] using cw
     refine zQ ?_
     refine ⟨rfl, yJ zk (zB (zF (zK (zJ (zB (zP (zD (xN i 1 (zH (zQ ?_))))))))))⟩
     have d := d.tr ae
     refine zB ⟨_, zo, (i + 1), rfl, s, zk, e, g, d, zo, ?_, ?_, ?_⟩
     ·exact i2
     ·exact i4
     exact wG (i := i) i4 i3 zo za za (sp_eq za)
    skip
    refine yO 7 rfl ?_ rfl
    refine xB ci (a1 + i * 3) [(I3 z.1), (I3 z.2.1), (U8 z.2.2)] zk zk zk bz (zQ ?_)
    refine ⟨rfl, yC 3 zk (yO 3 rfl ?_ rfl)⟩
    refine xB br (aw + i * 3) [(I3 r.1), (I3 r.2.1), (U8 r.2.2)] zk zk zk be (zQ ?_)
    refine ⟨rfl, yC 8 zk (yO 8 rfl ?_ rfl)⟩
    refine qW [(I3 r.1), (I3 r.2.1), (U8 r.2.2)] [(I3 z.1), (I3 z.2.1), (U8 z.2.2)] (r.1 == z.1 && r.2.1 == z.2.1 && r.2.2 == z.2.2) zk zk zk (qV r.1 r.2.1 r.2.2 z.1 z.2.1 z.2.2) ?_ ?_
    ·intro et
     refine zQ ?_
     refine ⟨rfl, yJ zk ?_⟩
     have d := d.tr ae
     exact zB (zT (wR (zH (nQ (zR (zL (zG (zG (zL (zG (zZ [(.bool false)] (hd := s) ⟨eb (by exact (decide_eq_false (qU (i := i) i4 zo za za (uM za))).symm), d⟩)))))))))))
    intro dl
    replace dl : r.1 = z.1 ∧ r.2.1 = z.2.1 ∧ r.2.2 = z.2.2 := by simpa [and_assoc] using dl
    refine zQ ?_
    refine ⟨rfl, yJ zk (zB (zF (zK (zJ (zB (zP (zD (xN i 1 (zH (zQ ?_))))))))))⟩
    have d := d.tr ae
    refine zB ⟨_, zo, (i + 1), rfl, s, zk, e, g, d, zo, ?_, ?_, ?_⟩
    ·exact i2
    ·exact i4
    exact wG (i := i) i4 i3 zo za za (sp_eq za)
   skip
   refine yO 6 rfl ?_ rfl
   have u := zX l i zo; obtain ⟨o, dn⟩ := u
   have g := g.below ae
   have u := (g).at (k := 3) zj dn
   obtain ⟨bq, ax, da, bm⟩ := u
   refine yS (k := .i64) ai i _ bq ax uH da zo zk zk (zQ ?_)
   refine ⟨rfl, qD 2 7 zk ?_ ?_⟩
   ·skip
    refine yO 2 rfl ?_ rfl
    have u := zX a i zo; obtain ⟨aa, cd⟩ := u
    have e := e.below ae
    have u := (e).at (k := 3) zj cd
    obtain ⟨bi, ar, ct, bk⟩ := u
    refine yS (k := .i64) aj i _ bi ar uH ct zo zk zk (zQ ?_)
    refine ⟨rfl, qD 3 7 zk ?_ ?_⟩
    ·skip
     refine yO 3 rfl ?_ rfl
     refine xB bi (ar + i * 3) [(I3 aa.1), (I3 aa.2.1), (U8 aa.2.2)] zk zk zk bk (zQ ?_)
     refine ⟨rfl, yC 7 zk (yO 7 rfl ?_ rfl)⟩
     refine xB bq (ax + i * 3) [(I3 o.1), (I3 o.2.1), (U8 o.2.2)] zk zk zk bm (zQ ?_)
     refine ⟨rfl, yC 8 zk (yO 8 rfl ?_ rfl)⟩
     refine qW [(I3 aa.1), (I3 aa.2.1), (U8 aa.2.2)] [(I3 o.1), (I3 o.2.1), (U8 o.2.2)] (aa.1 == o.1 && aa.2.1 == o.2.1 && aa.2.2 == o.2.2) zk zk zk (qV aa.1 aa.2.1 aa.2.2 o.1 o.2.1 o.2.2) ?_ ?_
     ·intro d1
      refine zQ ?_
      refine ⟨rfl, yJ zk ?_⟩
      have d := d.tr ae
      exact zB (zT (wR (zH (nQ (zR (zL (zG (zG (zL (zG (zZ [(.bool false)] (hd := s) ⟨eb (by exact (decide_eq_false (qU (i := i) i4 zo za za (uM za))).symm), d⟩)))))))))))
     intro b5
     replace b5 : aa.1 = o.1 ∧ aa.2.1 = o.2.1 ∧ aa.2.2 = o.2.2 := by simpa [and_assoc] using b5
     refine zQ ?_
     refine ⟨rfl, yJ zk (zB (zF (zK (zJ (zB (zP (zD (xN i 1 (zH (zQ ?_))))))))))⟩
     have d := d.tr ae
     refine zB ⟨_, zo, (i + 1), rfl, s, zk, e, g, d, zo, ?_, ?_, ?_⟩
     ·exact i2
     ·exact i4
     exact wG (i := i) i4 i3 zo za za (sp_eq za)
    skip
    refine yO 7 rfl ?_ rfl
    refine xB bq (ax + i * 3) [(I3 o.1), (I3 o.2.1), (U8 o.2.2)] zk zk zk bm (zQ ?_)
    refine ⟨rfl, yC 3 zk (yO 3 rfl ?_ rfl)⟩
    refine xB bi (ar + i * 3) [(I3 aa.1), (I3 aa.2.1), (U8 aa.2.2)] zk zk zk bk (zQ ?_)
    refine ⟨rfl, yC 8 zk (yO 8 rfl ?_ rfl)⟩
    refine qW [(I3 aa.1), (I3 aa.2.1), (U8 aa.2.2)] [(I3 o.1), (I3 o.2.1), (U8 o.2.2)] (aa.1 == o.1 && aa.2.1 == o.2.1 && aa.2.2 == o.2.2) zk zk zk (qV aa.1 aa.2.1 aa.2.2 o.1 o.2.1 o.2.2) ?_ ?_
    ·intro eh
     refine zQ ?_
     refine ⟨rfl, yJ zk ?_⟩
     have d := d.tr ae
     exact zB (zT (wR (zH (nQ (zR (zL (zG (zG (zL (zG (zZ [(.bool false)] (hd := s) ⟨eb (by exact (decide_eq_false (qU (i := i) i4 zo za za (uM za))).symm), d⟩)))))))))))
    intro b8
    replace b8 : aa.1 = o.1 ∧ aa.2.1 = o.2.1 ∧ aa.2.2 = o.2.2 := by simpa [and_assoc] using b8
    refine zQ ?_
    refine ⟨rfl, yJ zk (zB (zF (zK (zJ (zB (zP (zD (xN i 1 (zH (zQ ?_))))))))))⟩
    have d := d.tr ae
    refine zB ⟨_, zo, (i + 1), rfl, s, zk, e, g, d, zo, ?_, ?_, ?_⟩
    ·exact i2
    ·exact i4
    exact wG (i := i) i4 i3 zo za za (sp_eq za)
   skip
   refine yO 7 rfl ?_ rfl
   refine xB bq (ax + i * 3) [(I3 o.1), (I3 o.2.1), (U8 o.2.2)] zk zk zk bm (zQ ?_)
   refine ⟨rfl, yC 2 zk (yO 2 rfl ?_ rfl)⟩
   have u := zX a i zo; obtain ⟨ah, b9⟩ := u
   have e := e.below ae
   have u := (e).at (k := 3) zj b9
   obtain ⟨bv, a5, cj, cl⟩ := u
   refine yS (k := .i64) aj i _ bv a5 uH cj zo zk zk (zQ ?_)
   refine ⟨rfl, yC 3 zk (yO 3 rfl ?_ rfl)⟩
   refine xB bv (a5 + i * 3) [(I3 ah.1), (I3 ah.2.1), (U8 ah.2.2)] zk zk zk cl (zQ ?_)
   refine ⟨rfl, yC 8 zk (yO 8 rfl ?_ rfl)⟩
   refine qW [(I3 ah.1), (I3 ah.2.1), (U8 ah.2.2)] [(I3 o.1), (I3 o.2.1), (U8 o.2.2)] (ah.1 == o.1 && ah.2.1 == o.2.1 && ah.2.2 == o.2.2) zk zk zk (qV ah.1 ah.2.1 ah.2.2 o.1 o.2.1 o.2.2) ?_ ?_
   ·intro d8
    refine zQ ?_
    refine ⟨rfl, yJ zk ?_⟩
    have d := d.tr ae
    exact zB (zT (wR (zH (nQ (zR (zL (zG (zG (zL (zG (zZ [(.bool false)] (hd := s) ⟨eb (by exact (decide_eq_false (qU (i := i) i4 zo za za (uM za))).symm), d⟩)))))))))))
   intro b1
   replace b1 : ah.1 = o.1 ∧ ah.2.1 = o.2.1 ∧ ah.2.2 = o.2.2 := by simpa [and_assoc] using b1
   refine zQ ?_
   refine ⟨rfl, yJ zk (zB (zF (zK (zJ (zB (zP (zD (xN i 1 (zH (zQ ?_))))))))))⟩
   have d := d.tr ae
   refine zB ⟨_, zo, (i + 1), rfl, s, zk, e, g, d, zo, ?_, ?_, ?_⟩
   ·exact i2
   ·exact i4
   exact wG (i := i) i4 i3 zo za za (sp_eq za)
  intro d4
  exact nQ (zF (yU (zS (zS (yF (zB (wR (zH (nQ (zR (zZ [(.bool true)] (hd := s) ⟨eb (by exact (decide_eq_true (same_end i4 i3 i2 zo)).symm), d⟩)))))))))))
 intro d5
 refine zD (zs (zs (zs (zs (xF (nQ (zF (zK (zB (yA (wR (zD (vY underlying29 (e).len (zD (nNe ((a).length) ((l).length) ?_ ?_)))))))))))))))
 ·intro d0
  exact nQ (zT (wR (zH (nQ (zR (zG (zZ [(.bool false)] ⟨eb (by exact (decide_eq_false (same_len (n := l.length) (by rw [ba, if_neg zo]) zo)).symm), d⟩)))))))
 intro eg
 refine nQ (zF (zK (zB (yA (wR (zH (nQ (zW (xA (fun m s0 w0 => ∃ (i : Nat), (m = a.length - i) ∧ (s0.ds = []) ∧ ([0, 1, 7, 8].map s0.f = [aj, ai, (N6 ((l).length)), (N6 i)]) ∧ (Rd w0 encSpanC aj a) ∧ (Rd w0 encSpanC ai l) ∧ (Below w.heap.size w w0) ∧ ((i : Int) ≤ (((l).length : Nat) : Int)) ∧ ((a.length : Int) = (((l).length : Nat) : Int)) ∧ (((fewC l few).length : Int) = (((l).length : Nat) : Int)) ∧ (a.take i = (fewC l few).take i)) _ ⟨0, rfl, zk, zk, e, g, d, zo, zo, (by (rw [ba, if_neg zo]; done)), rfl⟩ ?_)))))))))
 rintro ef d2 ee ⟨i, hm, s, bg, e, g, d, i1, i2, i4, i3⟩
 refine yX bg (yA (wR (zD (zD (nLt i ((l).length) ?_ ?_)))))
 ·intro d7
  refine nQ (zT (zK (zB (yA (zW (yA (wD 9 zk zk zk ?_)))))))
  intro d9 t
  refine ip 0 rfl aj (ip 1 rfl (N6 i) (ip 4 rfl ai (ip 5 rfl (N6 i) (qD 2 6 zk ?_ ?_))))
  ·skip
   refine yO 2 rfl ?_ rfl
   have u := zX a i zo; obtain ⟨b, ca⟩ := u
   have e := e.below t
   have u := (e).at (k := 3) zj ca
   obtain ⟨a9, an, cr, a2⟩ := u
   refine yS (k := .i64) aj i _ a9 an uH cr zo zk zk (zQ ?_)
   refine ⟨rfl, qD 3 6 zk ?_ ?_⟩
   ·skip
    refine yO 3 rfl ?_ rfl
    refine xB a9 (an + i * 3) [(I3 b.1), (I3 b.2.1), (U8 b.2.2)] zk zk zk a2 (zQ ?_)
    refine ⟨rfl, yC 6 zk (yO 6 rfl ?_ rfl)⟩
    have u := zX l i zo; obtain ⟨ag, ch⟩ := u
    have g := g.below t
    have u := (g).at (k := 3) zj ch
    obtain ⟨bu, a7, ck, cs⟩ := u
    refine yS (k := .i64) ai i _ bu a7 uH ck zo zk zk (zQ ?_)
    refine ⟨rfl, yC 7 zk (yO 7 rfl ?_ rfl)⟩
    refine xB bu (a7 + i * 3) [(I3 ag.1), (I3 ag.2.1), (U8 ag.2.2)] zk zk zk cs (zQ ?_)
    refine ⟨rfl, yC 8 zk (yO 8 rfl ?_ rfl)⟩
    refine qW [(I3 b.1), (I3 b.2.1), (U8 b.2.2)] [(I3 ag.1), (I3 ag.2.1), (U8 ag.2.2)] (b.1 == ag.1 && b.2.1 == ag.2.1 && b.2.2 == ag.2.2) zk zk zk (qV b.1 b.2.1 b.2.2 ag.1 ag.2.1 ag.2.2) ?_ ?_
    ·intro dz
     refine zQ ?_
     refine ⟨rfl, yJ zk ?_⟩
     have d := d.tr t
     exact zB (zT (wR (zH (nQ (zR (zL (zG (zG (zL (zG (zZ [(.bool false)] (hd := s) ⟨eb (by exact (decide_eq_false (qU (i := i) i4 zo za za (uM za))).symm), d⟩)))))))))))
    intro b6
    replace b6 : b.1 = ag.1 ∧ b.2.1 = ag.2.1 ∧ b.2.2 = ag.2.2 := by simpa [and_assoc] using b6
    refine zQ ?_
    refine ⟨rfl, yJ zk (zB (zF (zK (zJ (zB (zP (zD (xN i 1 (zH (zQ ?_))))))))))⟩
    have d := d.tr t
    refine zB ⟨_, zo, (i + 1), rfl, s, zk, e, g, d, zo, ?_, ?_, ?_⟩
    ·exact i2
    ·exact i4
    exact wG (i := i) i4 i3 zo za za (sp_eq za)
   skip
   refine yO 6 rfl ?_ rfl
   have u := zX l i zo; obtain ⟨h, cf⟩ := u
   have g := g.below t
   have u := (g).at (k := 3) zj cf
   obtain ⟨bl, az, cu, bo⟩ := u
   refine yS (k := .i64) ai i _ bl az uH cu zo zk zk (zQ ?_)
   refine ⟨rfl, qD 3 7 zk ?_ ?_⟩
   ·skip
    refine yO 3 rfl ?_ rfl
    refine xB a9 (an + i * 3) [(I3 b.1), (I3 b.2.1), (U8 b.2.2)] zk zk zk a2 (zQ ?_)
    refine ⟨rfl, yC 7 zk (yO 7 rfl ?_ rfl)⟩
    refine xB bl (az + i * 3) [(I3 h.1), (I3 h.2.1), (U8 h.2.2)] zk zk zk bo (zQ ?_)
    refine ⟨rfl, yC 8 zk (yO 8 rfl ?_ rfl)⟩
    refine qW [(I3 b.1), (I3 b.2.1), (U8 b.2.2)] [(I3 h.1), (I3 h.2.1), (U8 h.2.2)] (b.1 == h.1 && b.2.1 == h.2.1 && b.2.2 == h.2.2) zk zk zk (qV b.1 b.2.1 b.2.2 h.1 h.2.1 h.2.2) ?_ ?_
    ·intro ea
     refine zQ ?_
     refine ⟨rfl, yJ zk ?_⟩
     have d := d.tr t
     exact zB (zT (wR (zH (nQ (zR (zL (zG (zG (zL (zG (zZ [(.bool false)] (hd := s) ⟨eb (by exact (decide_eq_false (qU (i := i) i4 zo za za (uM za))).symm), d⟩)))))))))))
    intro b0
    replace b0 : b.1 = h.1 ∧ b.2.1 = h.2.1 ∧ b.2.2 = h.2.2 := by simpa [and_assoc] using b0
    refine zQ ?_
    refine ⟨rfl, yJ zk (zB (zF (zK (zJ (zB (zP (zD (xN i 1 (zH (zQ ?_))))))))))⟩
    have d := d.tr t
    refine zB ⟨_, zo, (i + 1), rfl, s, zk, e, g, d, zo, ?_, ?_, ?_⟩
    ·exact i2
    ·exact i4
    exact wG (i := i) i4 i3 zo za za (sp_eq za)
   skip
   refine yO 7 rfl ?_ rfl
   refine xB bl (az + i * 3) [(I3 h.1), (I3 h.2.1), (U8 h.2.2)] zk zk zk bo (zQ ?_)
   refine ⟨rfl, yC 3 zk (yO 3 rfl ?_ rfl)⟩
   refine xB a9 (an + i * 3) [(I3 b.1), (I3 b.2.1), (U8 b.2.2)] zk zk zk a2 (zQ ?_)
   refine ⟨rfl, yC 8 zk (yO 8 rfl ?_ rfl)⟩
   refine qW [(I3 b.1), (I3 b.2.1), (U8 b.2.2)] [(I3 h.1), (I3 h.2.1), (U8 h.2.2)] (b.1 == h.1 && b.2.1 == h.2.1 && b.2.2 == h.2.2) zk zk zk (qV b.1 b.2.1 b.2.2 h.1 h.2.1 h.2.2) ?_ ?_
   ·intro ec
    refine zQ ?_
    refine ⟨rfl, yJ zk ?_⟩
    have d := d.tr t
    exact zB (zT (wR (zH (nQ (zR (zL (zG (zG (zL (zG (zZ [(.bool false)] (hd := s) ⟨eb (by exact (decide_eq_false (qU (i := i) i4 zo za za (uM za))).symm), d⟩)))))))))))
   intro b4
   replace b4 : b.1 = h.1 ∧ b.2.1 = h.2.1 ∧ b.2.2 = h.2.2 := by simpa [and_assoc] using b4
   refine zQ ?_
   refine ⟨rfl, yJ zk (zB (zF (zK (zJ (zB (zP (zD (xN i 1 (zH (zQ ?_))))))))))⟩
   have d := d.tr t
   refine zB ⟨_, zo, (i + 1), rfl, s, zk, e, g, d, zo, ?_, ?_, ?_⟩
   ·exact i2
   ·exact i4
   exact wG (i := i) i4 i3 zo za za (sp_eq za)
  skip
  refine yO 6 rfl ?_ rfl
  have u := zX l i zo; obtain ⟨c, cn⟩ := u
  have g := g.below t
  have u := (g).at (k := 3) zj cn
  obtain ⟨a8, ao, cg, a0⟩ := u
  refine yS (k := .i64) ai i _ a8 ao uH cg zo zk zk (zQ ?_)
  refine ⟨rfl, qD 2 7 zk ?_ ?_⟩
  ·skip
   refine yO 2 rfl ?_ rfl
   have u := zX a i zo; obtain ⟨j, co⟩ := u
   have e := e.below t
   have u := (e).at (k := 3) zj co
   obtain ⟨bn, au, cm, bf⟩ := u
   refine yS (k := .i64) aj i _ bn au uH cm zo zk zk (zQ ?_)
   refine ⟨rfl, qD 3 7 zk ?_ ?_⟩
   ·skip
    refine yO 3 rfl ?_ rfl
    refine xB bn (au + i * 3) [(I3 j.1), (I3 j.2.1), (U8 j.2.2)] zk zk zk bf (zQ ?_)
    refine ⟨rfl, yC 7 zk (yO 7 rfl ?_ rfl)⟩
    refine xB a8 (ao + i * 3) [(I3 c.1), (I3 c.2.1), (U8 c.2.2)] zk zk zk a0 (zQ ?_)
    refine ⟨rfl, yC 8 zk (yO 8 rfl ?_ rfl)⟩
    refine qW [(I3 j.1), (I3 j.2.1), (U8 j.2.2)] [(I3 c.1), (I3 c.2.1), (U8 c.2.2)] (j.1 == c.1 && j.2.1 == c.2.1 && j.2.2 == c.2.2) zk zk zk (qV j.1 j.2.1 j.2.2 c.1 c.2.1 c.2.2) ?_ ?_
    ·intro dw
     refine zQ ?_
     refine ⟨rfl, yJ zk ?_⟩
     have d := d.tr t
     exact zB (zT (wR (zH (nQ (zR (zL (zG (zG (zL (zG (zZ [(.bool false)] (hd := s) ⟨eb (by exact (decide_eq_false (qU (i := i) i4 zo za za (uM za))).symm), d⟩)))))))))))
    intro bx
    replace bx : j.1 = c.1 ∧ j.2.1 = c.2.1 ∧ j.2.2 = c.2.2 := by simpa [and_assoc] using bx
    refine zQ ?_
    refine ⟨rfl, yJ zk (zB (zF (zK (zJ (zB (zP (zD (xN i 1 (zH (zQ ?_))))))))))⟩
    have d := d.tr t
    refine zB ⟨_, zo, (i + 1), rfl, s, zk, e, g, d, zo, ?_, ?_, ?_⟩
    ·exact i2
    ·exact i4
    exact wG (i := i) i4 i3 zo za za (sp_eq za)
   skip
   refine yO 7 rfl ?_ rfl
   refine xB a8 (ao + i * 3) [(I3 c.1), (I3 c.2.1), (U8 c.2.2)] zk zk zk a0 (zQ ?_)
   refine ⟨rfl, yC 3 zk (yO 3 rfl ?_ rfl)⟩
   refine xB bn (au + i * 3) [(I3 j.1), (I3 j.2.1), (U8 j.2.2)] zk zk zk bf (zQ ?_)
   refine ⟨rfl, yC 8 zk (yO 8 rfl ?_ rfl)⟩
   refine qW [(I3 j.1), (I3 j.2.1), (U8 j.2.2)] [(I3 c.1), (I3 c.2.1), (U8 c.2.2)] (j.1 == c.1 && j.2.1 == c.2.1 && j.2.2 == c.2.2) zk zk zk (qV j.1 j.2.1 j.2.2 c.1 c.2.1 c.2.2) ?_ ?_
   ·intro ed
    refine zQ ?_
    refine ⟨rfl, yJ zk ?_⟩
    have d := d.tr t
    exact zB (zT (wR (zH (nQ (zR (zL (zG (zG (zL (zG (zZ [(.bool false)] (hd := s) ⟨eb (by exact (decide_eq_false (qU (i := i) i4 zo za za (uM za))).symm), d⟩)))))))))))
   intro bw
   replace bw : j.1 = c.1 ∧ j.2.1 = c.2.1 ∧ j.2.2 = c.2.2 := by simpa [and_assoc] using bw
   refine zQ ?_
   refine ⟨rfl, yJ zk (zB (zF (zK (zJ (zB (zP (zD (xN i 1 (zH (zQ ?_))))))))))⟩
   have d := d.tr t
   refine zB ⟨_, zo, (i + 1), rfl, s, zk, e, g, d, zo, ?_, ?_, ?_⟩
   ·exact i2
   ·exact i4
   exact wG (i := i) i4 i3 zo za za (sp_eq za)
  skip
  refine yO 7 rfl ?_ rfl
  refine xB a8 (ao + i * 3) [(I3 c.1), (I3 c.2.1), (U8 c.2.2)] zk zk zk a0 (zQ ?_)
  refine ⟨rfl, yC 2 zk (yO 2 rfl ?_ rfl)⟩
  have u := zX a i zo; obtain ⟨af, cc⟩ := u
  have e := e.below t
  have u := (e).at (k := 3) zj cc
  obtain ⟨b7, a6, cb, ce⟩ := u
  refine yS (k := .i64) aj i _ b7 a6 uH cb zo zk zk (zQ ?_)
  refine ⟨rfl, yC 3 zk (yO 3 rfl ?_ rfl)⟩
  refine xB b7 (a6 + i * 3) [(I3 af.1), (I3 af.2.1), (U8 af.2.2)] zk zk zk ce (zQ ?_)
  refine ⟨rfl, yC 8 zk (yO 8 rfl ?_ rfl)⟩
  refine qW [(I3 af.1), (I3 af.2.1), (U8 af.2.2)] [(I3 c.1), (I3 c.2.1), (U8 c.2.2)] (af.1 == c.1 && af.2.1 == c.2.1 && af.2.2 == c.2.2) zk zk zk (qV af.1 af.2.1 af.2.2 c.1 c.2.1 c.2.2) ?_ ?_
  ·intro dy
   refine zQ ?_
   refine ⟨rfl, yJ zk ?_⟩
   have d := d.tr t
   exact zB (zT (wR (zH (nQ (zR (zL (zG (zG (zL (zG (zZ [(.bool false)] (hd := s) ⟨eb (by exact (decide_eq_false (qU (i := i) i4 zo za za (uM za))).symm), d⟩)))))))))))
  intro b3
  replace b3 : af.1 = c.1 ∧ af.2.1 = c.2.1 ∧ af.2.2 = c.2.2 := by simpa [and_assoc] using b3
  refine zQ ?_
  refine ⟨rfl, yJ zk (zB (zF (zK (zJ (zB (zP (zD (xN i 1 (zH (zQ ?_))))))))))⟩
  have d := d.tr t
  refine zB ⟨_, zo, (i + 1), rfl, s, zk, e, g, d, zo, ?_, ?_, ?_⟩
  ·exact i2
  ·exact i4
  exact wG (i := i) i4 i3 zo za za (sp_eq za)
 intro dx
 exact nQ (zF (yU (zS (zS (yF (zB (wR (zH (nQ (zR (zZ [(.bool true)] (hd := s) ⟨eb (by exact (decide_eq_true (same_end i4 i3 i2 zo)).symm), d⟩)))))))))))
end Go.Proofs.YtkclikfejmeblaaGreatDoor
end

/- === Wclaw === -/
section
/- Walks, written by my program walk.py out of the specification claw.py: each theorem says what one function returns and that it leaves memory as it was. -/
namespace Go.Proofs.YtkclikfejmeblaaGreatDoor
open Go Go.RowKit Go.FK _root_.Go.Proofs.Tryz
def litT0 : List UInt8 := ([35, 32, 64, 109, 105, 115, 115, 105, 110, 103, 58, 32, 48, 48, 48, 48, 46, 46, 49, 48, 70, 70, 70, 70, 59, 32, 76, 101, 102, 116, 95, 84, 111, 95, 82, 105, 103, 104, 116, 10, 35, 32, 64, 109, 105, 115, 115, 105, 110, 103, 58, 32, 48, 53, 57, 48, 46, 46, 48, 53, 70, 70, 59, 32, 82, 10, 10, 48, 48, 51, 48, 46, 46, 48, 48, 51, 57, 32, 59, 32, 69, 78, 32, 35, 32, 100, 105, 103, 105, 116, 115, 10, 48, 53, 68, 48, 32, 59, 32, 82, 105, 103, 104, 116, 32, 84, 111, 32, 76, 101, 102, 116, 10] : List UInt8)
set_option maxHeartbeats 4000000
set_option maxRecDepth 100000
set_option maxRecDepth 100000
theorem lives_tab : clsF litT0 = (((([(48, 57, 4), (1488, 1488, 2)] : List SpI), ([(48, 57, 4), (1488, 1488, 5)] : List SpI), ([(0, 1114111, 1), (1424, 1535, 2)] : List SpI)) : TabC), 0, 0) := by kernel_rfl
theorem c_lives7 (w : World) {m_ml : Int} (hml : w.cell? ⟨1, 0, none⟩ = some (I6 m_ml)) :
  Calls Tryz.prog 9 #[] w (Ret fun v w' => v = (.bool true) ∧ Below w.heap.size w w') := by
 refine wJ 45 func9 rfl ?_
 have s := Below.refl w.heap.size w
 refine wR (zH (nR (zc (c_classes_Read_ok ([102] : List UInt8) litT0 _ (wE hml s) (by decide) (by first | kernel_rfl | assumption)) ?_)))
 rintro _ w5 ⟨q1, q2, q3, q4, n, p, i, j, rfl, an, q, h, c, a, r, ac, o, g, k, b, l, ab, aa, y, u, z, t, ak⟩
 replace r := Nat.le_trans s.size r
 replace o := Nat.le_trans s.size o
 replace k := Nat.le_trans s.size k
 replace l := Nat.le_trans s.size l
 have q := q.base s.size
 have h := h.base s.size
 have c := c.base s.size
 refine zD (zr (pt n 0) (zr .nilIface (zH (zH (nW (wR (zD (zr (.bool false) (zD (zw (zD (zw (zr (.bool false) (xF (nQ (zF (zK (zB (wR (zD (zc (c_tGiven n p i q1 j 49 q2 ((clsF litT0).1.1) _ a ac q.rd (by exact (cls_ok _).1.rise)) ?_)))))))))))))))))))))
 rintro _ a1 ⟨rfl, e⟩
 refine zD (zr (U8 ((atM 0 ((clsF litT0).1.1) (plainF 49)).1)) (zr (.bool ((atM 0 ((clsF litT0).1.1) (plainF 49)).2)) (yT ((atM 0 ((clsF litT0).1.1) (plainF 49)).2) ?_ ?_)))
 ·intro aw
  have b := zC b e
  have a := zC a e
  have c := c.below e
  refine zH (zH (nR (zD (zc (c_tClass n p i q1 j 49 q4 (wholeF (clsF litT0).1) _ a b c.rd (by exact (vH _).rise)) ?_))))
  rintro _ ay ⟨rfl, d⟩
  refine qX .u8 ((atM 0 (wholeF (clsF litT0).1) (plainF 49)).1) 4 ?_ ?_
  ·intro ap
   have b := zC b d
   have a := zC a d
   have c := c.below d
   refine zD (zw (zD (zw (zc (c_tClass n p i q1 j 1425 q4 (wholeF (clsF litT0).1) _ a b c.rd (by exact (vH _).rise)) ?_))))
   rintro _ au ⟨rfl, f⟩
   refine zw (qX .u8 ((atM 0 (wholeF (clsF litT0).1) (plainF 1425)).1) 2 ?_ ?_)
   ·intro ax
    have b := zC b f
    have a := zC a f
    have c := c.below f
    refine xJ (zD (zw (zD (zw (zc (c_tClass n p i q1 j 1536 q4 (wholeF (clsF litT0).1) _ a b c.rd (by exact (vH _).rise)) ?_)))))
    rintro _ aq ⟨rfl, m⟩
    refine zw (qX .u8 ((atM 0 (wholeF (clsF litT0).1) (plainF 1536)).1) 1 ?_ ?_)
    ·intro ar
     refine xJ (zD (zw (zD (zw (qX .u8 ((atM 0 ((clsF litT0).1.1) (plainF 49)).1) 4 ?_ ?_)))))
     ·intro av
      have g := zC (zC (zC (zC g e) d) f) m
      have a := zC a m
      have h := (((h.below e).below d).below f).below m
      refine xJ (zD (zw (zD (xJ (zD (zw (zD (zw (zc (c_tLine n p i q1 j 1488 q3 ((clsF litT0).1.2.1) _ a g h.rd (by exact (cls_ok _).2.1.rise)) ?_)))))))))
      rintro _ az ⟨rfl, ad⟩
      refine zw (qX .i64 ((atM 0 ((clsF litT0).1.2.1) (plainF 1488)).1) 5 ?_ ?_)
      ·intro a2
       have s := (((((s.tr ak).tr e).tr d).tr f).tr m).tr ad
       exact xJ (zH (nQ (zR (zZ [(.bool true)] ⟨rfl, s⟩))))
      intro ag
      exfalso; exact ag (by rw [lives_tab]; kernel_rfl)
     intro ah
     exfalso; exact ah (by rw [lives_tab]; kernel_rfl)
    intro aj
    exfalso; exact aj (by rw [lives_tab]; kernel_rfl)
   intro am
   exfalso; exact am (by rw [lives_tab]; kernel_rfl)
  intro al
  exfalso; exact al (by rw [lives_tab]; kernel_rfl)
 intro af
 exfalso; rw [lives_tab] at af; exact absurd af (by decide +kernel)
end Go.Proofs.YtkclikfejmeblaaGreatDoor
end

/- === Wlref === -/
section
/- Walks, written by my program walk.py out of the specification lref.py: each theorem says what one function returns and that it leaves memory as it was. -/
namespace Go.Proofs.YtkclikfejmeblaaGreatDoor
open Go Go.RowKit Go.FK _root_.Go.Proofs.Tryz
set_option maxHeartbeats 4000000
set_option maxRecDepth 100000
theorem uT : Elem Tryz.prog 219 222 4 24 := ⟨underlying219, zk, rfl⟩
theorem el136 : Elem Tryz.prog 136 139 3 24 := ⟨underlying136, zk, rfl⟩
theorem c_furrowref03_Chars (s : List UInt8) (w : World) (hs : s.length ≤ 1073741824) :
  Calls Tryz.prog 137 #[(S s)] w (Ret fun v w' => ∃ (q0 : Value), v = q0 ∧ Row w' w.heap.size 222 4 encChar q0 (chF s) ∧ Below w.heap.size w w') := by
 refine wJ 69 func137 rfl ?_
 have l := Below.refl w.heap.size w
 refine wR (zH (nR (zH (nW (wR (zD (L_range s underlying9 zk ?_)))))))
 intro b1 w2 bu
 have bf := bu.ge l.size
 have c := bu.here
 refine nQ (zW ?_)
 have l := l.tr bu.below
 refine xA (fun m s0 w0 => ∃ (pos : Nat) (e : List (Nat × Nat × Int × Bool)) (h : Value), (m = s.length - pos) ∧ (s0.ds = []) ∧ ([0, 2, 9, 3].map s0.f = [(S s), (.slice none 0 0), (pt b1 0), h]) ∧ (Row w0 w.heap.size 222 4 encChar h e) ∧ (w0.heap[b1]? = some (.stringIter ⟨(s).toArray⟩ pos)) ∧ (Below w.heap.size w w0) ∧ (pos ≤ s.length) ∧ (e.length ≤ pos) ∧ (e ++ (charsFrom s pos).map rawC = (charsFrom s 0).map rawC)) _ ⟨0, [], (.slice none 0 0), rfl, zk, zk, Row.nil _ _ _ _ _, c, l, by omega, Nat.le_refl _, rfl⟩ ?_
 rintro m4 s5 w6 ⟨pos, e, h, hm, q, bk, d, c, l, i1, i2, i3⟩
 refine yX bk (wR ?_)
 rcases Nat.lt_or_ge pos (s).length with z | ai
 ·refine L_next s b1 pos zk c z ?_
  intro p w7 a2 bm
  have d := d.wrote bm (d.ne c zi)
  have c := bm.here
  have := dec_pos s pos; have := dec_fits s pos z; have := dec_le s pos
  have bx : 0 ≤ p := by omega
  have bw : p ≤ 2147483647 := by omega
  have l := l.trans (bm.below bf)
  refine zr (.bool true) (nW (zT (zK (zB (zW (wR (zr (N6 pos) (zr (I3 p) (zH (zH (nQ (zP (zD (zD (zD (zr (Value.agg #[(N6 pos), (I6 0), (I3 p), (.bool false)]) (wH uT w.heap.size h e (pos, 0, p, false) l.size d zo zk rfl rfl zk rfl zk zk ?_)))))))))))))))))
  intro v9 db b5 ba cm
  have l := l.tg l.size ba d
  have c := zY c ba (d.ne c zi)
  have d := b5
  refine zH (zQ (zJ (zB ⟨_, zo, (pos + (dec s pos).2), (e ++ [(pos, 0, p, false)]), v9, rfl, q, zk, d, c, l, zo, ?_, ?_⟩)))
  ·simp only [List.length_append, List.length_cons, List.length_nil]; omega
  exact raw_step z a2 i3
 refine L_nextEnd s b1 pos zk c ai (zr (.bool false) (nW (zF (yU (zS (zS (yF (zB (yA (wR (zH (nQ (zW (xA (fun m s0 w0 => ∃ (i : Nat) (e : List (Nat × Nat × Int × Bool)) (h : Value), (m = e.length - i) ∧ (s0.ds = []) ∧ ([0, 2, 3, 6].map s0.f = [(S s), (.slice none 0 0), h, (N6 i)]) ∧ (Row w0 w.heap.size 222 4 encChar h e) ∧ (w0.heap[b1]? = some (.stringIter ⟨(s).toArray⟩ pos)) ∧ (Below w.heap.size w w0) ∧ (i ≤ e.length) ∧ (e = ((charsFrom s 0).take i).map fulC ++ ((charsFrom s 0).drop i).map rawC)) _ ⟨0, e, h, rfl, q, zk, d, c, l, by omega, raw_end ai i3⟩ ?_))))))))))))))
 rintro dj du dc ⟨i, e, h, hm, q, bk, d, c, l, i1, i2⟩
 refine yX bk ?_
 have df := mix_len i2
 have dw := chars_len s
 refine yA (wR (zD (zD (vY underlying219 (d.rd).len (nLt i ((e).length) ?_ ?_)))))
 ·intro dn
  refine nQ (zT (zK (zB (yA (zW (wR (zD (zsl 9 s (zH (nW (wR (zD (xN i 1 (zD (vY underlying219 (d.rd).len (nLt (i + 1) ((e).length) ?_ ?_))))))))))))))))
  ·intro dg
   refine nQ (zT (zP (zD (zD (xN i 1 ?_)))))
   have o := zX e (i + 1) zo; obtain ⟨g, a4⟩ := o
   have o := mix_at i2 a4 zo
   obtain ⟨cj, ax, cb, ch, ce⟩ := o
   have a3 := chars_next ax
   (try (have cf := a3.2.2.2.1 _ za))
   refine zE d.rd uT (i + 1) a4 0 rfl fun _ _ => (zH (nR (zD (zD (zD (zD (zD ?_)))))))
   have o := zX e i zo; obtain ⟨b, aa⟩ := o
   have o := mix_at i2 aa zo
   obtain ⟨co, a0, ca, cg, ci⟩ := o
   have az := chars_next a0
   (try (have b8 := az.2.2.2.1 _ za))
   refine zE d.rd uT i aa 0 rfl fun _ _ => (zsb g.1 b.1 ?_)
   have o := (d.rd).at (k := 4) zj aa
   obtain ⟨bh, ah, a6, cy⟩ := o
   refine yS (k := .i64) h i _ bh ah uT a6 zo zk zk (zr (pt bh ((ah + i * 4) + 1)) (vC i 1 bh ah b (b.1, (g.1 - b.1), b.2.2.1, b.2.2.2) (N6 (g.1 - b.1)) d zj aa a6 zk zk rfl zk zk rfl ?_))
   intro dv bv a7
   have l := l.tg l.size a7 d
   have c := zY c a7 (d.ne c zi)
   have d := bv
   have n : (List.set e i (b.1, (g.1 - b.1), b.2.2.1, b.2.2.2))[i]? = some (b.1, (g.1 - b.1), b.2.2.1, b.2.2.2) := uB aa
   refine nQ (zP (zD (zD (zD (zD (zE d.rd uT i n 2 rfl fun _ _ => (zNe .i32 b.2.2.1 65533 ?_ ?_)))))))
   ·intro de
    refine zD (zs (zs (zs (zs (zs (zs (xJ ?_)))))))
    have o := (d.rd).at (k := 4) zj n
    obtain ⟨bt, ae, a5, c7⟩ := o
    refine yS (k := .i64) h i _ bt ae uT a5 (by (simp only [List.length_set]; omega)) zk zk (zr (pt bt ((ae + i * 4) + 3)) (vC i 3 bt ae (b.1, (g.1 - b.1), b.2.2.1, b.2.2.2) (b.1, (g.1 - b.1), b.2.2.1, true) (.bool true) d zj n a5 zk zk rfl zk zk rfl ?_))
    intro dr b0 a8
    have l := l.tg l.size a8 d
    have c := zY c a8 (d.ne c zi)
    have d := b0
    have c3 : (List.set (List.set e i (b.1, (g.1 - b.1), b.2.2.1, b.2.2.2)) i (b.1, (g.1 - b.1), b.2.2.1, true))[i]? = some (b.1, (g.1 - b.1), b.2.2.1, true) := uB n
    refine zQ (zJ (zB (zP (zD (xN i 1 (zH (zQ (zB ⟨_, ?_, (i + 1), (List.set (List.set e i (b.1, (g.1 - b.1), b.2.2.1, b.2.2.2)) i (b.1, (g.1 - b.1), b.2.2.1, true)), h, rfl, q, zk, d, c, l, ?_, ?_⟩))))))))
    ·(simp only [List.length_set]; omega)
    ·simp only [List.length_set]; omega
    exact mix_set3 i2 za (by exact .inl ⟨_, by assumption, rfl⟩) (by exact (decide_eq_true (.inl za)).symm)
   intro dl
   refine zD (zw (zD (zw (zD (zw ?_)))))
   have o := (d.rd).at (k := 4) zj n
   obtain ⟨bs, af, b6, b2⟩ := o
   refine yS (k := .i64) h i _ bs af uT b6 (by (simp only [List.length_set]; omega)) zk zk (zw (zr (pt bs ((af + i * 4) + 1)) (zw (qL bs ((af + i * 4) + 1) (N6 (g.1 - b.1)) zk zk (b2 1 _ rfl) (zw (nEq (g.1 - b.1) 3 ?_ ?_))))))
   ·intro dh
    refine xF ?_
    have o := (d.rd).at (k := 4) zj n
    obtain ⟨bp, ag, bb, c8⟩ := o
    refine yS (k := .i64) h i _ bp ag uT bb (by (simp only [List.length_set]; omega)) zk zk (zr (pt bp ((ag + i * 4) + 3)) (vC i 3 bp ag (b.1, (g.1 - b.1), b.2.2.1, b.2.2.2) (b.1, (g.1 - b.1), b.2.2.1, true) (.bool true) d zj n bb zk zk rfl zk zk rfl ?_))
    intro dd bz bc
    have l := l.tg l.size bc d
    have c := zY c bc (d.ne c zi)
    have d := bz
    have cu : (List.set (List.set e i (b.1, (g.1 - b.1), b.2.2.1, b.2.2.2)) i (b.1, (g.1 - b.1), b.2.2.1, true))[i]? = some (b.1, (g.1 - b.1), b.2.2.1, true) := uB n
    refine zQ (zJ (zB (zP (zD (xN i 1 (zH (zQ (zB ⟨_, ?_, (i + 1), (List.set (List.set e i (b.1, (g.1 - b.1), b.2.2.1, b.2.2.2)) i (b.1, (g.1 - b.1), b.2.2.1, true)), h, rfl, q, zk, d, c, l, ?_, ?_⟩))))))))
    ·(simp only [List.length_set]; omega)
    ·simp only [List.length_set]; omega
    exact mix_set3 i2 za (by exact .inl ⟨_, by assumption, rfl⟩) (by exact (decide_eq_true (.inr zo)).symm)
   intro dp
   refine xF ?_
   have o := (d.rd).at (k := 4) zj n
   obtain ⟨br, ad, a9, c0⟩ := o
   refine yS (k := .i64) h i _ br ad uT a9 (by (simp only [List.length_set]; omega)) zk zk (zr (pt br ((ad + i * 4) + 3)) (vC i 3 br ad (b.1, (g.1 - b.1), b.2.2.1, b.2.2.2) (b.1, (g.1 - b.1), b.2.2.1, false) (.bool false) d zj n a9 zk zk rfl zk zk rfl ?_))
   intro dt b4 bd
   have l := l.tg l.size bd d
   have c := zY c bd (d.ne c zi)
   have d := b4
   have c6 : (List.set (List.set e i (b.1, (g.1 - b.1), b.2.2.1, b.2.2.2)) i (b.1, (g.1 - b.1), b.2.2.1, false))[i]? = some (b.1, (g.1 - b.1), b.2.2.1, false) := uB n
   refine zQ (zJ (zB (zP (zD (xN i 1 (zH (zQ (zB ⟨_, ?_, (i + 1), (List.set (List.set e i (b.1, (g.1 - b.1), b.2.2.1, b.2.2.2)) i (b.1, (g.1 - b.1), b.2.2.1, false)), h, rfl, q, zk, d, c, l, ?_, ?_⟩))))))))
   ·(simp only [List.length_set]; omega)
   ·simp only [List.length_set]; omega
   exact mix_set3 i2 za (by exact .inl ⟨_, by assumption, rfl⟩) (by exact (decide_eq_false zo).symm)
  intro dm
  refine nQ (zF (zK (zB (wR (zD (zD (zD (zD (zD ?_)))))))))
  have o := zX e i zo; obtain ⟨a, ab⟩ := o
  have o := mix_at i2 ab zo
  obtain ⟨cs, a1, cc, b9, b7⟩ := o
  have ay := chars_next a1
  (try (have cd := ay.2.2.2.1 _ za))
  refine zE d.rd uT i ab 0 rfl fun _ _ => (zsb ((s).length) a.1 ?_)
  have o := (d.rd).at (k := 4) zj ab
  obtain ⟨bn, ac, be, c2⟩ := o
  refine yS (k := .i64) h i _ bn ac uT be zo zk zk (zr (pt bn ((ac + i * 4) + 1)) (vC i 1 bn ac a (a.1, ((s).length - a.1), a.2.2.1, a.2.2.2) (N6 ((s).length - a.1)) d zj ab be zk zk rfl zk zk rfl ?_))
  intro cv bo am
  have l := l.tg l.size am d
  have c := zY c am (d.ne c zi)
  have d := bo
  have j : (List.set e i (a.1, ((s).length - a.1), a.2.2.1, a.2.2.2))[i]? = some (a.1, ((s).length - a.1), a.2.2.1, a.2.2.2) := uB ab
  refine nQ (zP (zD (zD (zD (zD (zE d.rd uT i j 2 rfl fun _ _ => (zNe .i32 a.2.2.1 65533 ?_ ?_)))))))
  ·intro ct
   refine zD (zs (zs (zs (zs (zs (zs (xJ ?_)))))))
   have o := (d.rd).at (k := 4) zj j
   obtain ⟨aw, y, ao, cn⟩ := o
   refine yS (k := .i64) h i _ aw y uT ao (by (simp only [List.length_set]; omega)) zk zk (zr (pt aw ((y + i * 4) + 3)) (vC i 3 aw y (a.1, ((s).length - a.1), a.2.2.1, a.2.2.2) (a.1, ((s).length - a.1), a.2.2.1, true) (.bool true) d zj j ao zk zk rfl zk zk rfl ?_))
   intro c1 bl al
   have l := l.tg l.size al d
   have c := zY c al (d.ne c zi)
   have d := bl
   have cp : (List.set (List.set e i (a.1, ((s).length - a.1), a.2.2.1, a.2.2.2)) i (a.1, ((s).length - a.1), a.2.2.1, true))[i]? = some (a.1, ((s).length - a.1), a.2.2.1, true) := uB j
   refine zQ (zJ (zB (zP (zD (xN i 1 (zH (zQ (zB ⟨_, ?_, (i + 1), (List.set (List.set e i (a.1, ((s).length - a.1), a.2.2.1, a.2.2.2)) i (a.1, ((s).length - a.1), a.2.2.1, true)), h, rfl, q, zk, d, c, l, ?_, ?_⟩))))))))
   ·(simp only [List.length_set]; omega)
   ·simp only [List.length_set]; omega
   exact mix_set3 i2 za (by exact .inr ⟨by omega, rfl⟩) (by exact (decide_eq_true (.inl za)).symm)
  intro cx
  refine zD (zw (zD (zw (zD (zw ?_)))))
  have o := (d.rd).at (k := 4) zj j
  obtain ⟨ap, u, bi, bg⟩ := o
  refine yS (k := .i64) h i _ ap u uT bi (by (simp only [List.length_set]; omega)) zk zk (zw (zr (pt ap ((u + i * 4) + 1)) (zw (qL ap ((u + i * 4) + 1) (N6 ((s).length - a.1)) zk zk (bg 1 _ rfl) (zw (nEq ((s).length - a.1) 3 ?_ ?_))))))
  ·intro c5
   refine xF ?_
   have o := (d.rd).at (k := 4) zj j
   obtain ⟨aq, r, ak, ck⟩ := o
   refine yS (k := .i64) h i _ aq r uT ak (by (simp only [List.length_set]; omega)) zk zk (zr (pt aq ((r + i * 4) + 3)) (vC i 3 aq r (a.1, ((s).length - a.1), a.2.2.1, a.2.2.2) (a.1, ((s).length - a.1), a.2.2.1, true) (.bool true) d zj j ak zk zk rfl zk zk rfl ?_))
   intro cz bj av
   have l := l.tg l.size av d
   have c := zY c av (d.ne c zi)
   have d := bj
   have cq : (List.set (List.set e i (a.1, ((s).length - a.1), a.2.2.1, a.2.2.2)) i (a.1, ((s).length - a.1), a.2.2.1, true))[i]? = some (a.1, ((s).length - a.1), a.2.2.1, true) := uB j
   refine zQ (zJ (zB (zP (zD (xN i 1 (zH (zQ (zB ⟨_, ?_, (i + 1), (List.set (List.set e i (a.1, ((s).length - a.1), a.2.2.1, a.2.2.2)) i (a.1, ((s).length - a.1), a.2.2.1, true)), h, rfl, q, zk, d, c, l, ?_, ?_⟩))))))))
   ·(simp only [List.length_set]; omega)
   ·simp only [List.length_set]; omega
   exact mix_set3 i2 za (by exact .inr ⟨by omega, rfl⟩) (by exact (decide_eq_true (.inr zo)).symm)
  intro cw
  refine xF ?_
  have o := (d.rd).at (k := 4) zj j
  obtain ⟨an, t, au, cr⟩ := o
  refine yS (k := .i64) h i _ an t uT au (by (simp only [List.length_set]; omega)) zk zk (zr (pt an ((t + i * 4) + 3)) (vC i 3 an t (a.1, ((s).length - a.1), a.2.2.1, a.2.2.2) (a.1, ((s).length - a.1), a.2.2.1, false) (.bool false) d zj j au zk zk rfl zk zk rfl ?_))
  intro da bq ar
  have l := l.tg l.size ar d
  have c := zY c ar (d.ne c zi)
  have d := bq
  have cl : (List.set (List.set e i (a.1, ((s).length - a.1), a.2.2.1, a.2.2.2)) i (a.1, ((s).length - a.1), a.2.2.1, false))[i]? = some (a.1, ((s).length - a.1), a.2.2.1, false) := uB j
  refine zQ (zJ (zB (zP (zD (xN i 1 (zH (zQ (zB ⟨_, ?_, (i + 1), (List.set (List.set e i (a.1, ((s).length - a.1), a.2.2.1, a.2.2.2)) i (a.1, ((s).length - a.1), a.2.2.1, false)), h, rfl, q, zk, d, c, l, ?_, ?_⟩))))))))
  ·(simp only [List.length_set]; omega)
  ·simp only [List.length_set]; omega
  exact mix_set3 i2 za (by exact .inr ⟨by omega, rfl⟩) (by exact (decide_eq_false zo).symm)
 intro c9
 exact nQ (zF (yU (zS (zS (yF (zB (wR (zD (zH (nQ (zR (zZ [h] (hd := q) ⟨h, rfl, d.cast (by first | exact mix_done i2 zo), l⟩))))))))))))
theorem c_furrowref03_Check (s : List UInt8) (w : World) (hs : s.length ≤ 1073741824) :
  Calls Tryz.prog 116 #[(S s)] w (Ret fun v w' => v = (.tuple #[(N6 ((chkF s).1)), (I6 ((chkF s).2))]) ∧ Below w.heap.size w w') := by
 refine wJ 50 func116 rfl ?_
 have l := Below.refl w.heap.size w
 refine wR (zH (zH (nR (zD (zc (c_furrowref03_Chars s _ zo) ?_)))))
 rintro q1 w2 ⟨_, rfl, a, af⟩
 have a := a.base l.size
 have := chF_len s
 have := chars_len s
 refine zH (nW (wR (zH (nQ (zW ?_)))))
 have l := l.tr af
 refine xA (fun m s0 w0 => ∃ (i : Nat), (m = (chF s).length - i) ∧ (s0.ds = []) ∧ ([4, 5].map s0.f = [q1, (N6 i)]) ∧ (Row w0 w.heap.size 222 4 encChar q1 (chF s)) ∧ (Below w.heap.size w w0) ∧ (i ≤ (chF s).length) ∧ (i ≤ 4096) ∧ (chkL ((charsFrom s 0).drop i) i = chkF s)) _ ⟨0, rfl, zk, zk, a, l, by omega, by omega, rfl⟩ ?_
 rintro m5 s6 w7 ⟨i, hm, d, ae, a, l, i1, i4, j⟩
 refine yX ae (yA (wR (zD (zD (vY underlying219 (a.rd).len (nLt i ((chF s).length) ?_ ?_))))))
 ·intro h8
  refine nQ (zT (zK (zB (yA (zW (zW (wR (zD (nEq i 4096 ?_ ?_)))))))))
  ·intro h9
   exact zH (nQ (zT (wR (zD (zH (zH (nQ (zR (zL (zL (zG (zG (zL (zG (zZ [(N6 i), (I6 32)] (hd := d) ⟨yV (congrArg (fun x : Nat => Value.int .i64 (x : Int)) (by (rw [ck_wide2 zo za j]; (try first | rfl | (show i = 4096; assumption)); done))) (e6 (by (rw [ck_wide2 zo za j]; (try first | rfl | (show i = 4096; assumption)); done))), l⟩)))))))))))))))
  intro ap
  refine zH (nQ (zF (wR (zD (zD ?_)))))
  have p := zX (chF s) i zo; obtain ⟨b, c⟩ := p
  have ad : -2147483648 ≤ b.2.2.1 ∧ b.2.2.1 ≤ 2147483647 := chF_range c
  refine zE a.rd uT i c 3 rfl fun _ _ => (qO b.2.2.2 (zH (nQ ?_)))
  rcases Bool.eq_false_or_eq_true (!b.2.2.2) with n | n
  ·skip
   exact W_ifT n zk (wR (zD (zH (zH (nQ (zR (zL (zL (zG (zG (zL (zG (zZ [(N6 i), (I6 30)] (hd := d) ⟨yV (congrArg (fun x : Nat => Value.int .i64 (x : Int)) (by (rw [ck_wrongX za za zo j]; done))) (e6 (by (rw [ck_wrongX za za zo j]; done))), l⟩)))))))))))))
  skip
  refine W_ifF n zk (wR (zD (zD (zE a.rd uT i c 2 rfl fun _ _ => (zLt .i32 b.2.2.1 32 ?_ ?_)))))
  ·intro am
   refine zD (zw (zD (zw (zD (zw ?_)))))
   have p := (a.rd).at (k := 4) zj c
   obtain ⟨o, h, ab, y⟩ := p
   refine yS (k := .i64) q1 i _ o h uT ab zo zk zk (zw (zr (pt o ((h + i * 4) + 2)) (zw (qL o ((h + i * 4) + 2) (I3 b.2.2.1) zk zk (y 2 _ rfl) (zw (zNe .i32 b.2.2.1 9 ?_ ?_))))))
   ·intro ag
    exact xJ (zD (zs (zs (zs (zs (zs (zs (xJ (zH (nQ (zT (wR (zD (zH (zH (nQ (zR (zL (zL (zG (zG (zL (zG (zZ [(N6 i), (I6 31)] (hd := d) ⟨yV (congrArg (fun x : Nat => Value.int .i64 (x : Int)) (by (rw [ck_ctlX za za zo zo j]; done))) (e6 (by (rw [ck_ctlX za za zo zo j]; done))), l⟩))))))))))))))))))))))))
   intro ao
   refine xJ (zD (zw (zD (zw (zD (zw ?_))))))
   have p := (a.rd).at (k := 4) zj c
   obtain ⟨q, g, t, ac⟩ := p
   refine yS (k := .i64) q1 i _ q g uT t zo zk zk (zw (zr (pt q ((g + i * 4) + 2)) (zw (qL q ((g + i * 4) + 2) (I3 b.2.2.1) zk zk (ac 2 _ rfl) (zw (qX .i32 b.2.2.1 127 ?_ ?_))))))
   ·intro an
    exact xF (zH (nQ (zT (wR (zD (zH (zH (nQ (zR (zL (zL (zG (zG (zL (zG (zZ [(N6 i), (I6 31)] (hd := d) ⟨yV (congrArg (fun x : Nat => Value.int .i64 (x : Int)) (by (rw [ck_ctlX za za zo zo j]; done))) (e6 (by (rw [ck_ctlX za za zo zo j]; done))), l⟩))))))))))))))))
   intro ah
   refine xF (zH (nQ (zF (zK (zJ (zJ (zB (zP (zD (xN i 1 (zH (zQ (zB ⟨_, zo, (i + 1), rfl, d, zk, a, l, zo, zo, ?_⟩)))))))))))))
   exact ck_onX za za zo zo j
  intro ak
  refine zD (zs (zs (zs (zs (zs (zs (xF (zD (zw (zD (zw (zD (zw ?_)))))))))))))
  have p := (a.rd).at (k := 4) zj c
  obtain ⟨r, e, u, z⟩ := p
  refine yS (k := .i64) q1 i _ r e uT u zo zk zk (zw (zr (pt r ((e + i * 4) + 2)) (zw (qL r ((e + i * 4) + 2) (I3 b.2.2.1) zk zk (z 2 _ rfl) (zw (qX .i32 b.2.2.1 127 ?_ ?_))))))
  ·intro aj
   exact xF (zH (nQ (zT (wR (zD (zH (zH (nQ (zR (zL (zL (zG (zG (zL (zG (zZ [(N6 i), (I6 31)] (hd := d) ⟨yV (congrArg (fun x : Nat => Value.int .i64 (x : Int)) (by (rw [ck_ctlX za za zo zo j]; done))) (e6 (by (rw [ck_ctlX za za zo zo j]; done))), l⟩))))))))))))))))
  intro al
  refine xF (zH (nQ (zF (zK (zJ (zJ (zB (zP (zD (xN i 1 (zH (zQ (zB ⟨_, zo, (i + 1), rfl, d, zk, a, l, zo, zo, ?_⟩)))))))))))))
  exact ck_onX za za zo zo j
 intro ai
 exact nQ (zF (yU (zS (zS (yF (zB (wR (zH (zH (nQ (zR (zZ [(I6 0), (I6 0)] (hd := d) ⟨yV (congrArg (fun x : Nat => Value.int .i64 (x : Int)) (by (rw [← ck_end zo j]; done))) (e6 (by (rw [← ck_end zo j]; done))), l⟩))))))))))))
theorem c_furrowref03_Marked (s : List UInt8) (w : World) (hs : s.length ≤ 1073741824) :
  Calls Tryz.prog 115 #[(S s)] w (Ret fun v w' => v = (N6 (markN s)) ∧ Below w.heap.size w w') := by
 refine wJ 21 func115 rfl ?_
 have d := Below.refl w.heap.size w
 refine wR (zH (nW (wR (zD (zsl 9 s (nGe ((s).length) 3 ?_ ?_))))))
 ·intro q
  refine zD (zw (zD (zw ?_)))
  have e := zX s 0 zo; obtain ⟨b, i⟩ := e
  have := b.toNat_lt
  refine xL (k := .i64) s 0 b underlying9 i zk zk (zw (xG .u8 ((b.toNat : Nat) : Int) ((239 : Nat) : Int) (b.toNat = 239) rfl (xI b.toNat 239) zk zk ?_ ?_))
  ·intro o
   replace o : b.toNat = 239 := by omega
   refine xJ (zD (zw (zD (zw ?_))))
   have e := zX s 1 zo; obtain ⟨a, g⟩ := e
   have := a.toNat_lt
   refine xL (k := .i64) s 1 a underlying9 g zk zk (zw (xG .u8 ((a.toNat : Nat) : Int) ((187 : Nat) : Int) (a.toNat = 187) rfl (xI a.toNat 187) zk zk ?_ ?_))
   ·intro n
    replace n : a.toNat = 187 := by omega
    refine xJ (zD (zw (zD (zw ?_))))
    have e := zX s 2 zo; obtain ⟨c, f⟩ := e
    have := c.toNat_lt
    refine xL (k := .i64) s 2 c underlying9 f zk zk (zw (xG .u8 ((c.toNat : Nat) : Int) ((191 : Nat) : Int) (c.toNat = 191) rfl (xI c.toNat 191) zk zk ?_ ?_))
    ·intro h
     replace h : c.toNat = 191 := by omega
     exact xJ (nQ (zT (wR (zH (nQ (zR (zG (zZ [(I6 3)] ⟨congrArg (fun x : Nat => Value.int .i64 (x : Int)) (by exact mark_yes zo za za za za za za), d⟩))))))))
    intro j
    replace j : c.toNat ≠ 191 := by omega
    exact xJ (nQ (zF (zK (zB (wR (zH (nQ (zR (zZ [(I6 0)] ⟨congrArg (fun x : Nat => Value.int .i64 (x : Int)) (by exact mark_no (.inr ⟨2, _, by omega, by assumption, by assumption⟩)), d⟩)))))))))
   intro l
   replace l : a.toNat ≠ 187 := by omega
   exact xJ (zD (zs (zs (zs (xF (nQ (zF (zK (zB (wR (zH (nQ (zR (zZ [(I6 0)] ⟨congrArg (fun x : Nat => Value.int .i64 (x : Int)) (by exact mark_no (.inr ⟨1, _, by omega, by assumption, by assumption⟩)), d⟩))))))))))))))
  intro m
  replace m : b.toNat ≠ 239 := by omega
  exact xJ (zD (zs (zs (zs (xF (zD (zs (zs (zs (xF (nQ (zF (zK (zB (wR (zH (nQ (zR (zZ [(I6 0)] ⟨congrArg (fun x : Nat => Value.int .i64 (x : Int)) (by exact mark_no (.inr ⟨0, _, by omega, by assumption, by assumption⟩)), d⟩)))))))))))))))))))
 intro p
 exact zD (zs (zs (zs (xF (zD (zs (zs (zs (xF (zD (zs (zs (zs (xF (nQ (zF (zK (zB (wR (zH (nQ (zR (zZ [(I6 0)] ⟨congrArg (fun x : Nat => Value.int .i64 (x : Int)) (by exact mark_no (.inl zo)), d⟩)))))))))))))))))))))))
theorem c_furrowref03_Pieces (s : List UInt8) (w : World) (hs : s.length ≤ 1073741824) :
  Calls Tryz.prog 77 #[(S s)] w (Ret fun v w' => ∃ (q0 : Value), v = q0 ∧ Row w' w.heap.size 139 3 encPcN q0 (pcsR s) ∧ Below w.heap.size w w') := by
 refine wJ 57 func77 rfl ?_
 have c := Below.refl w.heap.size w
 refine wR (zH (nR (zH (nR (zD (zc (c_furrowref03_Marked s _ zo) ?_))))))
 rintro _ w1 ⟨rfl, af⟩
 have := mark_len s
 refine zH (nW (wR (zD (zH (nQ (zW ?_))))))
 have c := c.tr af
 refine xA (fun m s0 w0 => ∃ (i : Nat) (a : Nat) (d : List (Nat × Nat × Nat)) (e : Value), (m = s.length - i) ∧ (s0.ds = []) ∧ ([0, 2, 3, 4, 5].map s0.f = [(S s), (.slice none 0 0), e, (N6 a), (N6 i)]) ∧ (Row w0 w.heap.size 139 3 encPcN e d) ∧ (Below w.heap.size w w0) ∧ (i ≤ s.length) ∧ (a ≤ i) ∧ (d.length ≤ a) ∧ (d ++ (pcsFrom s a i).filter keepP = pcsR s)) _ ⟨(markN s), (markN s), [], (.slice none 0 0), rfl, zk, zk, Row.nil _ _ _ _ _, c, by omega, by omega, (Nat.zero_le _), rfl⟩ ?_
 rintro m4 s5 w6 ⟨i, a, d, e, hm, h, ac, b, c, i1, i2, i4, l⟩
 refine yX ac (yA (wR (zD (zD (zsl 9 s (nLt i ((s).length) ?_ ?_))))))
 ·intro h7
  refine nQ (zT (zK (zB (yA (zW (yA (wR (zD (zD ?_)))))))))
  have hz := zX s i zo; obtain ⟨j, ah⟩ := hz
  have := j.toNat_lt
  refine xL (k := .i64) s i j underlying9 ah zk zk (xG .u8 ((j.toNat : Nat) : Int) ((10 : Nat) : Int) (j.toNat ≠ 10) rfl (cmpN_ne j.toNat 10) zk zk ?_ ?_)
  ·intro ap
   replace ap : j.toNat ≠ 10 := by omega
   refine nQ (zT (yU (zS (yF (zB (zP (zD (xN i 1 (zH (zQ (zB ⟨_, zo, (i + 1), a, d, e, rfl, h, zk, b, c, zo, zo, zo, ?_⟩)))))))))))
   exact pr_on za za l
  intro aq
  replace aq : j.toNat = 10 := by omega
  refine nQ (zF (zK (zB (wR (zD (zH (nW (wR (zD (zD (nGt i a ?_ ?_)))))))))))
  ·intro a0
   refine zD (zw (zD (zw (zD (zw (zsb i 1 (zw ?_)))))))
   have hz := zX s (i - 1) zo; obtain ⟨g, u⟩ := hz
   have := g.toNat_lt
   refine xL (k := .i64) s (i - 1) g underlying9 u zk zk (zw (xG .u8 ((g.toNat : Nat) : Int) ((13 : Nat) : Int) (g.toNat = 13) rfl (xI g.toNat 13) zk zk ?_ ?_))
   ·intro ag
    replace ag : g.toNat = 13 := by omega
    refine xJ (nQ (zT (zP (zD (zsb i 1 (zH (nR (zD (zD (zD (zD (xN i 1 (zr (Value.agg #[(N6 a), (N6 (i - 1)), (N6 (i + 1))]) (wH el136 w.heap.size e d (a, (i - 1), (i + 1)) c.size b zo zk rfl rfl zk rfl zk zk ?_))))))))))))))
    intro an a1 q y ae
    have c := c.tg c.size y b
    have b := q
    refine zH (nQ (zP (zD (xN i 1 (zH (zQ (zJ (zB (zP (zD (xN i 1 (zH (zQ (zB ⟨_, zo, (i + 1), (i + 1), (d ++ [(a, (i - 1), (i + 1))]), an, rfl, h, zk, b, c, zo, zo, ?_, ?_⟩))))))))))))))
    ·(simp only [List.length_append, List.length_cons, List.length_nil]; omega)
    exact pr_nl i2 za za (cr_one zo za za) l
   intro am
   replace am : g.toNat ≠ 13 := by omega
   refine xJ (nQ (zF (zK (zB (wR (zD (zD (zD (zD (xN i 1 (zr (Value.agg #[(N6 a), (N6 i), (N6 (i + 1))]) (wH el136 w.heap.size e d (a, i, (i + 1)) c.size b zo zk rfl rfl zk rfl zk zk ?_))))))))))))
   intro al ay p n ao
   have c := c.tg c.size n b
   have b := p
   refine zH (nQ (zP (zD (xN i 1 (zH (zQ (zJ (zB (zP (zD (xN i 1 (zH (zQ (zB ⟨_, zo, (i + 1), (i + 1), (d ++ [(a, i, (i + 1))]), al, rfl, h, zk, b, c, zo, zo, ?_, ?_⟩))))))))))))))
   ·(simp only [List.length_append, List.length_cons, List.length_nil]; omega)
   exact pr_nl i2 za za (cr_not za za) l
  intro ax
  refine zD (zs (zs (zs (zs (zs (xF (nQ (zF (zK (zB (wR (zD (zD (zD (zD (xN i 1 (zr (Value.agg #[(N6 a), (N6 i), (N6 (i + 1))]) (wH el136 w.heap.size e d (a, i, (i + 1)) c.size b zo zk rfl rfl zk rfl zk zk ?_))))))))))))))))))
  intro ab az r t ai
  have c := c.tg c.size t b
  have b := r
  refine zH (nQ (zP (zD (xN i 1 (zH (zQ (zJ (zB (zP (zD (xN i 1 (zH (zQ (zB ⟨_, zo, (i + 1), (i + 1), (d ++ [(a, i, (i + 1))]), ab, rfl, h, zk, b, c, zo, zo, ?_, ?_⟩))))))))))))))
  ·(simp only [List.length_append, List.length_cons, List.length_nil]; omega)
  exact pr_nl i2 za za (cr_low zo) l
 intro av
 refine nQ (zF (yU (zS (zS (yF (zB (yA (wR (zD (zD (zsl 9 s (nLt a ((s).length) ?_ ?_))))))))))))
 ·intro aw
  refine nQ (zT (zP (zD (zD (zD (zsl 9 s (zD (zsl 9 s (zr (Value.agg #[(N6 a), (N6 ((s).length)), (N6 ((s).length))]) (wH el136 w.heap.size e d (a, (s).length, (s).length) c.size b zo zk rfl rfl zk rfl zk zk ?_))))))))))
  intro z ar o aa ak
  have c := c.tg c.size aa b
  have b := o
  exact zH (nR (zD (zH (nQ (zR (zZ [z] (hd := h) ⟨z, rfl, b.cast (by exact pr_last zo zo l), c⟩))))))
 intro au
 exact nQ (zF (zK (zB (wR (zD (zH (nQ (zR (zZ [e] (hd := h) ⟨e, rfl, b.cast (by exact pr_none zo zo l), c⟩)))))))))
theorem qS (s : List UInt8) (w : World) (hs : s.length ≤ 1073741824) :
  Calls Tryz.prog 138 #[(S s)] w (Ret fun v w' => v = (S (trmF s)) ∧ Below w.heap.size w w') := by
 refine wJ 43 func138 rfl ?_
 have h := Below.refl w.heap.size w
 refine wR (zH (nW (zW (xA (fun m s0 w0 => ∃ (a : List UInt8), (m = a.length) ∧ (s0.ds = []) ∧ ([2, 0].map s0.f = [(S []), (S a)]) ∧ (Below w.heap.size w w0) ∧ (a.length ≤ s.length) ∧ (trmF a = trmF s)) _ ⟨s, rfl, zk, zk, h, (Nat.le_refl _), rfl⟩ ?_))))
 rintro m1 s2 w3 ⟨a, hm, b, l, h, r, g⟩
 refine yX l (yA (wR (zD (zsl 9 a (nGt ((a).length) 0 ?_ ?_)))))
 ·intro h4
  refine zD (zw (zD (zw ?_)))
  have p := zX a 0 zo; obtain ⟨j, q⟩ := p
  have := j.toNat_lt
  refine xL (k := .i64) a 0 j underlying9 q zk zk (zw (xG .u8 ((j.toNat : Nat) : Int) ((32 : Nat) : Int) (j.toNat = 32) rfl (xI j.toNat 32) zk zk ?_ ?_))
  ·intro h7
   replace h7 : j.toNat = 32 := by omega
   refine zw (zD (zs (zs (zs (zw (xJ (xJ (nQ (zT (zK (zB (zW (zP (zD (qH a 1 underlying9 zk ⟨.i64, zk⟩ zo (zH (zQ (zJ (zB ⟨_, ?_, (List.drop 1 a), rfl, b, zk, h, ?_, ?_⟩)))))))))))))))))))
   ·(simp only [List.length_drop]; omega)
   ·simp only [List.length_drop]; omega
   exact (trm_left za (.inl za)).trans g
  intro h8
  replace h8 : j.toNat ≠ 32 := by omega
  refine zw (zD (zw (zD (zw (xL (k := .i64) a 0 j underlying9 q zk zk (zw (xG .u8 ((j.toNat : Nat) : Int) ((9 : Nat) : Int) (j.toNat = 9) rfl (xI j.toNat 9) zk zk ?_ ?_)))))))
  ·intro h9
   replace h9 : j.toNat = 9 := by omega
   refine zw (xF (xJ (nQ (zT (zK (zB (zW (zP (zD (qH a 1 underlying9 zk ⟨.i64, zk⟩ zo (zH (zQ (zJ (zB ⟨_, ?_, (List.drop 1 a), rfl, b, zk, h, ?_, ?_⟩))))))))))))))
   ·(simp only [List.length_drop]; omega)
   ·simp only [List.length_drop]; omega
   exact (trm_left za (.inr za)).trans g
  intro ag
  replace ag : j.toNat ≠ 9 := by omega
  refine zw (xF (xJ (nQ (zF (yU (zS (zS (yF (zB (yA (zW (xA (fun m s0 w0 => ∃ (a : List UInt8), (m = a.length) ∧ (s0.ds = []) ∧ ([2, 0].map s0.f = [(S []), (S a)]) ∧ (Below w.heap.size w w0) ∧ (a.length ≤ s.length) ∧ (trmF a = trmF s) ∧ (a = [] ∨ ∃ c, a[0]? = some c ∧ ¬ (c.toNat = 32 ∨ c.toNat = 9))) _ ⟨a, rfl, b, zk, h, r, g, (by exact .inr ⟨_, by assumption, by omega⟩)⟩ ?_))))))))))))
  rintro an ar ai ⟨a, hm, b, l, h, r, g, i⟩
  refine yX l (yA (wR (zD (zsl 9 a (nGt ((a).length) 0 ?_ ?_)))))
  ·intro aw
   refine zD (zw (zD (zw (zD (zw (zsl 9 a (zw (zsb ((a).length) 1 (zw ?_)))))))))
   have p := zX a ((a).length - 1) zo; obtain ⟨d, o⟩ := p
   have := d.toNat_lt
   refine xL (k := .i64) a ((a).length - 1) d underlying9 o zk zk (zw (xG .u8 ((d.toNat : Nat) : Int) ((32 : Nat) : Int) (d.toNat = 32) rfl (xI d.toNat 32) zk zk ?_ ?_))
   ·intro ab
    replace ab : d.toNat = 32 := by omega
    refine zw (zD (zs (zs (zs (zs (zs (zs (zw (xJ (xJ (nQ (zT (zK (zB (zW (zP (zD (zD (zsl 9 a (zsb ((a).length) 1 (L_ssto a ((a).length - 1) underlying9 zk ⟨.i64, zk⟩ zo (zH (zQ (zJ (zB ⟨_, ?_, (List.take ((a).length - 1) a), rfl, b, zk, h, ?_, ?_, ?_⟩)))))))))))))))))))))))))
    ·(simp only [List.length_take]; omega)
    ·simp only [List.length_take]; omega
    ·exact (trm_right za (.inl za)).trans g
    exact trm_first i
   intro ac
   replace ac : d.toNat ≠ 32 := by omega
   refine zw (zD (zw (zD (zw (zD (zw (zsl 9 a (zw (zsb ((a).length) 1 (zw (xL (k := .i64) a ((a).length - 1) d underlying9 o zk zk (zw (xG .u8 ((d.toNat : Nat) : Int) ((9 : Nat) : Int) (d.toNat = 9) rfl (xI d.toNat 9) zk zk ?_ ?_)))))))))))))
   ·intro u
    replace u : d.toNat = 9 := by omega
    refine zw (xF (xJ (nQ (zT (zK (zB (zW (zP (zD (zD (zsl 9 a (zsb ((a).length) 1 (L_ssto a ((a).length - 1) underlying9 zk ⟨.i64, zk⟩ zo (zH (zQ (zJ (zB ⟨_, ?_, (List.take ((a).length - 1) a), rfl, b, zk, h, ?_, ?_, ?_⟩)))))))))))))))))
    ·(simp only [List.length_take]; omega)
    ·simp only [List.length_take]; omega
    ·exact (trm_right za (.inr za)).trans g
    exact trm_first i
   intro y
   replace y : d.toNat ≠ 9 := by omega
   exact zw (xF (xJ (nQ (zF (yU (zS (zS (yF (zB (wR (zD (zH (nQ (zR (zZ [(S a)] (hd := b) ⟨congrArg S (by (rcases i with i | ⟨c0, i, i5⟩; exact (trm_done (.inl i)).symm.trans g; exact (trm_done (.inr ⟨c0, _, i, i5, by assumption, by omega⟩)).symm.trans g)), h⟩)))))))))))))))
  intro ap
  exact zD (zs (zs (zs (zs (zs (zs (zs (zs (zs (zs (zs (zs (zs (zs (xF (nQ (zF (yU (zS (zS (yF (zB (wR (zD (zH (nQ (zR (zZ [(S a)] (hd := b) ⟨congrArg S (by exact (trm_done (.inl (List.eq_nil_of_length_eq_zero zo))).symm.trans g), h⟩))))))))))))))))))))))))))))
 intro aq
 refine zD (zs (zs (zs (zs (zs (zs (zs (zs (xF (nQ (zF (yU (zS (zS (yF (zB (yA (zW (xA (fun m s0 w0 => ∃ (a : List UInt8), (m = a.length) ∧ (s0.ds = []) ∧ ([2, 0].map s0.f = [(S []), (S a)]) ∧ (Below w.heap.size w w0) ∧ (a.length ≤ s.length) ∧ (trmF a = trmF s) ∧ (a = [] ∨ ∃ c, a[0]? = some c ∧ ¬ (c.toNat = 32 ∨ c.toNat = 9))) _ ⟨a, rfl, b, zk, h, r, g, (by exact .inl (List.eq_nil_of_length_eq_zero zo))⟩ ?_)))))))))))))))))))
 rintro am ao av ⟨a, hm, b, l, h, r, g, i⟩
 refine yX l (yA (wR (zD (zsl 9 a (nGt ((a).length) 0 ?_ ?_)))))
 ·intro au
  refine zD (zw (zD (zw (zD (zw (zsl 9 a (zw (zsb ((a).length) 1 (zw ?_)))))))))
  have p := zX a ((a).length - 1) zo; obtain ⟨e, n⟩ := p
  have := e.toNat_lt
  refine xL (k := .i64) a ((a).length - 1) e underlying9 n zk zk (zw (xG .u8 ((e.toNat : Nat) : Int) ((32 : Nat) : Int) (e.toNat = 32) rfl (xI e.toNat 32) zk zk ?_ ?_))
  ·intro aa
   replace aa : e.toNat = 32 := by omega
   refine zw (zD (zs (zs (zs (zs (zs (zs (zw (xJ (xJ (nQ (zT (zK (zB (zW (zP (zD (zD (zsl 9 a (zsb ((a).length) 1 (L_ssto a ((a).length - 1) underlying9 zk ⟨.i64, zk⟩ zo (zH (zQ (zJ (zB ⟨_, ?_, (List.take ((a).length - 1) a), rfl, b, zk, h, ?_, ?_, ?_⟩)))))))))))))))))))))))))
   ·(simp only [List.length_take]; omega)
   ·simp only [List.length_take]; omega
   ·exact (trm_right za (.inl za)).trans g
   exact trm_first i
  intro z
  replace z : e.toNat ≠ 32 := by omega
  refine zw (zD (zw (zD (zw (zD (zw (zsl 9 a (zw (zsb ((a).length) 1 (zw (xL (k := .i64) a ((a).length - 1) e underlying9 n zk zk (zw (xG .u8 ((e.toNat : Nat) : Int) ((9 : Nat) : Int) (e.toNat = 9) rfl (xI e.toNat 9) zk zk ?_ ?_)))))))))))))
  ·intro t
   replace t : e.toNat = 9 := by omega
   refine zw (xF (xJ (nQ (zT (zK (zB (zW (zP (zD (zD (zsl 9 a (zsb ((a).length) 1 (L_ssto a ((a).length - 1) underlying9 zk ⟨.i64, zk⟩ zo (zH (zQ (zJ (zB ⟨_, ?_, (List.take ((a).length - 1) a), rfl, b, zk, h, ?_, ?_, ?_⟩)))))))))))))))))
   ·(simp only [List.length_take]; omega)
   ·simp only [List.length_take]; omega
   ·exact (trm_right za (.inr za)).trans g
   exact trm_first i
  intro af
  replace af : e.toNat ≠ 9 := by omega
  exact zw (xF (xJ (nQ (zF (yU (zS (zS (yF (zB (wR (zD (zH (nQ (zR (zZ [(S a)] (hd := b) ⟨congrArg S (by (rcases i with i | ⟨c0, i, i5⟩; exact (trm_done (.inl i)).symm.trans g; exact (trm_done (.inr ⟨c0, _, i, i5, by assumption, by omega⟩)).symm.trans g)), h⟩)))))))))))))))
 intro aj
 exact zD (zs (zs (zs (zs (zs (zs (zs (zs (zs (zs (zs (zs (zs (zs (xF (nQ (zF (yU (zS (zS (yF (zB (wR (zD (zH (nQ (zR (zZ [(S a)] (hd := b) ⟨congrArg S (by exact (trm_done (.inl (List.eq_nil_of_length_eq_zero zo))).symm.trans g), h⟩))))))))))))))))))))))))))))
theorem qG (s : List UInt8) (b : UInt8) (w : World) (hs : s.length ≤ 1073741824) :
  Calls Tryz.prog 119 #[(S s), (U8 ((b.toNat : Nat) : Int))] w (Ret fun v w' => v = (.tuple #[(S ((untF b s).1)), (S ((untF b s).2.1)), (.bool ((untF b s).2.2))]) ∧ Below w.heap.size w w') := by
 refine wJ 27 func119 rfl ?_
 have a := Below.refl w.heap.size w
 refine wR (zH (zH (zH (nW (wR (zH (nQ (zW (xA (fun m s0 w0 => ∃ (i : Nat), (m = s.length - i) ∧ (s0.ds = []) ∧ ([0, 1, 7].map s0.f = [(S s), (U8 ((b.toNat : Nat) : Int)), (N6 i)]) ∧ (Below w.heap.size w w0) ∧ (i ≤ s.length) ∧ (noB b s 0 i)) _ ⟨0, rfl, zk, zk, a, by omega, noB_zero _ _ _⟩ ?_)))))))))
 rintro t r q ⟨i, hm, c, j, a, u, d⟩
 refine yX j (yA (wR (zD (zD (zsl 9 s (nLt i ((s).length) ?_ ?_))))))
 ·intro z
  refine nQ (zT (zK (zB (yA (zW (wR (zD (zD ?_))))))))
  have o := zX s i zo; obtain ⟨e, g⟩ := o
  have := e.toNat_lt
  refine xL (k := .i64) s i e underlying9 g zk zk (zD (xG .u8 ((e.toNat : Nat) : Int) ((b.toNat : Nat) : Int) (e.toNat = b.toNat) rfl (xI e.toNat b.toNat) zk zk ?_ ?_))
  ·intro n
   replace n : e.toNat = b.toNat := by omega
   refine nQ (zT (yA (xX zk zk (zV (zV (Lq_ssto s i underlying9 zk ⟨.i64, zk⟩ zo (zV (zV (wW i 1 zo zk zk (Lq_ssfrom s (i + 1) underlying9 zk ⟨.i64, zk⟩ zo (qZ (qZ (qZ (yQ ?_))))))))))))))
   intro y l
   have a := a.tr l
   exact zB (zR (zL (zG (zG (zL (zG (zZ [(S (List.take i s)), (S (List.drop (i + 1) s)), (.bool true)] (hd := c) ⟨Zj (congrArg S (by (rw [unt_hit d za za]; done))) (congrArg S (by (rw [unt_hit d za za]; done))) (eb (by (rw [unt_hit d za za]; done))), a⟩)))))))
  intro h
  replace h : e.toNat ≠ b.toNat := by omega
  refine nQ (zF (zK (zJ (zB (zP (zD (xN i 1 (zH (zQ (zB ⟨_, zo, (i + 1), rfl, c, zk, a, zo, ?_⟩))))))))))
  exact noB_succ d za za
 intro p
 exact nQ (zF (yU (zS (zS (yF (zB (wR (zD (zH (zH (zH (nQ (zR (zZ [(S s), (S []), (.bool false)] (hd := c) ⟨Zj (congrArg S (by (rw [unt_none d zo]; done))) (congrArg S (by (rw [unt_none d zo]; done))) (eb (by (rw [unt_none d zo]; done))), a⟩))))))))))))))
theorem c_furrowref03_Parts (s : List UInt8) (w : World) (hs : s.length ≤ 1073741824) :
  Calls Tryz.prog 117 #[(S s)] w (Ret fun v w' => v = (.tuple #[(S (headF s)), (S (noteF s))]) ∧ Below w.heap.size w w') := by
 refine wJ 17 func117 rfl ?_
 have b := Below.refl w.heap.size w
 refine wR (zH (zH (nR (zD (zc (qG s 35 _ zo) ?_)))))
 rintro _ e ⟨rfl, d⟩
 have := unt_len 35 s
 refine zD (zr (S ((untF 35 s).1)) (zr (S ((untF 35 s).2.1)) (zr (.bool ((untF 35 s).2.2)) (zH (zH (zH (nR (zD (zc (qS ((untF 35 s).1) _ zo) ?_)))))))))
 rintro _ g ⟨rfl, c⟩
 have := vK ((untF 35 s).1)
 refine zD (zc (qS ((untF 35 s).2.1) _ zo) ?_)
 rintro _ f ⟨rfl, a⟩
 have := vK ((untF 35 s).2.1)
 have b := ((b.tr d).tr c).tr a
 exact zH (zH (nQ (zR (zZ [(S (trmF ((untF 35 s).1))), (S (trmF ((untF 35 s).2.1)))] ⟨yV (congrArg S (by first | rw [headF_unt] | rw [noteF_unt])) (congrArg S (by first | rw [headF_unt] | rw [noteF_unt])), b⟩))))
theorem xY (s : List UInt8) (w : World) (hs : s.length ≤ 1073741824) :
  Calls Tryz.prog 121 #[(S s)] w (Ret fun v w' => ∃ (q0 : Value), v = q0 ∧ Row w' w.heap.size 9 1 encStr q0 (fieldsF s) ∧ Below w.heap.size w w') := by
 refine wJ 25 func121 rfl ?_
 have c := Below.refl w.heap.size w
 refine wR (zH (nW (wR (zD (zc (qS s _ zo) ?_)))))
 rintro _ w1 ⟨rfl, j⟩
 have := vK s
 refine L_seq (trmF s) ([] : List UInt8) rfl zk zk ?_ ?_
 ·intro h4
  have c := c.tr j
  exact nQ (zT (wR (zH (nQ (zR (zG (zZ [(.slice none 0 0)] ⟨(.slice none 0 0), rfl, (Row.nil _ _ _ _ _).cast (by exact (fields_nil za).symm), c⟩)))))))
 intro h5
 refine nQ (zF (zK (zB (wR (zH (nQ (zW ?_)))))))
 have c := c.tr j
 refine xA (fun m s0 w0 => ∃ (t : List UInt8) (d : List (List UInt8)) (g : Value), (m = t.length) ∧ (s0.ds = []) ∧ ([0, 3].map s0.f = [(S t), g]) ∧ (Row w0 w.heap.size 9 1 encStr g d) ∧ (Below w.heap.size w w0) ∧ (t.length ≤ s.length) ∧ (d.length + t.length ≤ s.length) ∧ (d ++ (splF 59 t).map trmF = (splF 59 s).map trmF) ∧ (trmF s ≠ [])) _ ⟨s, [], (.slice none 0 0), rfl, zk, zk, Row.nil _ _ _ _ _, c, (Nat.le_refl _), zi, rfl, za⟩ ?_
 rintro m6 s7 w8 ⟨t, d, g, hm, q, r, a, c, i1, i5, i3, i4⟩
 refine yX r (zW (wR (zD (zc (qG t 59 _ zo) ?_))))
 rintro _ w9 ⟨rfl, e⟩
 have := unt_len 59 t
 refine zD (zr (S ((untF 59 t).1)) (zr (S ((untF 59 t).2.1)) (zr (.bool ((untF 59 t).2.2)) (yT ((untF 59 t).2.2) ?_ ?_))))
 ·intro af
  refine zH (zH (zH (nR (zD (zD (zc (qS ((untF 59 t).1) _ zo) ?_))))))
  rintro _ ac ⟨rfl, h⟩
  have := vK ((untF 59 t).1)
  have c := (c.tr e).tr h
  have a := (a.below e).below h
  refine wH el70 w.heap.size g d (trmF ((untF 59 t).1)) c.size a zo zk rfl rfl zk rfl zk zk ?_
  intro z ah l p u
  have c := c.tg c.size p a
  have a := l
  refine zH (nW (wR (zD (qO true (nQ (zF (zK (zB (zP (zD (zH (zQ (zJ (zB ⟨_, ?_, ((untF 59 t).2.1), (d ++ [(trmF ((untF 59 t).1))]), z, rfl, q, zk, a, c, zo, ?_, ?_, ?_⟩))))))))))))))
  ·(have := unt_more (b := 59) za; omega)
  ·have := unt_more (b := 59) za; simp only [List.length_append, List.length_cons, List.length_nil]; omega
  ·exact fld_more za i3
  exact i4
 intro ag
 refine zH (zH (zH (nR (zD (zD (zc (qS ((untF 59 t).1) _ zo) ?_))))))
 rintro _ ae ⟨rfl, i⟩
 have := vK ((untF 59 t).1)
 have c := (c.tr e).tr i
 have a := (a.below e).below i
 refine wH el70 w.heap.size g d (trmF ((untF 59 t).1)) c.size a zo zk rfl rfl zk rfl zk zk ?_
 intro n ad o k y
 have c := c.tg c.size k a
 have a := o
 exact zH (nW (wR (zD (qO false (nQ (zT (wR (zD (zH (nQ (zR (zG (zL (zG (zL (zZ [n] (hd := q) ⟨n, rfl, a.cast (by exact fld_last za i3 i4), c⟩))))))))))))))))
theorem c_furrowref03_Cut (s : List UInt8) (w : World) (hs : s.length ≤ 1073741824) :
  Calls Tryz.prog 118 #[(S s)] w (Ret fun v w' => ∃ (q0 : Value), v = (.tuple #[q0, (S ((cutF s).2))]) ∧ Row w' w.heap.size 9 1 encStr q0 ((cutF s).1) ∧ Below w.heap.size w w') := by
 refine wJ 14 func118 rfl ?_
 have b := Below.refl w.heap.size w
 refine wR (zH (zH (nR (zD (zc (c_furrowref03_Parts s _ zo) ?_)))))
 rintro _ f ⟨rfl, d⟩
 have := headF_len s
 have := noteF_len s
 refine zD (zr (S (headF s)) (zr (S (noteF s)) (zH (zH (nR (zD (zc (xY (headF s) _ zo) ?_)))))))
 rintro e g ⟨_, rfl, a, c⟩
 have b := b.tr d
 have a := a.base b.size
 have b := b.tr c
 exact zD (zH (zH (nQ (zR (zZ [e, (S (noteF s))] ⟨e, yV rfl (congrArg S (by first | exact (cutF_head s).symm | rfl)), a.cast (by first | exact (cutF_head s).symm | rfl), b⟩)))))
theorem uO (s : List UInt8) (w : World) (hs : s.length ≤ 1073741824) :
  Calls Tryz.prog 120 #[(S s)] w (Ret fun v w' => v = (.bool (nameF s)) ∧ Below w.heap.size w w') := by
 refine wJ 47 func120 rfl ?_
 have c := Below.refl w.heap.size w
 refine wR (zH (nW (wR (zH (nQ (zW (xA (fun m s0 w0 => ∃ (i : Nat), (m = s.length - i) ∧ (s0.ds = []) ∧ ([0, 3].map s0.f = [(S s), (N6 i)]) ∧ (Below w.heap.size w w0) ∧ (i ≤ s.length) ∧ ((s.drop i).all nmB = s.all nmB)) _ ⟨0, rfl, zk, zk, c, by omega, rfl⟩ ?_)))))))
 rintro m1 s2 w3 ⟨i, hm, b, u, c, i1, d⟩
 refine yX u (yA (wR (zD (zD (zsl 9 s (nLt i ((s).length) ?_ ?_))))))
 ·intro h4
  refine nQ (zT (zK (zB (yA (zW (wR (zD (zD ?_))))))))
  have hz := zX s i zo; obtain ⟨a, bb⟩ := hz
  have := a.toNat_lt
  refine xL (k := .i64) s i a underlying9 bb zk zk (zH (nR (zD (xG .u8 ((a.toNat : Nat) : Int) ((65 : Nat) : Int) (65 ≤ a.toNat) rfl (cmpN_ge a.toNat 65) zk zk ?_ ?_))))
  ·intro h7
   replace h7 : 65 ≤ a.toNat := by omega
   refine zD (zw (zD (zw (xG .u8 ((a.toNat : Nat) : Int) ((90 : Nat) : Int) (a.toNat ≤ 90) rfl (cmpN_le a.toNat 90) zk zk ?_ ?_))))
   ·intro h8
    replace h8 : a.toNat ≤ 90 := by omega
    refine xJ (zD (zs (zs (zs (zs (zs (zs (xJ (zD (zs (zs (zs (zs (zs (zs (xJ (zD (zs (zs (xJ (zD (zs (zs (xJ (qO true (nQ (zF (zK (zJ (zB (zP (zD (xN i 1 (zH (zQ (zB ⟨_, zo, (i + 1), rfl, b, zk, c, zo, ?_⟩))))))))))))))))))))))))))))))))))))
    exact qR za zo d
   intro h9
   replace h9 : 90 < a.toNat := by omega
   refine xJ (zD (zw (zD (zw (xG .u8 ((a.toNat : Nat) : Int) ((97 : Nat) : Int) (97 ≤ a.toNat) rfl (cmpN_ge a.toNat 97) zk zk ?_ ?_)))))
   ·intro bc
    replace bc : 97 ≤ a.toNat := by omega
    refine zw (zD (zw (zD (zw (xG .u8 ((a.toNat : Nat) : Int) ((122 : Nat) : Int) (a.toNat ≤ 122) rfl (cmpN_le a.toNat 122) zk zk ?_ ?_)))))
    ·intro bi
     replace bi : a.toNat ≤ 122 := by omega
     refine zw (xJ (xF (zD (zs (zs (zs (zs (zs (zs (xJ (zD (zs (zs (xJ (zD (zs (zs (xJ (qO true (nQ (zF (zK (zJ (zB (zP (zD (xN i 1 (zH (zQ (zB ⟨_, zo, (i + 1), rfl, b, zk, c, zo, ?_⟩))))))))))))))))))))))))))))))
     exact qR za zo d
    intro aq
    replace aq : 122 < a.toNat := by omega
    refine zw (xJ (xF (zD (zw (zD (zw (xG .u8 ((a.toNat : Nat) : Int) ((48 : Nat) : Int) (48 ≤ a.toNat) rfl (cmpN_ge a.toNat 48) zk zk ?_ ?_)))))))
    ·intro au
     replace au : 48 ≤ a.toNat := by omega
     refine zw (zD (zw (zD (zw (xG .u8 ((a.toNat : Nat) : Int) ((57 : Nat) : Int) (a.toNat ≤ 57) rfl (cmpN_le a.toNat 57) zk zk ?_ ?_)))))
     ·intro be
      replace be : a.toNat ≤ 57 := by omega
      refine zw (xJ (xF (zD (zs (zs (xJ (zD (zs (zs (xJ (qO true (nQ (zF (zK (zJ (zB (zP (zD (xN i 1 (zH (zQ (zB ⟨_, zo, (i + 1), rfl, b, zk, c, zo, ?_⟩))))))))))))))))))))))
      exact qR za zo d
     intro ag
     replace ag : 57 < a.toNat := by omega
     refine zw (xJ (xF (zD (zw (zD (zw (xG .u8 ((a.toNat : Nat) : Int) ((95 : Nat) : Int) (a.toNat = 95) rfl (xI a.toNat 95) zk zk ?_ ?_)))))))
     ·intro a3
      replace a3 : a.toNat = 95 := by omega
      refine xF (zD (zs (zs (xJ (qO true (nQ (zF (zK (zJ (zB (zP (zD (xN i 1 (zH (zQ (zB ⟨_, zo, (i + 1), rfl, b, zk, c, zo, ?_⟩))))))))))))))))
      exact qR za zo d
     intro am
     replace am : a.toNat ≠ 95 := by omega
     refine xF (zD (zw (zD (zw (xG .u8 ((a.toNat : Nat) : Int) ((45 : Nat) : Int) (a.toNat = 45) rfl (xI a.toNat 45) zk zk ?_ ?_)))))
     ·intro ap
      replace ap : a.toNat = 45 := by omega
      refine xF (qO true (nQ (zF (zK (zJ (zB (zP (zD (xN i 1 (zH (zQ (zB ⟨_, zo, (i + 1), rfl, b, zk, c, zo, ?_⟩))))))))))))
      exact qR za zo d
     intro n
     replace n : a.toNat ≠ 45 := by omega
     exact xF (qO false (nQ (zT (wR (zH (nQ (zR (zL (zG (zG (zL (zG (zZ [(.bool false)] (hd := b) ⟨eb (by exact (nmb_off za zo d).symm), c⟩)))))))))))))
    intro aa
    replace aa : a.toNat < 48 := by omega
    refine zw (zD (zs (zs (zw (xF (xF (zD (zw (zD (zw (xG .u8 ((a.toNat : Nat) : Int) ((95 : Nat) : Int) (a.toNat = 95) rfl (xI a.toNat 95) zk zk ?_ ?_)))))))))))
    ·intro a4
     replace a4 : a.toNat = 95 := by omega
     refine xF (zD (zs (zs (xJ (qO true (nQ (zF (zK (zJ (zB (zP (zD (xN i 1 (zH (zQ (zB ⟨_, zo, (i + 1), rfl, b, zk, c, zo, ?_⟩))))))))))))))))
     exact qR za zo d
    intro a7
    replace a7 : a.toNat ≠ 95 := by omega
    refine xF (zD (zw (zD (zw (xG .u8 ((a.toNat : Nat) : Int) ((45 : Nat) : Int) (a.toNat = 45) rfl (xI a.toNat 45) zk zk ?_ ?_)))))
    ·intro al
     replace al : a.toNat = 45 := by omega
     refine xF (qO true (nQ (zF (zK (zJ (zB (zP (zD (xN i 1 (zH (zQ (zB ⟨_, zo, (i + 1), rfl, b, zk, c, zo, ?_⟩))))))))))))
     exact qR za zo d
    intro bh
    replace bh : a.toNat ≠ 45 := by omega
    exact xF (qO false (nQ (zT (wR (zH (nQ (zR (zL (zG (zG (zL (zG (zZ [(.bool false)] (hd := b) ⟨eb (by exact (nmb_off za zo d).symm), c⟩)))))))))))))
   intro ac
   replace ac : a.toNat < 97 := by omega
   refine zw (zD (zs (zs (zw (xF (xF (zD (zw (zD (zw (xG .u8 ((a.toNat : Nat) : Int) ((48 : Nat) : Int) (48 ≤ a.toNat) rfl (cmpN_ge a.toNat 48) zk zk ?_ ?_)))))))))))
   ·intro a9
    replace a9 : 48 ≤ a.toNat := by omega
    refine zw (zD (zw (zD (zw (xG .u8 ((a.toNat : Nat) : Int) ((57 : Nat) : Int) (a.toNat ≤ 57) rfl (cmpN_le a.toNat 57) zk zk ?_ ?_)))))
    ·intro z
     replace z : a.toNat ≤ 57 := by omega
     refine zw (xJ (xF (zD (zs (zs (xJ (zD (zs (zs (xJ (qO true (nQ (zF (zK (zJ (zB (zP (zD (xN i 1 (zH (zQ (zB ⟨_, zo, (i + 1), rfl, b, zk, c, zo, ?_⟩))))))))))))))))))))))
     exact qR za zo d
    intro ab
    replace ab : 57 < a.toNat := by omega
    refine zw (xJ (xF (zD (zw (zD (zw (xG .u8 ((a.toNat : Nat) : Int) ((95 : Nat) : Int) (a.toNat = 95) rfl (xI a.toNat 95) zk zk ?_ ?_)))))))
    ·intro ak
     replace ak : a.toNat = 95 := by omega
     refine xF (zD (zs (zs (xJ (qO true (nQ (zF (zK (zJ (zB (zP (zD (xN i 1 (zH (zQ (zB ⟨_, zo, (i + 1), rfl, b, zk, c, zo, ?_⟩))))))))))))))))
     exact qR za zo d
    intro ah
    replace ah : a.toNat ≠ 95 := by omega
    refine xF (zD (zw (zD (zw (xG .u8 ((a.toNat : Nat) : Int) ((45 : Nat) : Int) (a.toNat = 45) rfl (xI a.toNat 45) zk zk ?_ ?_)))))
    ·intro g
     replace g : a.toNat = 45 := by omega
     refine xF (qO true (nQ (zF (zK (zJ (zB (zP (zD (xN i 1 (zH (zQ (zB ⟨_, zo, (i + 1), rfl, b, zk, c, zo, ?_⟩))))))))))))
     exact qR za zo d
    intro ba
    replace ba : a.toNat ≠ 45 := by omega
    exact xF (qO false (nQ (zT (wR (zH (nQ (zR (zL (zG (zG (zL (zG (zZ [(.bool false)] (hd := b) ⟨eb (by exact (nmb_off za zo d).symm), c⟩)))))))))))))
   intro r
   replace r : a.toNat < 48 := by omega
   refine zw (zD (zs (zs (zw (xF (xF (zD (zw (zD (zw (xG .u8 ((a.toNat : Nat) : Int) ((95 : Nat) : Int) (a.toNat = 95) rfl (xI a.toNat 95) zk zk ?_ ?_)))))))))))
   ·intro t
    replace t : a.toNat = 95 := by omega
    refine xF (zD (zs (zs (xJ (qO true (nQ (zF (zK (zJ (zB (zP (zD (xN i 1 (zH (zQ (zB ⟨_, zo, (i + 1), rfl, b, zk, c, zo, ?_⟩))))))))))))))))
    exact qR za zo d
   intro aj
   replace aj : a.toNat ≠ 95 := by omega
   refine xF (zD (zw (zD (zw (xG .u8 ((a.toNat : Nat) : Int) ((45 : Nat) : Int) (a.toNat = 45) rfl (xI a.toNat 45) zk zk ?_ ?_)))))
   ·intro bk
    replace bk : a.toNat = 45 := by omega
    refine xF (qO true (nQ (zF (zK (zJ (zB (zP (zD (xN i 1 (zH (zQ (zB ⟨_, zo, (i + 1), rfl, b, zk, c, zo, ?_⟩))))))))))))
    exact qR za zo d
   intro bf
   replace bf : a.toNat ≠ 45 := by omega
   exact xF (qO false (nQ (zT (wR (zH (nQ (zR (zL (zG (zG (zL (zG (zZ [(.bool false)] (hd := b) ⟨eb (by exact (nmb_off za zo d).symm), c⟩)))))))))))))
  intro bd
  replace bd : a.toNat < 65 := by omega
  refine zD (zs (zs (xF (zD (zw (zD (zw (xG .u8 ((a.toNat : Nat) : Int) ((97 : Nat) : Int) (97 ≤ a.toNat) rfl (cmpN_ge a.toNat 97) zk zk ?_ ?_))))))))
  ·intro a1
   replace a1 : 97 ≤ a.toNat := by omega
   refine zw (zD (zw (zD (zw (xG .u8 ((a.toNat : Nat) : Int) ((122 : Nat) : Int) (a.toNat ≤ 122) rfl (cmpN_le a.toNat 122) zk zk ?_ ?_)))))
   ·intro l
    replace l : a.toNat ≤ 122 := by omega
    refine zw (xJ (xF (zD (zs (zs (zs (zs (zs (zs (xJ (zD (zs (zs (xJ (zD (zs (zs (xJ (qO true (nQ (zF (zK (zJ (zB (zP (zD (xN i 1 (zH (zQ (zB ⟨_, zo, (i + 1), rfl, b, zk, c, zo, ?_⟩))))))))))))))))))))))))))))))
    exact qR za zo d
   intro ai
   replace ai : 122 < a.toNat := by omega
   refine zw (xJ (xF (zD (zw (zD (zw (xG .u8 ((a.toNat : Nat) : Int) ((48 : Nat) : Int) (48 ≤ a.toNat) rfl (cmpN_ge a.toNat 48) zk zk ?_ ?_)))))))
   ·intro a2
    replace a2 : 48 ≤ a.toNat := by omega
    refine zw (zD (zw (zD (zw (xG .u8 ((a.toNat : Nat) : Int) ((57 : Nat) : Int) (a.toNat ≤ 57) rfl (cmpN_le a.toNat 57) zk zk ?_ ?_)))))
    ·intro ao
     replace ao : a.toNat ≤ 57 := by omega
     refine zw (xJ (xF (zD (zs (zs (xJ (zD (zs (zs (xJ (qO true (nQ (zF (zK (zJ (zB (zP (zD (xN i 1 (zH (zQ (zB ⟨_, zo, (i + 1), rfl, b, zk, c, zo, ?_⟩))))))))))))))))))))))
     exact qR za zo d
    intro av
    replace av : 57 < a.toNat := by omega
    refine zw (xJ (xF (zD (zw (zD (zw (xG .u8 ((a.toNat : Nat) : Int) ((95 : Nat) : Int) (a.toNat = 95) rfl (xI a.toNat 95) zk zk ?_ ?_)))))))
    ·intro ay
     replace ay : a.toNat = 95 := by omega
     refine xF (zD (zs (zs (xJ (qO true (nQ (zF (zK (zJ (zB (zP (zD (xN i 1 (zH (zQ (zB ⟨_, zo, (i + 1), rfl, b, zk, c, zo, ?_⟩))))))))))))))))
     exact qR za zo d
    intro bg
    replace bg : a.toNat ≠ 95 := by omega
    refine xF (zD (zw (zD (zw (xG .u8 ((a.toNat : Nat) : Int) ((45 : Nat) : Int) (a.toNat = 45) rfl (xI a.toNat 45) zk zk ?_ ?_)))))
    ·intro ad
     replace ad : a.toNat = 45 := by omega
     refine xF (qO true (nQ (zF (zK (zJ (zB (zP (zD (xN i 1 (zH (zQ (zB ⟨_, zo, (i + 1), rfl, b, zk, c, zo, ?_⟩))))))))))))
     exact qR za zo d
    intro y
    replace y : a.toNat ≠ 45 := by omega
    exact xF (qO false (nQ (zT (wR (zH (nQ (zR (zL (zG (zG (zL (zG (zZ [(.bool false)] (hd := b) ⟨eb (by exact (nmb_off za zo d).symm), c⟩)))))))))))))
   intro ar
   replace ar : a.toNat < 48 := by omega
   refine zw (zD (zs (zs (zw (xF (xF (zD (zw (zD (zw (xG .u8 ((a.toNat : Nat) : Int) ((95 : Nat) : Int) (a.toNat = 95) rfl (xI a.toNat 95) zk zk ?_ ?_)))))))))))
   ·intro p
    replace p : a.toNat = 95 := by omega
    refine xF (zD (zs (zs (xJ (qO true (nQ (zF (zK (zJ (zB (zP (zD (xN i 1 (zH (zQ (zB ⟨_, zo, (i + 1), rfl, b, zk, c, zo, ?_⟩))))))))))))))))
    exact qR za zo d
   intro az
   replace az : a.toNat ≠ 95 := by omega
   refine xF (zD (zw (zD (zw (xG .u8 ((a.toNat : Nat) : Int) ((45 : Nat) : Int) (a.toNat = 45) rfl (xI a.toNat 45) zk zk ?_ ?_)))))
   ·intro a5
    replace a5 : a.toNat = 45 := by omega
    refine xF (qO true (nQ (zF (zK (zJ (zB (zP (zD (xN i 1 (zH (zQ (zB ⟨_, zo, (i + 1), rfl, b, zk, c, zo, ?_⟩))))))))))))
    exact qR za zo d
   intro ae
   replace ae : a.toNat ≠ 45 := by omega
   exact xF (qO false (nQ (zT (wR (zH (nQ (zR (zL (zG (zG (zL (zG (zZ [(.bool false)] (hd := b) ⟨eb (by exact (nmb_off za zo d).symm), c⟩)))))))))))))
  intro e
  replace e : a.toNat < 97 := by omega
  refine zw (zD (zs (zs (zw (xF (xF (zD (zw (zD (zw (xG .u8 ((a.toNat : Nat) : Int) ((48 : Nat) : Int) (48 ≤ a.toNat) rfl (cmpN_ge a.toNat 48) zk zk ?_ ?_)))))))))))
  ·intro a8
   replace a8 : 48 ≤ a.toNat := by omega
   refine zw (zD (zw (zD (zw (xG .u8 ((a.toNat : Nat) : Int) ((57 : Nat) : Int) (a.toNat ≤ 57) rfl (cmpN_le a.toNat 57) zk zk ?_ ?_)))))
   ·intro a0
    replace a0 : a.toNat ≤ 57 := by omega
    refine zw (xJ (xF (zD (zs (zs (xJ (zD (zs (zs (xJ (qO true (nQ (zF (zK (zJ (zB (zP (zD (xN i 1 (zH (zQ (zB ⟨_, zo, (i + 1), rfl, b, zk, c, zo, ?_⟩))))))))))))))))))))))
    exact qR za zo d
   intro o
   replace o : 57 < a.toNat := by omega
   refine zw (xJ (xF (zD (zw (zD (zw (xG .u8 ((a.toNat : Nat) : Int) ((95 : Nat) : Int) (a.toNat = 95) rfl (xI a.toNat 95) zk zk ?_ ?_)))))))
   ·intro af
    replace af : a.toNat = 95 := by omega
    refine xF (zD (zs (zs (xJ (qO true (nQ (zF (zK (zJ (zB (zP (zD (xN i 1 (zH (zQ (zB ⟨_, zo, (i + 1), rfl, b, zk, c, zo, ?_⟩))))))))))))))))
    exact qR za zo d
   intro ax
   replace ax : a.toNat ≠ 95 := by omega
   refine xF (zD (zw (zD (zw (xG .u8 ((a.toNat : Nat) : Int) ((45 : Nat) : Int) (a.toNat = 45) rfl (xI a.toNat 45) zk zk ?_ ?_)))))
   ·intro q
    replace q : a.toNat = 45 := by omega
    refine xF (qO true (nQ (zF (zK (zJ (zB (zP (zD (xN i 1 (zH (zQ (zB ⟨_, zo, (i + 1), rfl, b, zk, c, zo, ?_⟩))))))))))))
    exact qR za zo d
   intro h
   replace h : a.toNat ≠ 45 := by omega
   exact xF (qO false (nQ (zT (wR (zH (nQ (zR (zL (zG (zG (zL (zG (zZ [(.bool false)] (hd := b) ⟨eb (by exact (nmb_off za zo d).symm), c⟩)))))))))))))
  intro j
  replace j : a.toNat < 48 := by omega
  refine zw (zD (zs (zs (zw (xF (xF (zD (zw (zD (zw (xG .u8 ((a.toNat : Nat) : Int) ((95 : Nat) : Int) (a.toNat = 95) rfl (xI a.toNat 95) zk zk ?_ ?_)))))))))))
  ·intro a6
   replace a6 : a.toNat = 95 := by omega
   refine xF (zD (zs (zs (xJ (qO true (nQ (zF (zK (zJ (zB (zP (zD (xN i 1 (zH (zQ (zB ⟨_, zo, (i + 1), rfl, b, zk, c, zo, ?_⟩))))))))))))))))
   exact qR za zo d
  intro bj
  replace bj : a.toNat ≠ 95 := by omega
  refine xF (zD (zw (zD (zw (xG .u8 ((a.toNat : Nat) : Int) ((45 : Nat) : Int) (a.toNat = 45) rfl (xI a.toNat 45) zk zk ?_ ?_)))))
  ·intro aw
   replace aw : a.toNat = 45 := by omega
   refine xF (qO true (nQ (zF (zK (zJ (zB (zP (zD (xN i 1 (zH (zQ (zB ⟨_, zo, (i + 1), rfl, b, zk, c, zo, ?_⟩))))))))))))
   exact qR za zo d
  intro an
  replace an : a.toNat ≠ 45 := by omega
  exact xF (qO false (nQ (zT (wR (zH (nQ (zR (zL (zG (zG (zL (zG (zZ [(.bool false)] (hd := b) ⟨eb (by exact (nmb_off za zo d).symm), c⟩)))))))))))))
 intro bp
 refine nQ (zF (yU (zS (zS (yF (zB (wR (zD (L_sne s ([] : List UInt8) rfl zk zk ?_ ?_)))))))))
 ·intro bo
  exact zH (nQ (zR (zZ [(.bool true)] (hd := b) ⟨eb (by (rw [nm_end zo d]; simp [*]; done)), c⟩)))
 intro bq
 exact zH (nQ (zR (zZ [(.bool false)] (hd := b) ⟨eb (by (rw [nm_end zo d]; simp [*]; done)), c⟩)))
theorem c_furrowref03_Scan (no : Int) (s : List UInt8) (w : World) (hs : s.length ≤ 1073741824) :
  Calls Tryz.prog 78 #[(I6 no), (S s)] w (Ret fun v w' => ∃ (q0 : Value), v = (.tuple #[(Value.agg #[(I6 ((scanF no s).1.1)), (U8 ((scanF no s).1.2.1)), (S ((scanF no s).1.2.2.1)), q0, (S ((scanF no s).1.2.2.2.2))]), (I6 ((scanF no s).2))]) ∧ Row w' w.heap.size 9 1 encStr q0 ((scanF no s).1.2.2.2.1) ∧ Below w.heap.size w w') := by
 refine wJ 92 func78 rfl ?_
 have h := Below.refl w.heap.size w
 have e3 := noteF_len s
 have eo := headF_len s
 refine wR (zN [(I6 0), (U8 0), (S []), (.slice none 0 0), (S [])] 72 ?_)
 intro b1 w2 b6
 have t := b6.ge h.size
 have c := b6.here
 refine zH (nW (wR (zD (zc (c_furrowref03_Check s _ zo) ?_))))
 rintro _ w4 ⟨rfl, b5⟩
 have := chkF_range s
 refine zD (zr (N6 ((chkF s).1)) (zr (I6 ((chkF s).2)) (zH (zH (nR (zD (zNe .i64 ((chkF s).2) 0 ?_ ?_)))))))
 ·intro h7
  replace c := zC c b5
  refine nQ (zT (wR (zr (Value.agg #[(I6 0), (U8 0), (S []), (.slice none 0 0), (S [])]) (zD (qQ [(I6 0), (U8 0), (S []), (.slice none 0 0), (S [])] c ?_)))))
  intro w8 cc
  replace c := cc.here
  refine zH (nQ (zR (zG (yM [.cell 4 72, .tmp 5] [(Value.agg #[(I6 0), (U8 0), (S []), (.slice none 0 0), (S [])]), (I6 ((chkF s).2))] rfl rfl ⟨⟨⟨b1, 0, none⟩, zk, yH [(I6 0), (U8 0), (S []), (.slice none 0 0), (S [])] zk zk (yE c)⟩, zk, trivial⟩ ?_))))
  replace h := ((h.tr b6.below).tr b5).trans (cc.below t)
  exact ⟨(.slice none 0 0), yV (by (rw [scan_bad za]; try rfl; done)) (e6 (by (rw [scan_bad za]; try rfl; done))), (Row.nil _ _ _ _ _).cast (by (rw [scan_bad za]; try rfl; done)), h⟩
 intro er
 refine nQ (zF (zK (zB (wR (zD (zr (Value.agg #[(I6 no), (U8 0), (S []), (.slice none 0 0), (S [])]) (zN [(I6 0), (U8 0), (S []), (.slice none 0 0), (S [])] 72 ?_)))))))
 intro i en f
 replace c := zC c b5
 have b := NE_new (yL c) f
 replace h := (h.tr b6.below).tr b5
 have d := f.ge h.size
 have a := f.here
 refine qQ [(I6 no), (U8 0), (S []), (.slice none 0 0), (S [])] a ?_
 intro ea g
 replace a := g.here
 refine nR (zD (zc (c_furrowref03_Parts s _ zo) ?_))
 rintro _ dw ⟨rfl, e⟩
 have := headF_len s
 have := noteF_len s
 refine zD (zr (S (headF s)) (zr (S (noteF s)) (zH (zH (nW (zW (wR (zD (L_seq (headF s) ([] : List UInt8) rfl zk zk ?_ ?_)))))))))
 ·intro du
  refine zD (zw (zD (zw (zsl 9 (noteF s) (zw (nGe (((noteF s)).length) 9 ?_ ?_))))))
  ·intro ee
   refine xJ (zD (zw (zD (zw (L_ssto (noteF s) 9 underlying9 zk ⟨.i64, zk⟩ zo (zw (L_seq (List.take 9 (noteF s)) ([64, 109, 105, 115, 115, 105, 110, 103, 58] : List UInt8) rfl zk zk ?_ ?_)))))))
   ·intro d7
    replace a := zC a e
    refine xJ (zH (nQ (zT (wR (zr (pt i 1) (z1 1 (U8 3) [(I6 no), (U8 3), (S []), (.slice none 0 0), (S [])] a ?_))))))
    intro ey bq
    replace a := bq.here
    refine nQ (zP (zD (qH (noteF s) 9 underlying9 zk ⟨.i64, zk⟩ zo (zc (c_furrowref03_Cut (List.drop 9 (noteF s)) _ (by (simp only [List.length_drop, List.length_take]; omega))) ?_))))
    rintro _ d9 ⟨an, rfl, r, bv⟩
    replace h := (((h.tr f.below).trans (g.below d)).tr e).trans (bq.below d)
    replace r := r.base h.size
    replace a := zC a bv
    refine zD (zr an (zr (S ((cutF (List.drop 9 (noteF s))).2)) (zr (pt i 3) (xC i 3 an [(I6 no), (U8 3), (S []), (.slice none 0 0), (S [])] [(I6 no), (U8 3), (S []), an, (S [])] 72 zk zk r.one zk a zi rfl ?_))))
    intro d0 bg
    replace r := r.wrote bg (r.ne a zi)
    replace a := bg.here
    refine zr (pt i 4) (z1 4 (S ((cutF (List.drop 9 (noteF s))).2)) [(I6 no), (U8 3), (S []), an, (S ((cutF (List.drop 9 (noteF s))).2))] a ?_)
    intro e0 bj
    replace r := r.wrote bj (r.ne a zi)
    replace a := bj.here
    replace c := zI (zI (zC (zI (zC (zI (zC c f.below) g b) e) bq b) bv) bg b) bj b
    refine zQ (zJ (zB (wR (vT a (xU b1 0 [(I6 no), (U8 3), (S []), an, (S ((cutF (List.drop 9 (noteF s))).2))] [(I6 0), (U8 0), (S []), (.slice none 0 0), (S [])] [(I6 no), (U8 3), (S []), an, (S ((cutF (List.drop 9 (noteF s))).2))] 72 zk zk (yZ rfl (yZ rfl (yZ rfl (yZ r.one (yZ rfl rfl))))) zk c zk rfl ?_)))))
    intro d1 bw
    replace r := r.wrote bw (r.ne c zi)
    replace c := bw.here
    refine zH (nQ (zR (yM [.cell 4 72, .tmp 5] [(Value.agg #[(I6 no), (U8 3), (S []), an, (S ((cutF (List.drop 9 (noteF s))).2))]), (I6 0)] rfl rfl ⟨⟨⟨b1, 0, none⟩, zk, yH [(I6 no), (U8 3), (S []), an, (S ((cutF (List.drop 9 (noteF s))).2))] zk zk (yE c)⟩, zk, trivial⟩ ?_)))
    replace h := (((h.tr bv).trans (bg.below d)).trans (bj.below d)).trans (bw.below t)
    exact ⟨an, yV (by (rw [uG za za (hp_take (p := missT) za)]; try rfl; done)) (e6 (by (rw [uG za za (hp_take (p := missT) za)]; try rfl; done))), r.cast (by (rw [uG za za (hp_take (p := missT) za)]; try rfl; done)), h⟩
   intro ec
   refine xJ (zH (nQ (zF (wR (zD (L_seq (headF s) ([] : List UInt8) rfl zk zk ?_ ?_))))))
   ·intro ei
    replace a := zC a e
    refine zH (nQ (zT (wR (zr (pt i 1) (z1 1 (U8 0) [(I6 no), (U8 0), (S []), (.slice none 0 0), (S [])] a ?_)))))
    intro es bt
    replace a := bt.here
    refine nQ (zP (zD (zr (pt i 4) (z1 4 (S (noteF s)) [(I6 no), (U8 0), (S []), (.slice none 0 0), (S (noteF s))] a ?_))))
    intro ex bs
    replace a := bs.here
    replace c := zI (zI (zC (zI (zC c f.below) g b) e) bt b) bs b
    refine zQ (zJ (zB (wR (vT a (qQ [(I6 no), (U8 0), (S []), (.slice none 0 0), (S (noteF s))] c ?_)))))
    intro dv b8
    replace c := b8.here
    refine zH (nQ (zR (yM [.cell 4 72, .tmp 5] [(Value.agg #[(I6 no), (U8 0), (S []), (.slice none 0 0), (S (noteF s))]), (I6 0)] rfl rfl ⟨⟨⟨b1, 0, none⟩, zk, yH [(I6 no), (U8 0), (S []), (.slice none 0 0), (S (noteF s))] zk zk (yE c)⟩, zk, trivial⟩ ?_)))
    replace h := (((((h.tr f.below).trans (g.below d)).tr e).trans (bt.below d)).trans (bs.below d)).trans (b8.below t)
    exact ⟨(.slice none 0 0), yV (by (rw [Zg za za (hp_not (p := missT) (.inr za))]; try rfl; done)) (e6 (by (rw [Zg za za (hp_not (p := missT) (.inr za))]; try rfl; done))), (Row.nil _ _ _ _ _).cast (by (rw [Zg za za (hp_not (p := missT) (.inr za))]; try rfl; done)), h⟩
   intro em
   refine zH (nQ (zF (wR (zD ?_))))
   have hz := zX (headF s) 0 (by exact List.length_pos_iff.2 za); obtain ⟨az, ci⟩ := hz
   have := az.toNat_lt
   refine xL (k := .i64) (headF s) 0 az underlying9 ci zk zk (xG .u8 ((az.toNat : Nat) : Int) ((64 : Nat) : Int) (az.toNat = 64) rfl (xI az.toNat 64) zk zk ?_ ?_)
   ·intro cj
    replace cj : az.toNat = 64 := by omega
    refine zH (nQ (zT (wR (zD (qH (headF s) 1 underlying9 zk ⟨.i64, zk⟩ (by exact List.length_pos_iff.2 za) (zc (qG (List.drop 1 (headF s)) 58 _ (by (simp only [List.length_drop, List.length_take]; omega))) ?_))))))
    rintro _ dx ⟨rfl, ae⟩
    have := unt_len 58 (List.drop 1 (headF s))
    refine zD (zr (S ((untF 58 (List.drop 1 (headF s))).1)) (zr (S ((untF 58 (List.drop 1 (headF s))).2.1)) (zr (.bool ((untF 58 (List.drop 1 (headF s))).2.2)) (yT ((untF 58 (List.drop 1 (headF s))).2.2) ?_ ?_))))
    ·intro e1
     refine zH (zH (zH (nW (wR (zD (qO true (zD (zw (zD (zw (zc (uO ((untF 58 (List.drop 1 (headF s))).1) _ (by (simp only [List.length_drop] at *; omega))) ?_)))))))))))
     rintro _ eg ⟨rfl, av⟩
     refine yT (nameF ((untF 58 (List.drop 1 (headF s))).1)) ?_ ?_
     ·intro ef
      replace a := zC (zC (zC a e) ae) av
      refine zw (qO true (xF (nQ (zF (zK (zB (wR (zr (pt i 1) (z1 1 (U8 2) [(I6 no), (U8 2), (S []), (.slice none 0 0), (S [])] a ?_)))))))))
      intro ek b2
      replace a := b2.here
      refine nR (zD (zr (pt i 2) (z1 2 (S ((untF 58 (List.drop 1 (headF s))).1)) [(I6 no), (U8 2), (S ((untF 58 (List.drop 1 (headF s))).1)), (.slice none 0 0), (S [])] a ?_)))
      intro ep b4
      replace a := b4.here
      refine nR (zD (zc (xY ((untF 58 (List.drop 1 (headF s))).2.1) _ (by (simp only [List.length_drop] at *; omega))) ?_))
      rintro ar ej ⟨_, rfl, o, bn⟩
      replace h := ((((((h.tr f.below).trans (g.below d)).tr e).tr ae).tr av).trans (b2.below d)).trans (b4.below d)
      replace o := o.base h.size
      replace a := zC a bn
      refine zr (pt i 3) (xC i 3 ar [(I6 no), (U8 2), (S ((untF 58 (List.drop 1 (headF s))).1)), (.slice none 0 0), (S [])] [(I6 no), (U8 2), (S ((untF 58 (List.drop 1 (headF s))).1)), ar, (S [])] 72 zk zk o.one zk a zi rfl ?_)
      intro eb be
      replace o := o.wrote be (o.ne a zi)
      replace a := be.here
      refine nQ (zP (zD (zr (pt i 4) (z1 4 (S (noteF s)) [(I6 no), (U8 2), (S ((untF 58 (List.drop 1 (headF s))).1)), ar, (S (noteF s))] a ?_))))
      intro el bi
      replace o := o.wrote bi (o.ne a zi)
      replace a := bi.here
      replace c := zI (zI (zC (zI (zI (zC (zC (zC (zI (zC c f.below) g b) e) ae) av) b2 b) b4 b) bn) be b) bi b
      refine zQ (zJ (zB (wR (vT a (xU b1 0 [(I6 no), (U8 2), (S ((untF 58 (List.drop 1 (headF s))).1)), ar, (S (noteF s))] [(I6 0), (U8 0), (S []), (.slice none 0 0), (S [])] [(I6 no), (U8 2), (S ((untF 58 (List.drop 1 (headF s))).1)), ar, (S (noteF s))] 72 zk zk (yZ rfl (yZ rfl (yZ rfl (yZ o.one (yZ rfl rfl))))) zk c zk rfl ?_)))))
      intro d3 bz
      replace o := o.wrote bz (o.ne c zi)
      replace c := bz.here
      refine zH (nQ (zR (yM [.cell 4 72, .tmp 5] [(Value.agg #[(I6 no), (U8 2), (S ((untF 58 (List.drop 1 (headF s))).1)), ar, (S (noteF s))]), (I6 0)] rfl rfl ⟨⟨⟨b1, 0, none⟩, zk, yH [(I6 no), (U8 2), (S ((untF 58 (List.drop 1 (headF s))).1)), ar, (S (noteF s))] zk zk (yE c)⟩, zk, trivial⟩ ?_)))
      replace h := (((h.tr bn).trans (be.below d)).trans (bi.below d)).trans (bz.below t)
      exact ⟨ar, yV (by exact absurd za (by assumption : headF s ≠ [])) (e6 (by exact absurd za (by assumption : headF s ≠ []))), o.cast (by exact absurd za (by assumption : headF s ≠ [])), h⟩
     intro e2
     replace c := zC (zC (zC (zI (zC c f.below) g b) e) ae) av
     refine zw (qO false (xF (nQ (zT (wR (zr (Value.agg #[(I6 0), (U8 0), (S []), (.slice none 0 0), (S [])]) (qQ [(I6 0), (U8 0), (S []), (.slice none 0 0), (S [])] c ?_)))))))
     intro d8 b9
     replace c := b9.here
     refine zH (nQ (zR (zG (zL (zG (yM [.cell 4 72, .tmp 5] [(Value.agg #[(I6 0), (U8 0), (S []), (.slice none 0 0), (S [])]), (I6 33)] rfl rfl ⟨⟨⟨b1, 0, none⟩, zk, yH [(I6 0), (U8 0), (S []), (.slice none 0 0), (S [])] zk zk (yE c)⟩, zk, trivial⟩ ?_))))))
     replace h := (((((h.tr f.below).trans (g.below d)).tr e).tr ae).tr av).trans (b9.below t)
     exact ⟨(.slice none 0 0), yV (by exact absurd za (by assumption : headF s ≠ [])) (e6 (by exact absurd za (by assumption : headF s ≠ []))), (Row.nil _ _ _ _ _).cast (by exact absurd za (by assumption : headF s ≠ [])), h⟩
    intro ed
    replace c := zC (zC (zI (zC c f.below) g b) e) ae
    refine zH (zH (zH (nW (wR (zD (qO false (zD (zs (zs (zs (xJ (nQ (zT (wR (zr (Value.agg #[(I6 0), (U8 0), (S []), (.slice none 0 0), (S [])]) (qQ [(I6 0), (U8 0), (S []), (.slice none 0 0), (S [])] c ?_))))))))))))))))
    intro d2 ca
    replace c := ca.here
    refine zH (nQ (zR (zG (zL (zG (yM [.cell 4 72, .tmp 5] [(Value.agg #[(I6 0), (U8 0), (S []), (.slice none 0 0), (S [])]), (I6 33)] rfl rfl ⟨⟨⟨b1, 0, none⟩, zk, yH [(I6 0), (U8 0), (S []), (.slice none 0 0), (S [])] zk zk (yE c)⟩, zk, trivial⟩ ?_))))))
    replace h := ((((h.tr f.below).trans (g.below d)).tr e).tr ae).trans (ca.below t)
    exact ⟨(.slice none 0 0), yV (by exact absurd za (by assumption : headF s ≠ [])) (e6 (by exact absurd za (by assumption : headF s ≠ []))), (Row.nil _ _ _ _ _).cast (by exact absurd za (by assumption : headF s ≠ [])), h⟩
   intro ck
   replace ck : az.toNat ≠ 64 := by omega
   replace a := zC a e
   refine zH (nQ (zF (wR (zr (pt i 1) (z1 1 (U8 1) [(I6 no), (U8 1), (S []), (.slice none 0 0), (S [])] a ?_)))))
   intro e4 bk
   replace a := bk.here
   refine nR (zD (zc (xY (headF s) _ zo) ?_))
   rintro au ez ⟨_, rfl, q, bl⟩
   replace h := (((h.tr f.below).trans (g.below d)).tr e).trans (bk.below d)
   replace q := q.base h.size
   replace a := zC a bl
   refine zr (pt i 3) (xC i 3 au [(I6 no), (U8 1), (S []), (.slice none 0 0), (S [])] [(I6 no), (U8 1), (S []), au, (S [])] 72 zk zk q.one zk a zi rfl ?_)
   intro eu bf
   replace q := q.wrote bf (q.ne a zi)
   replace a := bf.here
   refine nQ (zP (zD (zr (pt i 4) (z1 4 (S (noteF s)) [(I6 no), (U8 1), (S []), au, (S (noteF s))] a ?_))))
   intro ew bh
   replace q := q.wrote bh (q.ne a zi)
   replace a := bh.here
   replace c := zI (zI (zC (zI (zC (zI (zC c f.below) g b) e) bk b) bl) bf b) bh b
   refine zQ (zJ (zB (wR (vT a (xU b1 0 [(I6 no), (U8 1), (S []), au, (S (noteF s))] [(I6 0), (U8 0), (S []), (.slice none 0 0), (S [])] [(I6 no), (U8 1), (S []), au, (S (noteF s))] 72 zk zk (yZ rfl (yZ rfl (yZ rfl (yZ q.one (yZ rfl rfl))))) zk c zk rfl ?_)))))
   intro d6 bp
   replace q := q.wrote bp (q.ne c zi)
   replace c := bp.here
   refine zH (nQ (zR (yM [.cell 4 72, .tmp 5] [(Value.agg #[(I6 no), (U8 1), (S []), au, (S (noteF s))]), (I6 0)] rfl rfl ⟨⟨⟨b1, 0, none⟩, zk, yH [(I6 no), (U8 1), (S []), au, (S (noteF s))] zk zk (yE c)⟩, zk, trivial⟩ ?_)))
   replace h := (((h.tr bl).trans (bf.below d)).trans (bh.below d)).trans (bp.below t)
   exact ⟨au, yV (by exact absurd za (by assumption : headF s ≠ [])) (e6 (by exact absurd za (by assumption : headF s ≠ []))), q.cast (by exact absurd za (by assumption : headF s ≠ [])), h⟩
  intro eh
  refine xJ (zD (zs (zs (zs (xF (zH (nQ (zF (wR (zD (L_seq (headF s) ([] : List UInt8) rfl zk zk ?_ ?_)))))))))))
  ·intro dy
   replace a := zC a e
   refine zH (nQ (zT (wR (zr (pt i 1) (z1 1 (U8 0) [(I6 no), (U8 0), (S []), (.slice none 0 0), (S [])] a ?_)))))
   intro ev b3
   replace a := b3.here
   refine nQ (zP (zD (zr (pt i 4) (z1 4 (S (noteF s)) [(I6 no), (U8 0), (S []), (.slice none 0 0), (S (noteF s))] a ?_))))
   intro d4 bm
   replace a := bm.here
   replace c := zI (zI (zC (zI (zC c f.below) g b) e) b3 b) bm b
   refine zQ (zJ (zB (wR (vT a (qQ [(I6 no), (U8 0), (S []), (.slice none 0 0), (S (noteF s))] c ?_)))))
   intro dz b7
   replace c := b7.here
   refine zH (nQ (zR (yM [.cell 4 72, .tmp 5] [(Value.agg #[(I6 no), (U8 0), (S []), (.slice none 0 0), (S (noteF s))]), (I6 0)] rfl rfl ⟨⟨⟨b1, 0, none⟩, zk, yH [(I6 no), (U8 0), (S []), (.slice none 0 0), (S (noteF s))] zk zk (yE c)⟩, zk, trivial⟩ ?_)))
   replace h := (((((h.tr f.below).trans (g.below d)).tr e).trans (b3.below d)).trans (bm.below d)).trans (b7.below t)
   exact ⟨(.slice none 0 0), yV (by (rw [Zg za za (hp_not (p := missT) (.inl za))]; try rfl; done)) (e6 (by (rw [Zg za za (hp_not (p := missT) (.inl za))]; try rfl; done))), (Row.nil _ _ _ _ _).cast (by (rw [Zg za za (hp_not (p := missT) (.inl za))]; try rfl; done)), h⟩
  intro d5
  refine zH (nQ (zF (wR (zD ?_))))
  have hz := zX (headF s) 0 (by exact List.length_pos_iff.2 za); obtain ⟨a2, cf⟩ := hz
  have := a2.toNat_lt
  refine xL (k := .i64) (headF s) 0 a2 underlying9 cf zk zk (xG .u8 ((a2.toNat : Nat) : Int) ((64 : Nat) : Int) (a2.toNat = 64) rfl (xI a2.toNat 64) zk zk ?_ ?_)
  ·intro cl
   replace cl : a2.toNat = 64 := by omega
   refine zH (nQ (zT (wR (zD (qH (headF s) 1 underlying9 zk ⟨.i64, zk⟩ (by exact List.length_pos_iff.2 za) (zc (qG (List.drop 1 (headF s)) 58 _ (by (simp only [List.length_drop, List.length_take]; omega))) ?_))))))
   rintro _ et ⟨rfl, y⟩
   have := unt_len 58 (List.drop 1 (headF s))
   refine zD (zr (S ((untF 58 (List.drop 1 (headF s))).1)) (zr (S ((untF 58 (List.drop 1 (headF s))).2.1)) (zr (.bool ((untF 58 (List.drop 1 (headF s))).2.2)) (yT ((untF 58 (List.drop 1 (headF s))).2.2) ?_ ?_))))
   ·intro dt
    refine zH (zH (zH (nW (wR (zD (qO true (zD (zw (zD (zw (zc (uO ((untF 58 (List.drop 1 (headF s))).1) _ (by (simp only [List.length_drop] at *; omega))) ?_)))))))))))
    rintro _ de ⟨rfl, af⟩
    refine yT (nameF ((untF 58 (List.drop 1 (headF s))).1)) ?_ ?_
    ·intro dm
     replace a := zC (zC (zC a e) y) af
     refine zw (qO true (xF (nQ (zF (zK (zB (wR (zr (pt i 1) (z1 1 (U8 2) [(I6 no), (U8 2), (S []), (.slice none 0 0), (S [])] a ?_)))))))))
     intro dn a9
     replace a := a9.here
     refine nR (zD (zr (pt i 2) (z1 2 (S ((untF 58 (List.drop 1 (headF s))).1)) [(I6 no), (U8 2), (S ((untF 58 (List.drop 1 (headF s))).1)), (.slice none 0 0), (S [])] a ?_)))
     intro c7 a5
     replace a := a5.here
     refine nR (zD (zc (xY ((untF 58 (List.drop 1 (headF s))).2.1) _ (by (simp only [List.length_drop] at *; omega))) ?_))
     rintro z dc ⟨_, rfl, j, aw⟩
     replace h := ((((((h.tr f.below).trans (g.below d)).tr e).tr y).tr af).trans (a9.below d)).trans (a5.below d)
     replace j := j.base h.size
     replace a := zC a aw
     refine zr (pt i 3) (xC i 3 z [(I6 no), (U8 2), (S ((untF 58 (List.drop 1 (headF s))).1)), (.slice none 0 0), (S [])] [(I6 no), (U8 2), (S ((untF 58 (List.drop 1 (headF s))).1)), z, (S [])] 72 zk zk j.one zk a zi rfl ?_)
     intro c3 al
     replace j := j.wrote al (j.ne a zi)
     replace a := al.here
     refine nQ (zP (zD (zr (pt i 4) (z1 4 (S (noteF s)) [(I6 no), (U8 2), (S ((untF 58 (List.drop 1 (headF s))).1)), z, (S (noteF s))] a ?_))))
     intro c6 ap
     replace j := j.wrote ap (j.ne a zi)
     replace a := ap.here
     replace c := zI (zI (zC (zI (zI (zC (zC (zC (zI (zC c f.below) g b) e) y) af) a9 b) a5 b) aw) al b) ap b
     refine zQ (zJ (zB (wR (vT a (xU b1 0 [(I6 no), (U8 2), (S ((untF 58 (List.drop 1 (headF s))).1)), z, (S (noteF s))] [(I6 0), (U8 0), (S []), (.slice none 0 0), (S [])] [(I6 no), (U8 2), (S ((untF 58 (List.drop 1 (headF s))).1)), z, (S (noteF s))] 72 zk zk (yZ rfl (yZ rfl (yZ rfl (yZ j.one (yZ rfl rfl))))) zk c zk rfl ?_)))))
     intro dg ax
     replace j := j.wrote ax (j.ne c zi)
     replace c := ax.here
     refine zH (nQ (zR (yM [.cell 4 72, .tmp 5] [(Value.agg #[(I6 no), (U8 2), (S ((untF 58 (List.drop 1 (headF s))).1)), z, (S (noteF s))]), (I6 0)] rfl rfl ⟨⟨⟨b1, 0, none⟩, zk, yH [(I6 no), (U8 2), (S ((untF 58 (List.drop 1 (headF s))).1)), z, (S (noteF s))] zk zk (yE c)⟩, zk, trivial⟩ ?_)))
     replace h := (((h.tr aw).trans (al.below d)).trans (ap.below d)).trans (ax.below t)
     exact ⟨z, yV (by exact absurd za (by assumption : headF s ≠ [])) (e6 (by exact absurd za (by assumption : headF s ≠ []))), j.cast (by exact absurd za (by assumption : headF s ≠ [])), h⟩
    intro ct
    replace c := zC (zC (zC (zI (zC c f.below) g b) e) y) af
    refine zw (qO false (xF (nQ (zT (wR (zr (Value.agg #[(I6 0), (U8 0), (S []), (.slice none 0 0), (S [])]) (qQ [(I6 0), (U8 0), (S []), (.slice none 0 0), (S [])] c ?_)))))))
    intro dl br
    replace c := br.here
    refine zH (nQ (zR (zG (zL (zG (yM [.cell 4 72, .tmp 5] [(Value.agg #[(I6 0), (U8 0), (S []), (.slice none 0 0), (S [])]), (I6 33)] rfl rfl ⟨⟨⟨b1, 0, none⟩, zk, yH [(I6 0), (U8 0), (S []), (.slice none 0 0), (S [])] zk zk (yE c)⟩, zk, trivial⟩ ?_))))))
    replace h := (((((h.tr f.below).trans (g.below d)).tr e).tr y).tr af).trans (br.below t)
    exact ⟨(.slice none 0 0), yV (by exact absurd za (by assumption : headF s ≠ [])) (e6 (by exact absurd za (by assumption : headF s ≠ []))), (Row.nil _ _ _ _ _).cast (by exact absurd za (by assumption : headF s ≠ [])), h⟩
   intro dh
   replace c := zC (zC (zI (zC c f.below) g b) e) y
   refine zH (zH (zH (nW (wR (zD (qO false (zD (zs (zs (zs (xJ (nQ (zT (wR (zr (Value.agg #[(I6 0), (U8 0), (S []), (.slice none 0 0), (S [])]) (qQ [(I6 0), (U8 0), (S []), (.slice none 0 0), (S [])] c ?_))))))))))))))))
   intro dj bo
   replace c := bo.here
   refine zH (nQ (zR (zG (zL (zG (yM [.cell 4 72, .tmp 5] [(Value.agg #[(I6 0), (U8 0), (S []), (.slice none 0 0), (S [])]), (I6 33)] rfl rfl ⟨⟨⟨b1, 0, none⟩, zk, yH [(I6 0), (U8 0), (S []), (.slice none 0 0), (S [])] zk zk (yE c)⟩, zk, trivial⟩ ?_))))))
   replace h := ((((h.tr f.below).trans (g.below d)).tr e).tr y).trans (bo.below t)
   exact ⟨(.slice none 0 0), yV (by exact absurd za (by assumption : headF s ≠ [])) (e6 (by exact absurd za (by assumption : headF s ≠ []))), (Row.nil _ _ _ _ _).cast (by exact absurd za (by assumption : headF s ≠ [])), h⟩
  intro ce
  replace ce : a2.toNat ≠ 64 := by omega
  replace a := zC a e
  refine zH (nQ (zF (wR (zr (pt i 1) (z1 1 (U8 1) [(I6 no), (U8 1), (S []), (.slice none 0 0), (S [])] a ?_)))))
  intro co a1
  replace a := a1.here
  refine nR (zD (zc (xY (headF s) _ zo) ?_))
  rintro ac c0 ⟨_, rfl, m, bd⟩
  replace h := (((h.tr f.below).trans (g.below d)).tr e).trans (a1.below d)
  replace m := m.base h.size
  replace a := zC a bd
  refine zr (pt i 3) (xC i 3 ac [(I6 no), (U8 1), (S []), (.slice none 0 0), (S [])] [(I6 no), (U8 1), (S []), ac, (S [])] 72 zk zk m.one zk a zi rfl ?_)
  intro c2 aq
  replace m := m.wrote aq (m.ne a zi)
  replace a := aq.here
  refine nQ (zP (zD (zr (pt i 4) (z1 4 (S (noteF s)) [(I6 no), (U8 1), (S []), ac, (S (noteF s))] a ?_))))
  intro cx ak
  replace m := m.wrote ak (m.ne a zi)
  replace a := ak.here
  replace c := zI (zI (zC (zI (zC (zI (zC c f.below) g b) e) a1 b) bd) aq b) ak b
  refine zQ (zJ (zB (wR (vT a (xU b1 0 [(I6 no), (U8 1), (S []), ac, (S (noteF s))] [(I6 0), (U8 0), (S []), (.slice none 0 0), (S [])] [(I6 no), (U8 1), (S []), ac, (S (noteF s))] 72 zk zk (yZ rfl (yZ rfl (yZ rfl (yZ m.one (yZ rfl rfl))))) zk c zk rfl ?_)))))
  intro cq a4
  replace m := m.wrote a4 (m.ne c zi)
  replace c := a4.here
  refine zH (nQ (zR (yM [.cell 4 72, .tmp 5] [(Value.agg #[(I6 no), (U8 1), (S []), ac, (S (noteF s))]), (I6 0)] rfl rfl ⟨⟨⟨b1, 0, none⟩, zk, yH [(I6 no), (U8 1), (S []), ac, (S (noteF s))] zk zk (yE c)⟩, zk, trivial⟩ ?_)))
  replace h := (((h.tr bd).trans (aq.below d)).trans (ak.below d)).trans (a4.below t)
  exact ⟨ac, yV (by exact absurd za (by assumption : headF s ≠ [])) (e6 (by exact absurd za (by assumption : headF s ≠ []))), m.cast (by exact absurd za (by assumption : headF s ≠ [])), h⟩
 intro dr
 refine zD (zs (zs (zs (xF (zD (zs (zs (zs (xF (zH (nQ (zF (wR (zD (L_seq (headF s) ([] : List UInt8) rfl zk zk ?_ ?_)))))))))))))))
 ·intro df
  replace a := zC a e
  refine zH (nQ (zT (wR (zr (pt i 1) (z1 1 (U8 0) [(I6 no), (U8 0), (S []), (.slice none 0 0), (S [])] a ?_)))))
  intro dp a3
  replace a := a3.here
  refine nQ (zP (zD (zr (pt i 4) (z1 4 (S (noteF s)) [(I6 no), (U8 0), (S []), (.slice none 0 0), (S (noteF s))] a ?_))))
  intro cz a7
  replace a := a7.here
  replace c := zI (zI (zC (zI (zC c f.below) g b) e) a3 b) a7 b
  refine zQ (zJ (zB (wR (vT a (qQ [(I6 no), (U8 0), (S []), (.slice none 0 0), (S (noteF s))] c ?_)))))
  intro ds bu
  replace c := bu.here
  refine zH (nQ (zR (yM [.cell 4 72, .tmp 5] [(Value.agg #[(I6 no), (U8 0), (S []), (.slice none 0 0), (S (noteF s))]), (I6 0)] rfl rfl ⟨⟨⟨b1, 0, none⟩, zk, yH [(I6 no), (U8 0), (S []), (.slice none 0 0), (S (noteF s))] zk zk (yE c)⟩, zk, trivial⟩ ?_)))
  replace h := (((((h.tr f.below).trans (g.below d)).tr e).trans (a3.below d)).trans (a7.below d)).trans (bu.below t)
  exact ⟨(.slice none 0 0), yV (by exact absurd za (by assumption : headF s ≠ [])) (e6 (by exact absurd za (by assumption : headF s ≠ []))), (Row.nil _ _ _ _ _).cast (by exact absurd za (by assumption : headF s ≠ [])), h⟩
 intro db
 refine zH (nQ (zF (wR (zD ?_))))
 have hz := zX (headF s) 0 (by exact List.length_pos_iff.2 za); obtain ⟨ah, cb⟩ := hz
 have := ah.toNat_lt
 refine xL (k := .i64) (headF s) 0 ah underlying9 cb zk zk (xG .u8 ((ah.toNat : Nat) : Int) ((64 : Nat) : Int) (ah.toNat = 64) rfl (xI ah.toNat 64) zk zk ?_ ?_)
 ·intro cg
  replace cg : ah.toNat = 64 := by omega
  refine zH (nQ (zT (wR (zD (qH (headF s) 1 underlying9 zk ⟨.i64, zk⟩ (by exact List.length_pos_iff.2 za) (zc (qG (List.drop 1 (headF s)) 58 _ (by (simp only [List.length_drop, List.length_take]; omega))) ?_))))))
  rintro _ c8 ⟨rfl, u⟩
  have := unt_len 58 (List.drop 1 (headF s))
  refine zD (zr (S ((untF 58 (List.drop 1 (headF s))).1)) (zr (S ((untF 58 (List.drop 1 (headF s))).2.1)) (zr (.bool ((untF 58 (List.drop 1 (headF s))).2.2)) (yT ((untF 58 (List.drop 1 (headF s))).2.2) ?_ ?_))))
  ·intro cv
   refine zH (zH (zH (nW (wR (zD (qO true (zD (zw (zD (zw (zc (uO ((untF 58 (List.drop 1 (headF s))).1) _ (by (simp only [List.length_drop] at *; omega))) ?_)))))))))))
   rintro _ cu ⟨rfl, ag⟩
   refine yT (nameF ((untF 58 (List.drop 1 (headF s))).1)) ?_ ?_
   ·intro cp
    replace a := zC (zC (zC a e) u) ag
    refine zw (qO true (xF (nQ (zF (zK (zB (wR (zr (pt i 1) (z1 1 (U8 2) [(I6 no), (U8 2), (S []), (.slice none 0 0), (S [])] a ?_)))))))))
    intro c4 bb
    replace a := bb.here
    refine nR (zD (zr (pt i 2) (z1 2 (S ((untF 58 (List.drop 1 (headF s))).1)) [(I6 no), (U8 2), (S ((untF 58 (List.drop 1 (headF s))).1)), (.slice none 0 0), (S [])] a ?_)))
    intro cw ba
    replace a := ba.here
    refine nR (zD (zc (xY ((untF 58 (List.drop 1 (headF s))).2.1) _ (by (simp only [List.length_drop] at *; omega))) ?_))
    rintro aa cy ⟨_, rfl, n, a8⟩
    replace h := ((((((h.tr f.below).trans (g.below d)).tr e).tr u).tr ag).trans (bb.below d)).trans (ba.below d)
    replace n := n.base h.size
    replace a := zC a a8
    refine zr (pt i 3) (xC i 3 aa [(I6 no), (U8 2), (S ((untF 58 (List.drop 1 (headF s))).1)), (.slice none 0 0), (S [])] [(I6 no), (U8 2), (S ((untF 58 (List.drop 1 (headF s))).1)), aa, (S [])] 72 zk zk n.one zk a zi rfl ?_)
    intro c1 aj
    replace n := n.wrote aj (n.ne a zi)
    replace a := aj.here
    refine nQ (zP (zD (zr (pt i 4) (z1 4 (S (noteF s)) [(I6 no), (U8 2), (S ((untF 58 (List.drop 1 (headF s))).1)), aa, (S (noteF s))] a ?_))))
    intro cs ai
    replace n := n.wrote ai (n.ne a zi)
    replace a := ai.here
    replace c := zI (zI (zC (zI (zI (zC (zC (zC (zI (zC c f.below) g b) e) u) ag) bb b) ba b) a8) aj b) ai b
    refine zQ (zJ (zB (wR (vT a (xU b1 0 [(I6 no), (U8 2), (S ((untF 58 (List.drop 1 (headF s))).1)), aa, (S (noteF s))] [(I6 0), (U8 0), (S []), (.slice none 0 0), (S [])] [(I6 no), (U8 2), (S ((untF 58 (List.drop 1 (headF s))).1)), aa, (S (noteF s))] 72 zk zk (yZ rfl (yZ rfl (yZ rfl (yZ n.one (yZ rfl rfl))))) zk c zk rfl ?_)))))
    intro di bc
    replace n := n.wrote bc (n.ne c zi)
    replace c := bc.here
    refine zH (nQ (zR (yM [.cell 4 72, .tmp 5] [(Value.agg #[(I6 no), (U8 2), (S ((untF 58 (List.drop 1 (headF s))).1)), aa, (S (noteF s))]), (I6 0)] rfl rfl ⟨⟨⟨b1, 0, none⟩, zk, yH [(I6 no), (U8 2), (S ((untF 58 (List.drop 1 (headF s))).1)), aa, (S (noteF s))] zk zk (yE c)⟩, zk, trivial⟩ ?_)))
    replace h := (((h.tr a8).trans (aj.below d)).trans (ai.below d)).trans (bc.below t)
    exact ⟨aa, yV (by (rw [scanR_order za (hp_one za za) za za]; try rfl; done)) (e6 (by (rw [scanR_order za (hp_one za za) za za]; try rfl; done))), n.cast (by (rw [scanR_order za (hp_one za za) za za]; try rfl; done)), h⟩
   intro dk
   replace c := zC (zC (zC (zI (zC c f.below) g b) e) u) ag
   refine zw (qO false (xF (nQ (zT (wR (zr (Value.agg #[(I6 0), (U8 0), (S []), (.slice none 0 0), (S [])]) (qQ [(I6 0), (U8 0), (S []), (.slice none 0 0), (S [])] c ?_)))))))
   intro cn bx
   replace c := bx.here
   refine zH (nQ (zR (zG (zL (zG (yM [.cell 4 72, .tmp 5] [(Value.agg #[(I6 0), (U8 0), (S []), (.slice none 0 0), (S [])]), (I6 33)] rfl rfl ⟨⟨⟨b1, 0, none⟩, zk, yH [(I6 0), (U8 0), (S []), (.slice none 0 0), (S [])] zk zk (yE c)⟩, zk, trivial⟩ ?_))))))
   replace h := (((((h.tr f.below).trans (g.below d)).tr e).tr u).tr ag).trans (bx.below t)
   exact ⟨(.slice none 0 0), yV (by (rw [vS za (hp_one za za) (.inr za)]; try rfl; done)) (e6 (by (rw [vS za (hp_one za za) (.inr za)]; try rfl; done))), (Row.nil _ _ _ _ _).cast (by (rw [vS za (hp_one za za) (.inr za)]; try rfl; done)), h⟩
  intro c5
  replace c := zC (zC (zI (zC c f.below) g b) e) u
  refine zH (zH (zH (nW (wR (zD (qO false (zD (zs (zs (zs (xJ (nQ (zT (wR (zr (Value.agg #[(I6 0), (U8 0), (S []), (.slice none 0 0), (S [])]) (qQ [(I6 0), (U8 0), (S []), (.slice none 0 0), (S [])] c ?_))))))))))))))))
  intro da b0
  replace c := b0.here
  refine zH (nQ (zR (zG (zL (zG (yM [.cell 4 72, .tmp 5] [(Value.agg #[(I6 0), (U8 0), (S []), (.slice none 0 0), (S [])]), (I6 33)] rfl rfl ⟨⟨⟨b1, 0, none⟩, zk, yH [(I6 0), (U8 0), (S []), (.slice none 0 0), (S [])] zk zk (yE c)⟩, zk, trivial⟩ ?_))))))
  replace h := ((((h.tr f.below).trans (g.below d)).tr e).tr u).trans (b0.below t)
  exact ⟨(.slice none 0 0), yV (by (rw [vS za (hp_one za za) (.inl za)]; try rfl; done)) (e6 (by (rw [vS za (hp_one za za) (.inl za)]; try rfl; done))), (Row.nil _ _ _ _ _).cast (by (rw [vS za (hp_one za za) (.inl za)]; try rfl; done)), h⟩
 intro cd
 replace cd : ah.toNat ≠ 64 := by omega
 replace a := zC a e
 refine zH (nQ (zF (wR (zr (pt i 1) (z1 1 (U8 1) [(I6 no), (U8 1), (S []), (.slice none 0 0), (S [])] a ?_)))))
 intro cr a0
 replace a := a0.here
 refine nR (zD (zc (xY (headF s) _ zo) ?_))
 rintro ab dd ⟨_, rfl, l, ay⟩
 replace h := (((h.tr f.below).trans (g.below d)).tr e).trans (a0.below d)
 replace l := l.base h.size
 replace a := zC a ay
 refine zr (pt i 3) (xC i 3 ab [(I6 no), (U8 1), (S []), (.slice none 0 0), (S [])] [(I6 no), (U8 1), (S []), ab, (S [])] 72 zk zk l.one zk a zi rfl ?_)
 intro dq am
 replace l := l.wrote am (l.ne a zi)
 replace a := am.here
 refine nQ (zP (zD (zr (pt i 4) (z1 4 (S (noteF s)) [(I6 no), (U8 1), (S []), ab, (S (noteF s))] a ?_))))
 intro cm ao
 replace l := l.wrote ao (l.ne a zi)
 replace a := ao.here
 replace c := zI (zI (zC (zI (zC (zI (zC c f.below) g b) e) a0 b) ay) am b) ao b
 refine zQ (zJ (zB (wR (vT a (xU b1 0 [(I6 no), (U8 1), (S []), ab, (S (noteF s))] [(I6 0), (U8 0), (S []), (.slice none 0 0), (S [])] [(I6 no), (U8 1), (S []), ab, (S (noteF s))] 72 zk zk (yZ rfl (yZ rfl (yZ rfl (yZ l.one (yZ rfl rfl))))) zk c zk rfl ?_)))))
 intro c9 a6
 replace l := l.wrote a6 (l.ne c zi)
 replace c := a6.here
 refine zH (nQ (zR (yM [.cell 4 72, .tmp 5] [(Value.agg #[(I6 no), (U8 1), (S []), ab, (S (noteF s))]), (I6 0)] rfl rfl ⟨⟨⟨b1, 0, none⟩, zk, yH [(I6 no), (U8 1), (S []), ab, (S (noteF s))] zk zk (yE c)⟩, zk, trivial⟩ ?_)))
 replace h := (((h.tr ay).trans (am.below d)).trans (ao.below d)).trans (a6.below t)
 exact ⟨ab, yV (by (rw [scanR_data za za (hp_one_not za za)]; try rfl; done)) (e6 (by (rw [scanR_data za za (hp_one_not za za)]; try rfl; done))), l.cast (by (rw [scanR_data za za (hp_one_not za za)]; try rfl; done)), h⟩
end Go.Proofs.YtkclikfejmeblaaGreatDoor
end

/- === PUtfM === -/
section
/- PUtf: the reference's reading of a character is the model's: no program in sight. -/
namespace Go.FK
open Go
theorem get!_mk (s : List UInt8) (i : Nat) : (⟨s.toArray⟩ : ByteArray).get! i = s.getD i 0 := by
 show s.toArray[i]! = _
 by_cases h : i < s.length
 ·simp [h, List.getD]
 ·simp [h, List.getD]; rfl
theorem dec_at (s : List UInt8) (p : Nat) : dec s p = Lib.decodeN (s.length - p) (s.getD p 0).toNat (s.getD (p + 1) 0).toNat (s.getD (p + 2) 0).toNat (s.getD (p + 3) 0).toNat := by
 unfold dec
 rw [Lib.decode_at, get!_mk, get!_mk, get!_mk, get!_mk, vW]
theorem atN_some {s : List UInt8} {p f i x : Nat} (h : p + i < s.length) : atN s p (f + 1) i x = if (s.getD (p + i) 0).toNat < 128 ∨ 191 < (s.getD (p + i) 0).toNat then (12, 0) else atN s p f (i + 1) (x * 64 + (s.getD (p + i) 0).toNat - 128) := by
 rw [atN, List.getElem?_eq_getElem h]
 simp [List.getD, h]
theorem atN_none {s : List UInt8} {p f i x : Nat} (h : s.length ≤ p + i) : atN s p (f + 1) i x = (11, 0) := by
 rw [atN, List.getElem?_eq_none h]
theorem uU {n k : Nat} (h : k ≠ 0) : finF n (k, 0) = (1, 65533, (k : Int)) := by unfold finF; rw [if_pos h]
theorem atN_zero (s : List UInt8) (p i x : Nat) : atN s p 0 i x = (0, x) := rfl
theorem fin_ok {n x m : Nat} (hm : leastT[n]? = some m) : finF n (0, x) = if x < m then (1, 65533, 13) else if 55296 ≤ x ∧ x ≤ 57343 then (1, 65533, 14) else if 1114111 < x then (1, 65533, 15) else (n, (x : Int), 0) := by
 unfold finF
 rw [List.getD_eq_getElem?_getD, hm]
 rfl
set_option maxRecDepth 100000 in
theorem at_dec (s : List UInt8) (p : Nat) (h : p < s.length) : (atF s p).1 = (dec s p).2 ∧ (atF s p).2.1 = ((dec s p).1 : Int) := by
 rw [dec_at]
 unfold atF
 have r := (s.getD p 0).toNat_lt
 have u := (s.getD (p + 1) 0).toNat_lt
 have q := (s.getD (p + 2) 0).toNat_lt
 have t := (s.getD (p + 3) 0).toNat_lt
 have d : ∀ f x, p + 1 < s.length → atN s p (f + 1) 1 x = _ := fun f x hh => atN_some hh
 have e : ∀ f x, p + 2 < s.length → atN s p (f + 1) 2 x = _ := fun f x hh => atN_some hh
 have g : ∀ f x, p + 3 < s.length → atN s p (f + 1) 3 x = _ := fun f x hh => atN_some hh
 generalize (s.getD p 0).toNat = b0 at *
 generalize (s.getD (p + 1) 0).toNat = b1 at *
 generalize (s.getD (p + 2) 0).toNat = b2 at *
 generalize (s.getD (p + 3) 0).toNat = b3 at *
 simp only
 have j : b0 &&& 127 = b0 % 128 := Nat.and_two_pow_sub_one_eq_mod b0 7
 have k : b0 &&& 31 = b0 % 32 := Nat.and_two_pow_sub_one_eq_mod b0 5
 have o : b0 &&& 15 = b0 % 16 := Nat.and_two_pow_sub_one_eq_mod b0 4
 have n : b0 &&& 7 = b0 % 8 := Nat.and_two_pow_sub_one_eq_mod b0 3
 rcases (by omega : b0 < 128 ∨ (128 ≤ b0 ∧ b0 < 192 ∨ 247 < b0) ∨ (192 ≤ b0 ∧ b0 < 224) ∨ (224 ≤ b0 ∧ b0 < 240) ∨ (240 ≤ b0 ∧ b0 ≤ 247)) with hb | hb | hb | hb | hb
 ·have hl : longN (b0 : Int) = 1 := by unfold longN; rw [if_pos (by omega)]
  rw [hl, if_neg (by decide)]
  simp only [atG, atN, Nat.sub_self, bitsT, List.getD_cons_succ, List.getD_cons_zero, j, finF, leastT, Lib.decodeN, hb, if_true]
  rw [if_neg (by simp), if_neg (by omega), if_neg (by omega), if_neg (by omega)]
  exact ⟨rfl, by simp only; omega⟩
 ·have hl : longN (b0 : Int) = 0 := by unfold longN; rw [if_neg (by omega), if_pos (by omega)]
  rw [hl, if_pos rfl]
  unfold Lib.decodeN
  rw [if_neg (by omega), if_neg (by omega), if_neg (by omega), if_neg (by omega)]
  exact ⟨rfl, rfl⟩
 ·have hl : longN (b0 : Int) = 2 := by unfold longN; rw [if_neg (by omega), if_neg (by omega), if_pos (by omega)]
  rw [hl, if_neg (by decide)]
  simp only [atG, Nat.reduceSub, bitsT, List.getD_cons_succ, List.getD_cons_zero, k, Lib.decodeN]
  by_cases b : p + 1 < s.length
  ·rw [d _ _ b]
   by_cases i : b1 < 128 ∨ 191 < b1
   ·rw [if_pos i, uU (by decide), if_neg (by omega), if_neg (by omega), if_neg (by omega), if_neg (by omega)]
    exact ⟨rfl, rfl⟩
   ·rw [if_neg i, if_neg (by omega), if_pos (by omega)]
    rw [atN_zero, fin_ok (m := 128) rfl]
    repeat' split
    all_goals first | (exfalso; omega) | exact ⟨rfl, rfl⟩ | exact ⟨rfl, by simp only; omega⟩
  ·rw [atN_none (by omega), uU (by decide), if_neg (by omega), if_neg (by omega), if_neg (by omega), if_neg (by omega)]
   exact ⟨rfl, rfl⟩
 ·have hl : longN (b0 : Int) = 3 := by unfold longN; rw [if_neg (by omega), if_neg (by omega), if_neg (by omega), if_pos (by omega)]
  rw [hl, if_neg (by decide)]
  simp only [atG, Nat.reduceSub, bitsT, List.getD_cons_succ, List.getD_cons_zero, o, Lib.decodeN]
  by_cases b : p + 1 < s.length ∧ ¬ (b1 < 128 ∨ 191 < b1)
  ·rw [d _ _ b.1, if_neg b.2]
   by_cases c : p + 2 < s.length ∧ ¬ (b2 < 128 ∨ 191 < b2)
   ·rw [e _ _ c.1, if_neg c.2, if_neg (by omega), if_neg (by omega), if_pos (by omega)]
    rw [atN_zero, fin_ok (m := 2048) rfl]
    repeat' split
    all_goals first | (exfalso; omega) | exact ⟨rfl, rfl⟩ | exact ⟨rfl, by simp only; omega⟩
   ·by_cases a : p + 2 < s.length
    ·rw [e _ _ a, if_pos (by omega), uU (by decide), if_neg (by omega), if_neg (by omega), if_neg (by omega), if_neg (by omega)]
     exact ⟨rfl, rfl⟩
    ·rw [atN_none (by omega), uU (by decide), if_neg (by omega), if_neg (by omega), if_neg (by omega), if_neg (by omega)]
     exact ⟨rfl, rfl⟩
  ·by_cases a : p + 1 < s.length
   ·rw [d _ _ a, if_pos (by omega), uU (by decide), if_neg (by omega), if_neg (by omega), if_neg (by omega), if_neg (by omega)]
    exact ⟨rfl, rfl⟩
   ·rw [atN_none (by omega), uU (by decide), if_neg (by omega), if_neg (by omega), if_neg (by omega), if_neg (by omega)]
    exact ⟨rfl, rfl⟩
 ·have hl : longN (b0 : Int) = 4 := by unfold longN; rw [if_neg (by omega), if_neg (by omega), if_neg (by omega), if_neg (by omega)]
  rw [hl, if_neg (by decide)]
  simp only [atG, Nat.reduceSub, bitsT, List.getD_cons_succ, List.getD_cons_zero, n, Lib.decodeN]
  by_cases b : p + 1 < s.length ∧ ¬ (b1 < 128 ∨ 191 < b1)
  ·rw [d _ _ b.1, if_neg b.2]
   by_cases c : p + 2 < s.length ∧ ¬ (b2 < 128 ∨ 191 < b2)
   ·rw [e _ _ c.1, if_neg c.2]
    by_cases a : p + 3 < s.length ∧ ¬ (b3 < 128 ∨ 191 < b3)
    ·rw [g _ _ a.1, if_neg a.2, if_neg (by omega), if_neg (by omega), if_neg (by omega), if_pos (by omega)]
     rw [atN_zero, fin_ok (m := 65536) rfl]
     repeat' split
     all_goals first | (exfalso; omega) | exact ⟨rfl, rfl⟩ | exact ⟨rfl, by simp only; omega⟩
    ·by_cases l : p + 3 < s.length
     ·rw [g _ _ l, if_pos (by omega), uU (by decide), if_neg (by omega), if_neg (by omega), if_neg (by omega), if_neg (by omega)]
      exact ⟨rfl, rfl⟩
     ·rw [atN_none (by omega), uU (by decide), if_neg (by omega), if_neg (by omega), if_neg (by omega), if_neg (by omega)]
      exact ⟨rfl, rfl⟩
   ·by_cases a : p + 2 < s.length
    ·rw [e _ _ a, if_pos (by omega), uU (by decide), if_neg (by omega), if_neg (by omega), if_neg (by omega), if_neg (by omega)]
     exact ⟨rfl, rfl⟩
    ·rw [atN_none (by omega), uU (by decide), if_neg (by omega), if_neg (by omega), if_neg (by omega), if_neg (by omega)]
     exact ⟨rfl, rfl⟩
  ·by_cases a : p + 1 < s.length
   ·rw [d _ _ a, if_pos (by omega), uU (by decide), if_neg (by omega), if_neg (by omega), if_neg (by omega), if_neg (by omega)]
    exact ⟨rfl, rfl⟩
   ·rw [atN_none (by omega), uU (by decide), if_neg (by omega), if_neg (by omega), if_neg (by omega), if_neg (by omega)]
    exact ⟨rfl, rfl⟩
theorem spots_runes (s : List UInt8) : ∀ (n p : Nat), (spotsN s n p).map (fun x => x.2.2.1) = runesN s n p
 | 0, _ => rfl
 | n + 1, p => by
  unfold spotsN runesN
  by_cases h : p < s.length
  ·rw [if_pos h, if_pos h, List.map_cons, spots_runes s n, (at_dec s p h).1]
   simp only
   rw [(at_dec s p h).2]
  ·rw [if_neg h, if_neg h]; rfl
theorem rrunes_eq (s : List UInt8) : rrunes s = runesFrom s 0 := spots_runes s _ _
theorem runesN_len (s : List UInt8) : ∀ (n p : Nat), (runesN s n p).length ≤ n
 | 0, _ => by simp [runesN]
 | n + 1, p => by
  unfold runesN
  split
  ·simp [runesN_len s n]
  ·simp
theorem runes_len (s : List UInt8) : (runesFrom s 0).length ≤ s.length := runesN_len s _ _
theorem runesN_range (s : List UInt8) : ∀ (n p : Nat), ∀ x ∈ runesN s n p, 0 ≤ x ∧ x ≤ 2147483647
 | 0, _ => by simp [runesN]
 | n + 1, p => by
  unfold runesN
  split
  ·intro x hx
   rcases List.mem_cons.1 hx with rfl | hx
   ·have := dec_le s p; omega
   ·exact runesN_range s n _ x hx
  ·simp
theorem loose_range {s : List UInt8} : ∀ x ∈ looseL (runesFrom s 0), -2147483648 ≤ x ∧ x ≤ 2147483647 := by
 intro x hx
 simp only [looseL, List.mem_map, List.mem_filter] at hx
 obtain ⟨y, ⟨hy, _⟩, rfl⟩ := hx
 have := runesN_range s _ _ y hy
 unfold lowerI
 split <;> omega
end Go.FK
end

/- === Wcref === -/
section
/- Walks, written by my program walk.py out of the specification cref.py: each theorem says what one function returns and that it leaves memory as it was. -/
namespace Go.Proofs.YtkclikfejmeblaaGreatDoor
open Go Go.RowKit Go.FK _root_.Go.Proofs.Tryz
set_option maxHeartbeats 4000000
set_option maxRecDepth 100000
theorem el239 : Elem Tryz.prog 239 242 4 32 := ⟨underlying239, zk, rfl⟩
theorem el258 : Elem Tryz.prog 258 3 1 8 := ⟨underlying258, zk, rfl⟩
theorem c_furrowref05_Blank (r : Int) (w : World) :
  Calls Tryz.prog 141 #[(I3 r)] w (Ret fun v w' => v = (.bool (blankB r)) ∧ Below w.heap.size w w') := by
 refine wJ 23 func141 rfl ?_
 have a := Below.refl w.heap.size w
 refine wR (zH (nW (wR (zD (nQ (zW (yA (wR (qX .i32 r 9 ?_ ?_)))))))))
 ·intro h1
  exact zH (nQ (zT (zK (zB (zT (wR (zH (nQ (zR (zL (zG (zZ [(.bool true)] ⟨eb (by simp only [blankB]; simp [*] <;> omega), a⟩))))))))))))
 intro h2
 refine zH (nQ (zF (wR (qX .i32 r 11 ?_ ?_))))
 ·intro z
  exact zH (nQ (zT (zK (zB (zT (wR (zH (nQ (zR (zL (zG (zZ [(.bool true)] ⟨eb (by simp only [blankB]; simp [*] <;> omega), a⟩))))))))))))
 intro h4
 refine zH (nQ (zF (wR (qX .i32 r 12 ?_ ?_))))
 ·intro h5
  exact zH (nQ (zT (zK (zB (zT (wR (zH (nQ (zR (zL (zG (zZ [(.bool true)] ⟨eb (by simp only [blankB]; simp [*] <;> omega), a⟩))))))))))))
 intro h6
 refine zH (nQ (zF (wR (qX .i32 r 32 ?_ ?_))))
 ·intro h7
  exact zH (nQ (zT (zK (zB (zT (wR (zH (nQ (zR (zL (zG (zZ [(.bool true)] ⟨eb (by simp only [blankB]; simp [*] <;> omega), a⟩))))))))))))
 intro y
 refine zH (nQ (zF (wR (qX .i32 r 133 ?_ ?_))))
 ·intro h9
  exact zH (nQ (zT (zK (zB (zT (wR (zH (nQ (zR (zL (zG (zZ [(.bool true)] ⟨eb (by simp only [blankB]; simp [*] <;> omega), a⟩))))))))))))
 intro q
 refine zH (nQ (zF (wR (qX .i32 r 160 ?_ ?_))))
 ·intro u
  exact zH (nQ (zT (zK (zB (zT (wR (zH (nQ (zR (zL (zG (zZ [(.bool true)] ⟨eb (by simp only [blankB]; simp [*] <;> omega), a⟩))))))))))))
 intro k
 refine zH (nQ (zF (wR (qX .i32 r 5760 ?_ ?_))))
 ·intro l
  exact zH (nQ (zT (zK (zB (zT (wR (zH (nQ (zR (zL (zG (zZ [(.bool true)] ⟨eb (by simp only [blankB]; simp [*] <;> omega), a⟩))))))))))))
 intro s
 refine zH (nQ (zF (wR (qX .i32 r 8232 ?_ ?_))))
 ·intro g
  exact zH (nQ (zT (zK (zB (zT (wR (zH (nQ (zR (zL (zG (zZ [(.bool true)] ⟨eb (by simp only [blankB]; simp [*] <;> omega), a⟩))))))))))))
 intro n
 refine zH (nQ (zF (wR (qX .i32 r 8233 ?_ ?_))))
 ·intro i
  exact zH (nQ (zT (zK (zB (zT (wR (zH (nQ (zR (zL (zG (zZ [(.bool true)] ⟨eb (by simp only [blankB]; simp [*] <;> omega), a⟩))))))))))))
 intro j
 refine zH (nQ (zF (wR (qX .i32 r 8239 ?_ ?_))))
 ·intro b
  exact zH (nQ (zT (zK (zB (zT (wR (zH (nQ (zR (zL (zG (zZ [(.bool true)] ⟨eb (by simp only [blankB]; simp [*] <;> omega), a⟩))))))))))))
 intro d
 refine zH (nQ (zF (wR (qX .i32 r 8287 ?_ ?_))))
 ·intro m
  exact zH (nQ (zT (zK (zB (zT (wR (zH (nQ (zR (zL (zG (zZ [(.bool true)] ⟨eb (by simp only [blankB]; simp [*] <;> omega), a⟩))))))))))))
 intro o
 refine zH (nQ (zF (zP (qX .i32 r 12288 ?_ ?_))))
 ·intro h
  exact zH (nQ (zT (wR (zH (nQ (zR (zL (zG (zZ [(.bool true)] ⟨eb (by simp only [blankB]; simp [*] <;> omega), a⟩)))))))))
 intro t
 refine zH (nQ (zF (zK (zJ (zB (wR (zD (zGe .i32 r 8192 ?_ ?_))))))))
 ·intro f
  refine zD (zw (zD (zw (zLe .i32 r 8202 ?_ ?_))))
  ·intro p
   exact xJ (zH (nQ (zR (zZ [(.bool true)] ⟨eb (by simp only [blankB]; simp [*] <;> omega), a⟩))))
  intro c
  exact xJ (zH (nQ (zR (zZ [(.bool false)] ⟨eb (by simp only [blankB]; simp [*] <;> omega), a⟩))))
 intro e
 exact zD (zs (zs (xF (zH (nQ (zR (zZ [(.bool false)] ⟨eb (by simp only [blankB]; simp [*] <;> omega), a⟩)))))))
theorem c_furrowref01_long (b : Int) (w : World) :
  Calls Tryz.prog 179 #[(U8 b)] w (Ret fun v w' => v = (N6 (longN b)) ∧ Below w.heap.size w w') := by
 refine wJ 15 func179 rfl ?_
 have a := Below.refl w.heap.size w
 refine wR (zH (nW (wR (zD (zLt .u8 b 128 ?_ ?_)))))
 ·intro l
  exact nQ (zT (wR (zH (nQ (zR (zG (zZ [(I6 1)] ⟨congrArg (fun x : Nat => Value.int .i64 (x : Int)) (by unfold longN; (repeat' split) <;> omega), a⟩)))))))
 intro j
 refine nQ (zF (zK (zB (yA (wR (zD (zLt .u8 b 192 ?_ ?_)))))))
 ·intro f
  exact zD (zs (zs (xJ (nQ (zT (wR (zH (nQ (zR (zG (zZ [(I6 0)] ⟨congrArg (fun x : Nat => Value.int .i64 (x : Int)) (by unfold longN; (repeat' split) <;> omega), a⟩)))))))))))
 intro e
 refine zD (zw (zD (zw (zGt .u8 b 247 ?_ ?_))))
 ·intro i
  exact xF (nQ (zT (wR (zH (nQ (zR (zG (zZ [(I6 0)] ⟨congrArg (fun x : Nat => Value.int .i64 (x : Int)) (by unfold longN; (repeat' split) <;> omega), a⟩))))))))
 intro d
 refine xF (nQ (zF (zK (zB (yA (wR (zD (zLt .u8 b 224 ?_ ?_))))))))
 ·intro h
  exact nQ (zT (wR (zH (nQ (zR (zG (zZ [(I6 2)] ⟨congrArg (fun x : Nat => Value.int .i64 (x : Int)) (by unfold longN; (repeat' split) <;> omega), a⟩)))))))
 intro k
 refine nQ (zF (zK (zB (yA (wR (zD (zLt .u8 b 240 ?_ ?_)))))))
 ·intro g
  exact nQ (zT (wR (zH (nQ (zR (zG (zZ [(I6 3)] ⟨congrArg (fun x : Nat => Value.int .i64 (x : Int)) (by unfold longN; (repeat' split) <;> omega), a⟩)))))))
 intro c
 exact nQ (zF (zK (zB (wR (zH (nQ (zR (zZ [(I6 4)] ⟨congrArg (fun x : Nat => Value.int .i64 (x : Int)) (by unfold longN; (repeat' split) <;> omega), a⟩))))))))
theorem c_furrowref01_Scalar (r : Int) (w : World) :
  Calls Tryz.prog 180 #[(I3 r)] w (Ret fun v w' => v = (.bool (scalarB r)) ∧ Below w.heap.size w w') := by
 refine wJ 17 func180 rfl ?_
 have a := Below.refl w.heap.size w
 refine wR (zH (nR (zD (zGe .i32 r 0 ?_ ?_))))
 ·intro i
  refine zD (zw (zD (zw (zLe .i32 r 1114111 ?_ ?_))))
  ·intro g
   refine xJ (zD (zw (zD (zw (zLt .i32 r 55296 ?_ ?_)))))
   ·intro d
    exact zw (zD (zs (zs (zw (xJ (xJ (zH (nQ (zR (zZ [(.bool true)] ⟨eb (by unfold scalarB; simp; omega), a⟩))))))))))
   intro c
   refine zw (zD (zw (zD (zw (zGt .i32 r 57343 ?_ ?_)))))
   ·intro f
    exact zw (xF (xJ (zH (nQ (zR (zZ [(.bool true)] ⟨eb (by unfold scalarB; simp; omega), a⟩))))))
   intro b
   exact zw (xF (xJ (zH (nQ (zR (zZ [(.bool false)] ⟨eb (by unfold scalarB; simp; omega), a⟩))))))
  intro e
  exact xJ (zD (zs (zs (zs (zs (zs (zs (xF (zH (nQ (zR (zZ [(.bool false)] ⟨eb (by unfold scalarB; simp; omega), a⟩))))))))))))
 intro h
 exact zD (zs (zs (xF (zD (zs (zs (zs (zs (zs (zs (xF (zH (nQ (zR (zZ [(.bool false)] ⟨eb (by unfold scalarB; simp; omega), a⟩)))))))))))))))
theorem c_furrowref01_Width (r : Int) (w : World) :
  Calls Tryz.prog 172 #[(I3 r)] w (Ret fun v w' => v = (N6 (widthN r)) ∧ Below w.heap.size w w') := by
 refine wJ 12 func172 rfl ?_
 have a := Below.refl w.heap.size w
 refine wR (zH (nW (wR (zD (zc (c_furrowref01_Scalar r _ ) ?_)))))
 rintro _ f ⟨rfl, b⟩
 refine yT (scalarB r) ?_ ?_
 ·intro g
  refine qO true (nQ (zF (zK (zB (yA (wR (zD (zLt .i32 r 128 ?_ ?_))))))))
  ·intro j
   replace a := a.tr b
   exact nQ (zT (wR (zH (nQ (zR (zG (zZ [(I6 1)] ⟨congrArg (fun x : Nat => Value.int .i64 (x : Int)) (by unfold widthN; (repeat' split) <;> first | rfl | omega | (simp_all; done)), a⟩)))))))
  intro e
  refine nQ (zF (zK (zB (yA (wR (zD (zLt .i32 r 2048 ?_ ?_)))))))
  ·intro i
   replace a := a.tr b
   exact nQ (zT (wR (zH (nQ (zR (zG (zZ [(I6 2)] ⟨congrArg (fun x : Nat => Value.int .i64 (x : Int)) (by unfold widthN; (repeat' split) <;> first | rfl | omega | (simp_all; done)), a⟩)))))))
  intro k
  refine nQ (zF (zK (zB (yA (wR (zD (zLt .i32 r 65536 ?_ ?_)))))))
  ·intro h
   replace a := a.tr b
   exact nQ (zT (wR (zH (nQ (zR (zG (zZ [(I6 3)] ⟨congrArg (fun x : Nat => Value.int .i64 (x : Int)) (by unfold widthN; (repeat' split) <;> first | rfl | omega | (simp_all; done)), a⟩)))))))
  intro c
  replace a := a.tr b
  exact nQ (zF (zK (zB (wR (zH (nQ (zR (zZ [(I6 4)] ⟨congrArg (fun x : Nat => Value.int .i64 (x : Int)) (by unfold widthN; (repeat' split) <;> first | rfl | omega | (simp_all; done)), a⟩))))))))
 intro d
 replace a := a.tr b
 exact qO false (nQ (zT (wR (zH (nQ (zR (zG (zZ [(I6 0)] ⟨congrArg (fun x : Nat => Value.int .i64 (x : Int)) (by unfold widthN; (repeat' split) <;> first | rfl | omega | (simp_all; done)), a⟩))))))))
theorem xR (b : Int) (w : World) (h0 : 0 ≤ b) (h1 : b ≤ 255) :
  Calls Tryz.prog 173 #[(I6 b)] w (Ret fun v w' => v = (S (bytesI [b])) ∧ Below w.heap.size w w') := by
 refine wJ 7 func173 rfl ?_
 have e := Below.refl w.heap.size w
 refine wR (zH (nR (zD (wU (k := .i64) b b zk underlying5 zk (wrap_u8 _ zo zo) (zM 1 [(U8 b)] 5 ?_)))))
 intro f g a
 have c := a.ge e.size
 have d : Row g w.heap.size 5 1 encU8 (.slice (some ⟨f, 0, none⟩) 1 1) ([b] : List (Int)) := Row.made ([b] : List (Int)) a c rfl rfl (by first | decide | (simp; done))
 have e := e.tr a.below
 exact L_bytesStr (.slice (some ⟨f, 0, none⟩) 1 1) ([b] : List (Int)) underlying84 underlying5 underlying9 zk d.rd (zH (nQ (zR (zZ [(S (bytesI ([b] : List (Int))))] ⟨congrArg S (by rfl), e⟩))))
theorem c_furrowref01_Sequence (r : Int) (w : World) (r0 : -2147483648 ≤ r) (r1 : r ≤ 2147483647) :
  Calls Tryz.prog 159 #[(I3 r)] w (Ret fun v w' => v = (S (encL [r])) ∧ Below w.heap.size w w') := by
 refine wJ 63 func159 rfl ?_
 have a := Below.refl w.heap.size w
 refine wR (zH (nR (zD (wU (k := .i32) r r zk underlying3 zk (yK _ zo zo) (zH (nW (wR (zD (zc (c_furrowref01_Width r _ ) ?_)))))))))
 rintro _ w1 ⟨rfl, b⟩
 have := uK r
 refine nQ (zW (wR (nEq (widthN r) 1 ?_ ?_)))
 ·intro h4
  refine zH (nQ (zT (wR (zD (zc (xR r _ (by first | omega | (simp at *; omega)) (by first | omega | (simp at *; omega))) ?_)))))
  rintro _ w5 ⟨rfl, m⟩
  have := qM r
  replace a := (a.tr b).tr m
  exact zH (nQ (zR (zL (zG (zZ [(S (bytesI [r]))] ⟨congrArg S (by exact seq1 za), a⟩)))))
 intro h8
 refine zH (nQ (zF (wR (nEq (widthN r) 2 ?_ ?_))))
 ·intro h9
  refine zH (nQ (zT (wR (zD (L_quo (k := .i64) r 64 (r / 64) (by first | omega | (simp at *; omega)) (by first | omega | (simp at *; omega)) zk zk (yK _ zo zo) (yY 192 (r / 64) (192 + (r / 64)) rfl zk zk (yK _ zh zh) (zc (xR (192 + (r / 64)) _ (by first | omega | (simp at *; omega)) (by first | omega | (simp at *; omega))) ?_)))))))
  rintro _ u ⟨rfl, i⟩
  have := qM (192 + (r / 64))
  refine zD (L_rem (k := .i64) r 64 (by first | omega | (simp at *; omega)) (by first | omega | (simp at *; omega)) zk zk (yY 128 (r % 64) (128 + (r % 64)) rfl zk zk (yK _ zh zh) (zc (xR (128 + (r % 64)) _ (by first | omega | (simp at *; omega)) (by first | omega | (simp at *; omega))) ?_)))
  rintro _ n ⟨rfl, c⟩
  have := qM (128 + (r % 64))
  replace a := ((a.tr b).tr i).tr c
  exact wK (bytesI [(192 + (r / 64))]) (bytesI [(128 + (r % 64))]) zo zk zk (zH (nQ (zR (zL (zG (zZ [(S (bytesI [(192 + (r / 64))] ++ bytesI [(128 + (r % 64))]))] ⟨congrArg S (by exact seq2 za), a⟩))))))
 intro ad
 refine zH (nQ (zF (wR (nEq (widthN r) 3 ?_ ?_))))
 ·intro aa
  refine zH (nQ (zT (wR (zD (L_quo (k := .i64) r 4096 (r / 4096) (by first | omega | (simp at *; omega)) (by first | omega | (simp at *; omega)) zk zk (yK _ zo zo) (yY 224 (r / 4096) (224 + (r / 4096)) rfl zk zk (yK _ zh zh) (zc (xR (224 + (r / 4096)) _ (by first | omega | (simp at *; omega)) (by first | omega | (simp at *; omega))) ?_)))))))
  rintro _ p ⟨rfl, d⟩
  have := qM (224 + (r / 4096))
  refine zD (L_quo (k := .i64) r 64 (r / 64) (by first | omega | (simp at *; omega)) (by first | omega | (simp at *; omega)) zk zk (yK _ zo zo) (L_rem (k := .i64) (r / 64) 64 (by first | omega | (simp at *; omega)) (by first | omega | (simp at *; omega)) zk zk (yY 128 ((r / 64) % 64) (128 + ((r / 64) % 64)) rfl zk zk (yK _ zh zh) (zc (xR (128 + ((r / 64) % 64)) _ (by first | omega | (simp at *; omega)) (by first | omega | (simp at *; omega))) ?_))))
  rintro _ ae ⟨rfl, h⟩
  have := qM (128 + ((r / 64) % 64))
  refine wK (bytesI [(224 + (r / 4096))]) (bytesI [(128 + ((r / 64) % 64))]) zo zk zk (zD (L_rem (k := .i64) r 64 (by first | omega | (simp at *; omega)) (by first | omega | (simp at *; omega)) zk zk (yY 128 (r % 64) (128 + (r % 64)) rfl zk zk (yK _ zh zh) (zc (xR (128 + (r % 64)) _ (by first | omega | (simp at *; omega)) (by first | omega | (simp at *; omega))) ?_))))
  rintro _ q ⟨rfl, l⟩
  have := qM (128 + (r % 64))
  replace a := (((a.tr b).tr d).tr h).tr l
  exact wK (bytesI [(224 + (r / 4096))] ++ bytesI [(128 + ((r / 64) % 64))]) (bytesI [(128 + (r % 64))]) (by (simp only [List.length_append, List.length_cons, List.length_nil]; omega)) zk zk (zH (nQ (zR (zL (zG (zZ [(S ((bytesI [(224 + (r / 4096))] ++ bytesI [(128 + ((r / 64) % 64))]) ++ bytesI [(128 + (r % 64))]))] ⟨congrArg S (by exact seq3 za), a⟩))))))
 intro s
 refine zH (nQ (zF (wR (nEq (widthN r) 4 ?_ ?_))))
 ·intro t
  refine zH (nQ (zT (wR (zD (L_quo (k := .i64) r 262144 (r / 262144) (by first | omega | (simp at *; omega)) (by first | omega | (simp at *; omega)) zk zk (yK _ zo zo) (yY 240 (r / 262144) (240 + (r / 262144)) rfl zk zk (yK _ zh zh) (zc (xR (240 + (r / 262144)) _ (by first | omega | (simp at *; omega)) (by first | omega | (simp at *; omega))) ?_)))))))
  rintro _ ab ⟨rfl, e⟩
  have := qM (240 + (r / 262144))
  refine zD (L_quo (k := .i64) r 4096 (r / 4096) (by first | omega | (simp at *; omega)) (by first | omega | (simp at *; omega)) zk zk (yK _ zo zo) (L_rem (k := .i64) (r / 4096) 64 (by first | omega | (simp at *; omega)) (by first | omega | (simp at *; omega)) zk zk (yY 128 ((r / 4096) % 64) (128 + ((r / 4096) % 64)) rfl zk zk (yK _ zh zh) (zc (xR (128 + ((r / 4096) % 64)) _ (by first | omega | (simp at *; omega)) (by first | omega | (simp at *; omega))) ?_))))
  rintro _ o ⟨rfl, j⟩
  have := qM (128 + ((r / 4096) % 64))
  refine wK (bytesI [(240 + (r / 262144))]) (bytesI [(128 + ((r / 4096) % 64))]) zo zk zk (zD (L_quo (k := .i64) r 64 (r / 64) (by first | omega | (simp at *; omega)) (by first | omega | (simp at *; omega)) zk zk (yK _ zo zo) (L_rem (k := .i64) (r / 64) 64 (by first | omega | (simp at *; omega)) (by first | omega | (simp at *; omega)) zk zk (yY 128 ((r / 64) % 64) (128 + ((r / 64) % 64)) rfl zk zk (yK _ zh zh) (zc (xR (128 + ((r / 64) % 64)) _ (by first | omega | (simp at *; omega)) (by first | omega | (simp at *; omega))) ?_)))))
  rintro _ ac ⟨rfl, f⟩
  have := qM (128 + ((r / 64) % 64))
  refine wK (bytesI [(240 + (r / 262144))] ++ bytesI [(128 + ((r / 4096) % 64))]) (bytesI [(128 + ((r / 64) % 64))]) (by (simp only [List.length_append, List.length_cons, List.length_nil]; omega)) zk zk (zD (L_rem (k := .i64) r 64 (by first | omega | (simp at *; omega)) (by first | omega | (simp at *; omega)) zk zk (yY 128 (r % 64) (128 + (r % 64)) rfl zk zk (yK _ zh zh) (zc (xR (128 + (r % 64)) _ (by first | omega | (simp at *; omega)) (by first | omega | (simp at *; omega))) ?_))))
  rintro _ z ⟨rfl, g⟩
  have := qM (128 + (r % 64))
  replace a := ((((a.tr b).tr e).tr j).tr f).tr g
  exact wK ((bytesI [(240 + (r / 262144))] ++ bytesI [(128 + ((r / 4096) % 64))]) ++ bytesI [(128 + ((r / 64) % 64))]) (bytesI [(128 + (r % 64))]) (by (simp only [List.length_append, List.length_cons, List.length_nil]; omega)) zk zk (zH (nQ (zR (zL (zG (zZ [(S (((bytesI [(240 + (r / 262144))] ++ bytesI [(128 + ((r / 4096) % 64))]) ++ bytesI [(128 + ((r / 64) % 64))]) ++ bytesI [(128 + (r % 64))]))] ⟨congrArg S (by exact seq4 za), a⟩))))))
 intro y
 replace a := a.tr b
 exact zH (nQ (zF (zK (zJ (zB (wR (zH (nQ (zR (zZ [(S [239, 191, 189])] ⟨congrArg S (by exact seq0 zo), a⟩))))))))))
theorem c_furrowref01_Encode (c : Value) (l : List (Int)) (w : World) (a : Rd w encI32 c l) (hl : l.length ≤ 1073741824) (hr : ∀ x ∈ l, -2147483648 ≤ x ∧ x ≤ 2147483647) :
  Calls Tryz.prog 142 #[c] w (Ret fun v w' => v = (S (encL l)) ∧ Below w.heap.size w w') := by
 refine wJ 19 func142 rfl ?_
 have e := Below.refl w.heap.size w
 refine wR (zH (nR (zH (nW (wR (zH (nQ (zW (xA (fun m s0 w0 => ∃ (i : Nat) (b : List UInt8), (m = l.length - i) ∧ (s0.ds = []) ∧ ([0, 2, 3, 4].map s0.f = [c, (S []), (S b), (N6 i)]) ∧ (Rd w0 encI32 c l) ∧ (Below w.heap.size w w0) ∧ (i ≤ l.length) ∧ (b = encL (l.take i))) _ ⟨0, ([] : List UInt8), rfl, zk, zk, a, e, by omega, rfl⟩ ?_)))))))))
 rintro m1 u s ⟨i, b, hm, h, k, a, e, y, n⟩
 refine yX k ?_
 have t : b.length ≤ 4 * l.length := by rw [n]; exact encTake_len l i
 refine yA (wR (zD (zD (vY underlying47 (a).len (nLt i ((l).length) ?_ ?_)))))
 ·intro z
  refine nQ (zT (zK (zB (yA (zW (zP (zD (zD (zD ?_)))))))))
  have o := zX l i zo; obtain ⟨j, g⟩ := o
  have q := hr _ (List.mem_of_getElem? g)
  refine zE1 a wP i g rfl fun _ => (zc (c_furrowref01_Sequence j _ zo zo) ?_)
  rintro _ p ⟨rfl, d⟩
  have := encL1_len j
  refine wK b (encL [j]) zo zk zk (zH (zQ (zJ (zB (zP (zD (xN i 1 (zH (zQ ?_)))))))))
  have e := e.tr d
  have a := a.below d
  refine zB ⟨_, zo, (i + 1), (b ++ encL [j]), rfl, h, zk, a, e, zo, ?_⟩
  rw [n]; exact encL_take za
 intro r
 exact nQ (zF (yU (zS (zS (yF (zB (wR (zD (zH (nQ (zR (zZ [(S b)] (hd := h) ⟨congrArg S (by rw [n, List.take_of_length_le zo]), e⟩))))))))))))
theorem c_furrowref01_At (s : List UInt8) (p : Nat) (w : World) (hs : s.length ≤ 1073741824) (hp : p < s.length) :
  Calls Tryz.prog 171 #[(S s), (N6 p)] w (Ret fun v w' => v = (Value.agg #[(N6 p), (N6 ((atF s p).1)), (I3 ((atF s p).2.1)), (I6 ((atF s p).2.2))]) ∧ Below w.heap.size w w') := by
 refine wJ 90 func171 rfl ?_
 have g := Below.refl w.heap.size w
 have bw := bitsT_len
 have bv := leastT_len
 refine wR (zN [(I6 0), (I6 0), (I3 0), (I6 0)] 242 ?_)
 intro z w2 a5
 have j := a5.ge g.size
 have a := a5.here
 refine nR (zD (zr (Value.agg #[(N6 p), (I6 1), (I3 65533), (I6 0)]) (zN [(I6 0), (I6 0), (I3 0), (I6 0)] 242 ?_)))
 intro b4 w5 u
 have c := NE_new (yL a) u
 have g := g.tr a5.below
 have h := u.ge g.size
 have b := u.here
 refine qQ [(N6 p), (I6 1), (I3 65533), (I6 0)] b ?_
 intro w7 ad
 have b := ad.here
 refine nR (zD (zD ?_))
 have hz := zX s p zo; obtain ⟨n, e⟩ := hz
 have := n.toNat_lt
 refine xL (k := .i64) s p n underlying9 e zk zk (zc (c_furrowref01_long ((n.toNat : Nat) : Int) _ ) ?_)
 rintro _ cd ⟨rfl, q⟩
 have := longN_le ((n.toNat : Nat) : Int)
 refine zH (nW (wR (zD (nEq (longN ((n.toNat : Nat) : Int)) 0 ?_ ?_))))
 ·intro bq
  have b := zC b q
  refine nQ (zT (wR (zr (pt b4 3) (z1 3 (I6 10) [(N6 p), (I6 1), (I3 65533), (I6 10)] b ?_))))
  intro br ab
  have b := ab.here
  have a := zI (zC (zI (zC a u.below) ad c) q) ab c
  refine nR (vT b (qQ [(N6 p), (I6 1), (I3 65533), (I6 10)] a ?_))
  intro bo ay
  have a := ay.here
  refine nQ (zR (zG (yM [.cell 4 242] [(Value.agg #[(N6 p), (I6 1), (I3 65533), (I6 10)])] rfl rfl ⟨⟨⟨z, 0, none⟩, zk, yH [(N6 p), (I6 1), (I3 65533), (I6 10)] zk zk (yE a)⟩, trivial⟩ ?_)))
  have g := ((((g.tr u.below).trans (ad.below h)).tr q).trans (ab.below h)).trans (ay.below j)
  exact ⟨(show (Value.agg #[(N6 p), (I6 1), (I3 65533), (I6 10)]) = _ by (rw [at_lead e za]; try rfl; done)), g⟩
 intro bi
 refine nQ (zF (zK (zB (wR (zM 5 [(I6 0), (I6 127), (I6 31), (I6 15), (I6 7)] 3 ?_)))))
 intro a4 bg t
 have g := ((g.tr u.below).trans (ad.below h)).tr q
 have a2 := t.ge g.size
 have l : Row bg w.heap.size 3 1 encNat (.slice (some ⟨a4, 0, none⟩) 5 5) bitsT := Row.made bitsT t a2 rfl rfl (by first | decide | (simp; done))
 refine zH (nW (xX zk zk (zV (zV (Lq_sindex (k := .i64) s p n underlying9 e zk zk (Lq_conv (k := .u8) ((n.toNat : Nat) : Int) ((n.toNat : Nat) : Int) zk underlying3 zk (yK _ zo zo) (zV (zV ?_))))))))
 have hz := zX bitsT (longN ((n.toNat : Nat) : Int)) zo; obtain ⟨a3, ax⟩ := hz
 have hz := (l.rd).at (k := 1) zj ax
 obtain ⟨ba, ah, a8, a6⟩ := hz
 have bb := bitsT_le ax
 refine yN (k := .i64) (.slice (some ⟨a4, 0, none⟩) 5 5) (longN ((n.toNat : Nat) : Int)) _ ba ah el258 a8 zo zk zk (yD ba (ah + (longN ((n.toNat : Nat) : Int)) * 1) (N6 a3) zk zf (a6 0 _ rfl) (Lq_andN n.toNat a3 zo zo zk zk (qZ (yQ ?_))))
 intro cn y
 refine zB (yA (wR (zH (nQ (zW ?_)))))
 have g := (g.tr t.below).tr y
 have a := zC (zC (zC (zI (zC a u.below) ad c) q) t.below) y
 have b := zC (zC (zC b q) t.below) y
 have l := l.below y
 refine xA (fun m s0 w0 => ∃ (i : Nat) (x : Nat), (m = 5 - i) ∧ (s0.ds = []) ∧ ([0, 1, 4, 5, 6, 8, 9].map s0.f = [(S s), (N6 p), (pt z 0), (pt b4 0), (N6 (longN ((n.toNat : Nat) : Int))), (N6 x), (N6 i)]) ∧ (Row w0 w.heap.size 3 1 encNat (.slice (some ⟨a4, 0, none⟩) 5 5) bitsT) ∧ (w0.heap[z]? = some (.cells [(I6 0), (I6 0), (I3 0), (I6 0)].toArray 242 (0, 0))) ∧ (w0.heap[b4]? = some (.cells [(N6 p), (I6 1), (I3 65533), (I6 0)].toArray 242 (0, 0))) ∧ (Below w.heap.size w w0) ∧ (1 ≤ i) ∧ (i ≤ 4) ∧ (i = 1 ∧ x ≤ 127 ∨ i = 2 ∧ x ≤ 8191 ∨ i = 3 ∧ x ≤ 524287 ∨ i = 4 ∧ x ≤ 33554431) ∧ (atH s p i x = atF s p)) _ ⟨1, (n.toNat &&& a3), rfl, zk, zk, l, a, b, g, by omega, by omega, Or.inl ⟨rfl, and_bits za⟩, (atH_eq e).trans (at_start e za za za)⟩ ?_
 rintro ck cf ca ⟨i, x, hm, o, bd, l, a, b, g, i1, i2, i4, i3⟩
 refine yX bd (yA (wR (zD (zD (nLt i (longN ((n.toNat : Nat) : Int)) ?_ ?_)))))
 ·intro b3
  refine nQ (zT (zK (zB (yA (zW (yA (wR (zD (zD (xN p i (zD (zsl 9 s (nGe (p + i) ((s).length) ?_ ?_)))))))))))))
  ·intro b9
   refine nQ (zT (wR (zr (pt b4 3) (z1 3 (I6 11) [(N6 p), (I6 1), (I3 65533), (I6 11)] b ?_))))
   intro ch ac
   have b := ac.here
   have a := zI a ac c
   refine nR (vT b (qQ [(N6 p), (I6 1), (I3 65533), (I6 11)] a ?_))
   intro cm aq
   have a := aq.here
   refine nQ (zR (zG (zL (zG (zG (zL (zG (yM [.cell 4 242] [(Value.agg #[(N6 p), (I6 1), (I3 65533), (I6 11)])] rfl o ⟨⟨⟨z, 0, none⟩, zk, yH [(N6 p), (I6 1), (I3 65533), (I6 11)] zk zk (yE a)⟩, trivial⟩ ?_))))))))
   have g := (g.trans (ac.below h)).trans (aq.below j)
   exact ⟨(show (Value.agg #[(N6 p), (I6 1), (I3 65533), (I6 11)]) = _ by (rw [← i3, atH_eq e, at_cut za za]; try rfl; done)), g⟩
  intro bs
  refine nQ (zF (zK (zB (wR (zD (zD (zD (xN p i ?_))))))))
  have hz := zX s (p + i) zo; obtain ⟨r, a9⟩ := hz
  have := r.toNat_lt
  refine xL (k := .i64) s (p + i) r underlying9 a9 zk zk (wU (k := .u8) ((r.toNat : Nat) : Int) ((r.toNat : Nat) : Int) zk underlying3 zk (yK _ zo zo) (zH (nW (wR (zD (nLt r.toNat 128 ?_ ?_))))))
  ·intro cc
   refine zD (zs (zs (xJ (nQ (zT (wR (zr (pt b4 3) (z1 3 (I6 12) [(N6 p), (I6 1), (I3 65533), (I6 12)] b ?_))))))))
   intro bk ai
   have b := ai.here
   have a := zI a ai c
   refine nR (vT b (qQ [(N6 p), (I6 1), (I3 65533), (I6 12)] a ?_))
   intro bl au
   have a := au.here
   refine nQ (zR (zG (zL (zG (zG (zL (zG (yM [.cell 4 242] [(Value.agg #[(N6 p), (I6 1), (I3 65533), (I6 12)])] rfl o ⟨⟨⟨z, 0, none⟩, zk, yH [(N6 p), (I6 1), (I3 65533), (I6 12)] zk zk (yE a)⟩, trivial⟩ ?_))))))))
   have g := (g.trans (ai.below h)).trans (au.below j)
   exact ⟨(show (Value.agg #[(N6 p), (I6 1), (I3 65533), (I6 12)]) = _ by (rw [← i3, atH_eq e, at_tail za za zo]; try rfl; done)), g⟩
  intro bu
  refine zD (zw (zD (zw (nGt r.toNat 191 ?_ ?_))))
  ·intro co
   refine xF (nQ (zT (wR (zr (pt b4 3) (z1 3 (I6 12) [(N6 p), (I6 1), (I3 65533), (I6 12)] b ?_)))))
   intro b7 aj
   have b := aj.here
   have a := zI a aj c
   refine nR (vT b (qQ [(N6 p), (I6 1), (I3 65533), (I6 12)] a ?_))
   intro b6 aw
   have a := aw.here
   refine nQ (zR (zG (zL (zG (zG (zL (zG (yM [.cell 4 242] [(Value.agg #[(N6 p), (I6 1), (I3 65533), (I6 12)])] rfl o ⟨⟨⟨z, 0, none⟩, zk, yH [(N6 p), (I6 1), (I3 65533), (I6 12)] zk zk (yE a)⟩, trivial⟩ ?_))))))))
   have g := (g.trans (aj.below h)).trans (aw.below j)
   exact ⟨(show (Value.agg #[(N6 p), (I6 1), (I3 65533), (I6 12)]) = _ by (rw [← i3, atH_eq e, at_tail za za zo]; try rfl; done)), g⟩
  intro ci
  refine xF (nQ (zF (zK (zB (zP (zD (L_mulN x 64 zo zk zk (zD (xN (x * 64) r.toNat (zsb ((x * 64) + r.toNat) 128 (zH (zQ (zJ (zB (zP (zD (xN i 1 (zH (zQ (zB ⟨_, zo, (i + 1), (((x * 64) + r.toNat) - 128), rfl, o, zk, l, a, b, g, zo, zo, zo, ?_⟩))))))))))))))))))))
  rw [← i3, atH_eq e, atH_eq e]; exact (at_step za za zo zo).symm
 intro bn
 refine nQ (zF (yU (zS (zS (yF (zB (wR (zM 5 [(I6 0), (I6 0), (I6 128), (I6 2048), (I6 65536)] 3 ?_))))))))
 intro bf bc d
 have a0 := d.ge g.size
 have a1 : Row bc w.heap.size 3 1 encNat (.slice (some ⟨bf, 0, none⟩) 5 5) leastT := Row.made leastT d a0 rfl rfl (by first | decide | (simp; done))
 refine zH (nW (wR (zD (zD (zD ?_)))))
 have hz := zX leastT (longN ((n.toNat : Nat) : Int)) zo; obtain ⟨be, a7⟩ := hz
 refine zE1 a1.rd el258 (longN ((n.toNat : Nat) : Int)) a7 rfl fun _ => (nLt x be ?_ ?_)
 ·intro bz
  have b := zC b d.below
  refine nQ (zT (wR (zr (pt b4 3) (z1 3 (I6 13) [(N6 p), (I6 1), (I3 65533), (I6 13)] b ?_))))
  intro bt ae
  have b := ae.here
  have a := zI (zC a d.below) ae c
  refine nR (vT b (qQ [(N6 p), (I6 1), (I3 65533), (I6 13)] a ?_))
  intro cp av
  have a := av.here
  refine nQ (zR (zG (yM [.cell 4 242] [(Value.agg #[(N6 p), (I6 1), (I3 65533), (I6 13)])] rfl o ⟨⟨⟨z, 0, none⟩, zk, yH [(N6 p), (I6 1), (I3 65533), (I6 13)] zk zk (yE a)⟩, trivial⟩ ?_)))
  have g := ((g.tr d.below).trans (ae.below h)).trans (av.below j)
  exact ⟨(show (Value.agg #[(N6 p), (I6 1), (I3 65533), (I6 13)]) = _ by (rw [← i3, atH_eq e, at_over za za za]; try rfl; done)), g⟩
 intro bh
 refine nQ (zF (zK (zB (yA (wR (zD (nGe x 55296 ?_ ?_)))))))
 ·intro b5
  refine zD (zw (zD (zw (nLe x 57343 ?_ ?_))))
  ·intro bm
   have b := zC b d.below
   refine xJ (nQ (zT (wR (zr (pt b4 3) (z1 3 (I6 14) [(N6 p), (I6 1), (I3 65533), (I6 14)] b ?_)))))
   intro cb af
   have b := af.here
   have a := zI (zC a d.below) af c
   refine nR (vT b (qQ [(N6 p), (I6 1), (I3 65533), (I6 14)] a ?_))
   intro cr an
   have a := an.here
   refine nQ (zR (zG (yM [.cell 4 242] [(Value.agg #[(N6 p), (I6 1), (I3 65533), (I6 14)])] rfl o ⟨⟨⟨z, 0, none⟩, zk, yH [(N6 p), (I6 1), (I3 65533), (I6 14)] zk zk (yE a)⟩, trivial⟩ ?_)))
   have g := ((g.tr d.below).trans (af.below h)).trans (an.below j)
   exact ⟨(show (Value.agg #[(N6 p), (I6 1), (I3 65533), (I6 14)]) = _ by (rw [← i3, atH_eq e, at_half za za za zo zo]; try rfl; done)), g⟩
  intro cg
  refine xJ (nQ (zF (zK (zB (yA (wR (zD (nGt x 1114111 ?_ ?_))))))))
  ·intro b2
   have b := zC b d.below
   refine nQ (zT (wR (zr (pt b4 3) (z1 3 (I6 15) [(N6 p), (I6 1), (I3 65533), (I6 15)] b ?_))))
   intro bx aa
   have b := aa.here
   have a := zI (zC a d.below) aa c
   refine nR (vT b (qQ [(N6 p), (I6 1), (I3 65533), (I6 15)] a ?_))
   intro cl ao
   have a := ao.here
   refine nQ (zR (zG (yM [.cell 4 242] [(Value.agg #[(N6 p), (I6 1), (I3 65533), (I6 15)])] rfl o ⟨⟨⟨z, 0, none⟩, zk, yH [(N6 p), (I6 1), (I3 65533), (I6 15)] zk zk (yE a)⟩, trivial⟩ ?_)))
   have g := ((g.tr d.below).trans (aa.below h)).trans (ao.below j)
   exact ⟨(show (Value.agg #[(N6 p), (I6 1), (I3 65533), (I6 15)]) = _ by (rw [← i3, atH_eq e, at_past za za za zo]; try rfl; done)), g⟩
  intro b0
  have a := zC a d.below
  refine nQ (zF (zK (zB (wR (zD (zD (zD (wU (k := .i64) ((x : Nat) : Int) ((x : Nat) : Int) zk underlying21 zk (xE _ zo zo) (zr (Value.agg #[(N6 p), (N6 (longN ((n.toNat : Nat) : Int))), (I3 ((x : Nat) : Int)), (I6 0)]) (qQ [(N6 p), (N6 (longN ((n.toNat : Nat) : Int))), (I3 ((x : Nat) : Int)), (I6 0)] a ?_))))))))))
  intro bj ap
  have a := ap.here
  refine nQ (zR (yM [.cell 4 242] [(Value.agg #[(N6 p), (N6 (longN ((n.toNat : Nat) : Int))), (I3 ((x : Nat) : Int)), (I6 0)])] rfl o ⟨⟨⟨z, 0, none⟩, zk, yH [(N6 p), (N6 (longN ((n.toNat : Nat) : Int))), (I3 ((x : Nat) : Int)), (I6 0)] zk zk (yE a)⟩, trivial⟩ ?_))
  have g := (g.tr d.below).trans (ap.below j)
  exact ⟨(show (Value.agg #[(N6 p), (N6 (longN ((n.toNat : Nat) : Int))), (I3 ((x : Nat) : Int)), (I6 0)]) = _ by (rw [← i3, atH_eq e, at_good za za za zo zo]; try rfl; done)), g⟩
 intro cs
 refine zD (zs (zs (xF (nQ (zF (zK (zB (yA (wR (zD (nGt x 1114111 ?_ ?_)))))))))))
 ·intro b8
  have b := zC b d.below
  refine nQ (zT (wR (zr (pt b4 3) (z1 3 (I6 15) [(N6 p), (I6 1), (I3 65533), (I6 15)] b ?_))))
  intro ce ag
  have b := ag.here
  have a := zI (zC a d.below) ag c
  refine nR (vT b (qQ [(N6 p), (I6 1), (I3 65533), (I6 15)] a ?_))
  intro cq az
  have a := az.here
  refine nQ (zR (zG (yM [.cell 4 242] [(Value.agg #[(N6 p), (I6 1), (I3 65533), (I6 15)])] rfl o ⟨⟨⟨z, 0, none⟩, zk, yH [(N6 p), (I6 1), (I3 65533), (I6 15)] zk zk (yE a)⟩, trivial⟩ ?_)))
  have g := ((g.tr d.below).trans (ag.below h)).trans (az.below j)
  exact ⟨(show (Value.agg #[(N6 p), (I6 1), (I3 65533), (I6 15)]) = _ by (exfalso; omega)), g⟩
 intro cj
 have a := zC a d.below
 refine nQ (zF (zK (zB (wR (zD (zD (zD (wU (k := .i64) ((x : Nat) : Int) ((x : Nat) : Int) zk underlying21 zk (xE _ zo zo) (zr (Value.agg #[(N6 p), (N6 (longN ((n.toNat : Nat) : Int))), (I3 ((x : Nat) : Int)), (I6 0)]) (qQ [(N6 p), (N6 (longN ((n.toNat : Nat) : Int))), (I3 ((x : Nat) : Int)), (I6 0)] a ?_))))))))))
 intro bp ar
 have a := ar.here
 refine nQ (zR (yM [.cell 4 242] [(Value.agg #[(N6 p), (N6 (longN ((n.toNat : Nat) : Int))), (I3 ((x : Nat) : Int)), (I6 0)])] rfl o ⟨⟨⟨z, 0, none⟩, zk, yH [(N6 p), (N6 (longN ((n.toNat : Nat) : Int))), (I3 ((x : Nat) : Int)), (I6 0)] zk zk (yE a)⟩, trivial⟩ ?_))
 have g := (g.tr d.below).trans (ar.below j)
 exact ⟨(show (Value.agg #[(N6 p), (N6 (longN ((n.toNat : Nat) : Int))), (I3 ((x : Nat) : Int)), (I6 0)]) = _ by (rw [← i3, atH_eq e, at_good za za za zo zo]; try rfl; done)), g⟩
theorem c_furrowref01_Spots (s : List UInt8) (w : World) (hs : s.length ≤ 1073741824) :
  Calls Tryz.prog 158 #[(S s)] w (Ret fun v w' => ∃ (q0 : Value), v = q0 ∧ Row w' w.heap.size 242 4 encSpot q0 (spotsFrom s 0) ∧ Below w.heap.size w w') := by
 refine wJ 22 func158 rfl ?_
 have g := Below.refl w.heap.size w
 refine wR (zH (nR (zH (nW (wR (zH (nQ (zW (xA (fun m s0 w0 => ∃ (p : Nat) (h : List (Nat × Nat × Int × Int)) (e : Value), (m = s.length - p) ∧ (s0.ds = []) ∧ ([0, 2, 3, 4].map s0.f = [(S s), (.slice none 0 0), e, (N6 p)]) ∧ (Row w0 w.heap.size 242 4 encSpot e h) ∧ (Below w.heap.size w w0) ∧ (p ≤ s.length + 4) ∧ (h.length ≤ p) ∧ (h ++ spotsFrom s p = spotsFrom s 0)) _ ⟨0, [], (.slice none 0 0), rfl, zk, zk, Row.nil _ _ _ _ _, g, by omega, Nat.le_refl _, by simp⟩ ?_)))))))))
 rintro m1 s2 w3 ⟨p, h, e, hm, r, t, c, g, i1, i2, y⟩
 refine yX t (yA (wR (zD (zD (zsl 9 s (nLt p ((s).length) ?_ ?_))))))
 ·intro h4
  refine nQ (zT (zK (zB (zW (wR (zD (zD (zc (c_furrowref01_At s p _ zo zo) ?_))))))))
  rintro _ w5 ⟨rfl, o⟩
  have := atF_w s p
  refine zN [(I6 0), (I6 0), (I3 0), (I6 0)] 242 ?_
  intro b8 w9 d
  have g := g.tr o
  have n := d.ge g.size
  have c := c.below o
  have a := c.new_ne d
  have b := d.here
  refine qQ [(N6 p), (N6 ((atF s p).1)), (I3 ((atF s p).2.1)), (I6 ((atF s p).2.2))] b ?_
  intro ab i
  have b := i.here
  have g := (g.tr d.below).trans (i.below n)
  have c := (c.below d.below).wrote i a
  refine nR (zD (vT b (wH el239 w.heap.size e h (p, (atF s p).1, (atF s p).2.1, (atF s p).2.2) g.size c zo zk rfl rfl zk rfl zk zk ?_)))
  intro u z q k l
  have j := wZ l a (yL b)
  have g := g.tg g.size k c
  have b := zY b k a
  have a := j
  have c := q
  refine zH (nQ (zP (zD (wB 1 b rfl (xN p ((atF s p).1) (zH (zQ (zJ (zB ⟨_, zo, (p + (atF s p).1), (h ++ [(p, (atF s p).1, (atF s p).2.1, (atF s p).2.2)]), u, rfl, r, zk, c, g, zo, ?_, ?_⟩)))))))))
  ·(try simp only [List.length_append, List.length_cons, List.length_nil]); omega
  rw [← y, spotsFrom_step (p := p) za]; simp
 intro aa
 exact nQ (zF (yU (zS (zS (yF (zB (wR (zD (zH (nQ (zR (zZ [e] (hd := r) ⟨e, rfl, c.cast (by rw [← y, spotsFrom_end zo]; simp), g⟩))))))))))))
theorem c_furrowref01_Runes (s : List UInt8) (w : World) (hs : s.length ≤ 1073741824) :
  Calls Tryz.prog 140 #[(S s)] w (Ret fun v w' => ∃ (q0 : Value), v = q0 ∧ Row w' w.heap.size 21 1 encI32 q0 (runesFrom s 0) ∧ Below w.heap.size w w') := by
 refine wJ 23 func140 rfl ?_
 have e := Below.refl w.heap.size w
 refine wR (zH (nR (zD (zc (c_furrowref01_Spots s _ zo) ?_))))
 rintro t w2 ⟨_, rfl, a, p⟩
 have a := a.base e.size
 refine zH (nR (zH (nW (wR (zH (nQ (zW ?_)))))))
 have e := e.tr p
 refine xA (fun m s0 w0 => ∃ (i : Nat) (d : List Int) (b : Value), (m = (spotsFrom s 0).length - i) ∧ (s0.ds = []) ∧ ([2, 3, 4, 5].map s0.f = [(.slice none 0 0), t, b, (N6 i)]) ∧ (Row w0 w.heap.size 242 4 encSpot t (spotsFrom s 0)) ∧ (Row w0 w.heap.size 21 1 encI32 b d) ∧ (Below w.heap.size w w0) ∧ (i ≤ (spotsFrom s 0).length) ∧ (d.length = i) ∧ (d = ((spotsFrom s 0).take i).map (fun x => x.2.2.1))) _ ⟨0, [], (.slice none 0 0), rfl, zk, zk, a, Row.nil _ _ _ _ _, e, by omega, rfl, rfl⟩ ?_
 rintro m5 s6 w7 ⟨i, d, b, hm, l, k, a, c, e, i1, i2, r⟩
 refine yX k ?_
 have k := spots_len s
 refine yA (wR (zD (zD (vY underlying239 (a.rd).len (nLt i ((spotsFrom s 0).length) ?_ ?_)))))
 ·intro h8
  refine nQ (zT (zK (zB (yA (zW (zP (zD (zD (zD ?_)))))))))
  have z := zX (spotsFrom s 0) i zo; obtain ⟨q, j⟩ := z
  refine zE a.rd el239 i j 2 rfl fun _ _ => (wH wP w.heap.size b d q.2.2.1 e.size c zo zk rfl rfl zk rfl zk zk ?_)
  intro n y h g o
  have e := e.tg e.size g c
  have a := a.grown g (a.apart c zk)
  have c := h
  refine zH (zQ (zJ (zB (zP (zD (xN i 1 (zH (zQ (zB ⟨_, zo, (i + 1), (d ++ [q.2.2.1]), n, rfl, l, zk, a, c, e, zo, ?_, ?_⟩)))))))))
  ·(try simp only [List.length_append, List.length_cons, List.length_nil]); omega
  rw [r, take_succ_some za, List.map_append]; rfl
 intro u
 exact nQ (zF (yU (zS (zS (yF (zB (wR (zD (zH (nQ (zR (zZ [b] (hd := l) ⟨b, rfl, c.cast (by rw [← rrunes_eq, r, List.take_of_length_le zo]; rfl), e⟩))))))))))))
theorem uN (s : List UInt8) (w : World) (hs : s.length ≤ 1073741824) :
  Calls Tryz.prog 123 #[(S s)] w (Ret fun v w' => v = (S (looseS s)) ∧ Below w.heap.size w w') := by
 refine wJ 43 func123 rfl ?_
 have h := Below.refl w.heap.size w
 refine wR (zH (nR (zD (zc (c_furrowref01_Runes s _ zo) ?_))))
 rintro q1 w2 ⟨_, rfl, b, aj⟩
 replace b := b.base h.size
 refine zH (nR (zH (nW (wR (zH (nQ (zW ?_)))))))
 replace h := h.tr aj
 refine xA (fun m s0 w0 => ∃ (i : Nat) (j : List Int) (l : Value), (m = (runesFrom s 0).length - i) ∧ (s0.ds = []) ∧ ([2, 3, 4, 5].map s0.f = [(S []), q1, l, (N6 i)]) ∧ (Row w0 w.heap.size 21 1 encI32 q1 (runesFrom s 0)) ∧ (Row w0 w.heap.size 21 1 encI32 l j) ∧ (Value.ownBlock q1 = none ∨ Value.ownBlock q1 ≠ Value.ownBlock l) ∧ (Below w.heap.size w w0) ∧ (i ≤ (runesFrom s 0).length) ∧ (j.length ≤ i) ∧ (j ++ looseL ((runesFrom s 0).drop i) = looseL (runesFrom s 0))) _ ⟨0, [], (.slice none 0 0), rfl, zk, zk, b, Row.nil _ _ _ _ _, qI _, h, by omega, Nat.le_refl _, rfl⟩ ?_
 rintro m5 s6 w7 ⟨i, j, l, hm, n, ah, b, d, a, h, i1, i2, p⟩
 refine yX ah ?_
 have g := yW a
 have an := runes_len s
 refine yA (wR (zD (zD (vY underlying47 (b.rd).len (nLt i ((runesFrom s 0).length) ?_ ?_)))))
 ·intro h8
  refine nQ (zT (zK (zB (yA (zW (wR (zD (zD ?_))))))))
  have hz := zX (runesFrom s 0) i zo; obtain ⟨o, aa⟩ := hz
  refine zE1 b.rd wP i aa rfl fun _ => (zH (nW (wR (zD (zc (c_furrowref05_Blank o _ ) ?_)))))
  rintro _ ap ⟨rfl, e⟩
  refine yT (blankB o) ?_ ?_
  ·intro ay
   refine zD (zs (zs (xJ (zD (zs (zs (xJ (nQ (zT (yU (zS (yF (zB (zP (zD (xN i 1 (zH (zQ ?_))))))))))))))))))
   replace h := h.tr e
   replace d := d.below e
   replace b := b.below e
   refine zB ⟨_, zo, (i + 1), j, l, rfl, n, zk, b, d, a, h, zo, ?_, ?_⟩
   ·(try simp only [List.length_append, List.length_cons, List.length_nil]); omega
   rw [← p, xW (k := i) za, wT]; simp [dropW, *]; try (unfold lowerI; split <;> omega)
  intro ao
  refine zD (zw (zD (zw (qX .i32 o 95 ?_ ?_))))
  ·intro aq
   refine xF (zD (zs (zs (xJ (nQ (zT (yU (zS (yF (zB (zP (zD (xN i 1 (zH (zQ ?_)))))))))))))))
   replace h := h.tr e
   replace d := d.below e
   replace b := b.below e
   refine zB ⟨_, zo, (i + 1), j, l, rfl, n, zk, b, d, a, h, zo, ?_, ?_⟩
   ·(try simp only [List.length_append, List.length_cons, List.length_nil]); omega
   rw [← p, xW (k := i) za, wT]; simp [dropW, *]; try (unfold lowerI; split <;> omega)
  intro a1
  refine xF (zD (zw (zD (zw (qX .i32 o 45 ?_ ?_)))))
  ·intro a2
   refine xF (nQ (zT (yU (zS (yF (zB (zP (zD (xN i 1 (zH (zQ ?_)))))))))))
   replace h := h.tr e
   replace d := d.below e
   replace b := b.below e
   refine zB ⟨_, zo, (i + 1), j, l, rfl, n, zk, b, d, a, h, zo, ?_, ?_⟩
   ·(try simp only [List.length_append, List.length_cons, List.length_nil]); omega
   rw [← p, xW (k := i) za, wT]; simp [dropW, *]; try (unfold lowerI; split <;> omega)
  intro av
  refine xF (nQ (zF (zK (zB (yA (wR (zD (zGe .i32 o 65 ?_ ?_))))))))
  ·intro a0
   refine zD (zw (zD (zw (zLe .i32 o 90 ?_ ?_))))
   ·intro ar
    replace h := h.tr e
    replace d := d.below e
    refine xJ (nQ (zT (zP (zD (yY o 32 (o + 32) rfl zk zk (xE _ zh zh) (zH (nQ (zP (zD (zD (wH wP w.heap.size l j (o + 32) h.size d zo zk rfl rfl zk rfl zk zk ?_)))))))))))
    intro ag a3 ae t z
    replace b := b.below e
    have c := ap_app b z a
    replace h := h.tg h.size t d
    replace b := b.grown t a
    have a := c; have g := yW c
    replace d := ae
    refine zH (zQ (zJ (zB (zP (zD (xN i 1 (zH (zQ (zB ⟨_, zo, (i + 1), (j ++ [(o + 32)]), ag, rfl, n, zk, b, d, a, h, zo, ?_, ?_⟩)))))))))
    ·(try simp only [List.length_append, List.length_cons, List.length_nil]); omega
    rw [← p, xW (k := i) za, wT]; simp [dropW, *]; try (unfold lowerI; split <;> omega)
   intro am
   replace h := h.tr e
   replace d := d.below e
   refine xJ (nQ (zF (zK (zB (zP (zD (zD (wH wP w.heap.size l j o h.size d zo zk rfl rfl zk rfl zk zk ?_))))))))
   intro ai au ac r y
   replace b := b.below e
   have c := ap_app b y a
   replace h := h.tg h.size r d
   replace b := b.grown r a
   have a := c; have g := yW c
   replace d := ac
   refine zH (zQ (zJ (zB (zP (zD (xN i 1 (zH (zQ (zB ⟨_, zo, (i + 1), (j ++ [o]), ai, rfl, n, zk, b, d, a, h, zo, ?_, ?_⟩)))))))))
   ·(try simp only [List.length_append, List.length_cons, List.length_nil]); omega
   rw [← p, xW (k := i) za, wT]; simp [dropW, *]; try (unfold lowerI; split <;> omega)
  intro a4
  replace h := h.tr e
  replace d := d.below e
  refine zD (zs (zs (xF (nQ (zF (zK (zB (zP (zD (zD (wH wP w.heap.size l j o h.size d zo zk rfl rfl zk rfl zk zk ?_)))))))))))
  intro ak al ad q u
  replace b := b.below e
  have c := ap_app b u a
  replace h := h.tg h.size q d
  replace b := b.grown q a
  have a := c; have g := yW c
  replace d := ad
  refine zH (zQ (zJ (zB (zP (zD (xN i 1 (zH (zQ (zB ⟨_, zo, (i + 1), (j ++ [o]), ak, rfl, n, zk, b, d, a, h, zo, ?_, ?_⟩)))))))))
  ·(try simp only [List.length_append, List.length_cons, List.length_nil]); omega
  rw [← p, xW (k := i) za, wT]; simp [dropW, *]; try (unfold lowerI; split <;> omega)
 intro aw
 refine nQ (zF (yU (zS (zS (yF (zB (wR (zD (zc (c_furrowref01_Encode l j _ d.rd zo (by (rw [List.drop_eq_nil_of_le zo] at p; simp only [looseL, List.filter_nil, List.map_nil, List.append_nil] at p; rw [p]; exact loose_range))) ?_)))))))))
 rintro _ az ⟨rfl, ab⟩
 replace h := h.tr ab
 exact zH (nQ (zR (zZ [(S (encL j))] (hd := n) ⟨congrArg S (by rw [looseS, ← p, List.drop_eq_nil_of_le zo]; simp [looseL]), h⟩)))
theorem c_furrowref05_Short (c : Int) (w : World) (hc : 0 ≤ c) (hc2 : c ≤ 255) :
  Calls Tryz.prog 57 #[(U8 c)] w (Ret fun v w' => v = (S (shortS c)) ∧ Below w.heap.size w w') := by
 refine wJ 15 func57 rfl ?_
 have e := Below.refl w.heap.size w
 have p := shortTab_len
 refine wR (zH (nR (zM 24 [(S []), (S [76]), (S [82]), (S [65, 76]), (S [69, 78]), (S [69, 83]), (S [69, 84]), (S [65, 78]), (S [67, 83]), (S [78, 83, 77]), (S [66, 78]), (S [66]), (S [83]), (S [87, 83]), (S [79, 78]), (S [76, 82, 69]), (S [76, 82, 79]), (S [82, 76, 69]), (S [82, 76, 79]), (S [80, 68, 70]), (S [76, 82, 73]), (S [82, 76, 73]), (S [70, 83, 73]), (S [80, 68, 73])] 9 ?_)))
 intro l o a
 have h := a.ge e.size
 have b : Row o w.heap.size 9 1 encStr (.slice (some ⟨l, 0, none⟩) 24 24) shortTab := Row.made shortTab a h rfl rfl (by first | decide | (simp; done))
 refine zH (nW (wR (zD (wU (k := .u8) c c zk underlying3 zk (yK _ zo zo) (zD (vY underlying70 (b.rd).len (zGe .i64 c (((shortTab).length : Nat) : Int) ?_ ?_)))))))
 ·intro q
  replace e := e.tr a.below
  exact nQ (zT (wR (zH (nQ (zR (zG (zZ [(S [])] ⟨congrArg S (by (rw [shortS_none zo]; done)), e⟩)))))))
 intro r
 refine nQ (zF (zK (zB (wR (zD (zD (wU (k := .u8) c c zk underlying3 zk (yK _ zo zo) ?_)))))))
 have j := zX shortTab c.toNat zo; obtain ⟨m, i⟩ := j
 have j := (b.rd).at (k := 1) zj i
 obtain ⟨n, d, g, f⟩ := j
 replace e := e.tr a.below
 exact L_ixaddrZ (k := .i64) (.slice (some ⟨l, 0, none⟩) 24 24) c c.toNat _ n d zo el70 g zo zk zk (qL n (d + c.toNat * 1) (S m) zk zk (f 0 _ rfl) (zH (nQ (zR (zZ [(S m)] ⟨congrArg S (by exact shortS_tab zo za), e⟩)))))
theorem c_furrowref05_Long (c : Int) (w : World) (hc : 0 ≤ c) (hc2 : c ≤ 255) :
  Calls Tryz.prog 56 #[(U8 c)] w (Ret fun v w' => v = (S (longS c)) ∧ Below w.heap.size w w') := by
 refine wJ 15 func56 rfl ?_
 have e := Below.refl w.heap.size w
 have p := longTab_len
 refine wR (zH (nR (zM 24 [(S []), (S [76, 101, 102, 116, 95, 84, 111, 95, 82, 105, 103, 104, 116]), (S [82, 105, 103, 104, 116, 95, 84, 111, 95, 76, 101, 102, 116]), (S [65, 114, 97, 98, 105, 99, 95, 76, 101, 116, 116, 101, 114]), (S [69, 117, 114, 111, 112, 101, 97, 110, 95, 78, 117, 109, 98, 101, 114]), (S [69, 117, 114, 111, 112, 101, 97, 110, 95, 83, 101, 112, 97, 114, 97, 116, 111, 114]), (S [69, 117, 114, 111, 112, 101, 97, 110, 95, 84, 101, 114, 109, 105, 110, 97, 116, 111, 114]), (S [65, 114, 97, 98, 105, 99, 95, 78, 117, 109, 98, 101, 114]), (S [67, 111, 109, 109, 111, 110, 95, 83, 101, 112, 97, 114, 97, 116, 111, 114]), (S [78, 111, 110, 115, 112, 97, 99, 105, 110, 103, 95, 77, 97, 114, 107]), (S [66, 111, 117, 110, 100, 97, 114, 121, 95, 78, 101, 117, 116, 114, 97, 108]), (S [80, 97, 114, 97, 103, 114, 97, 112, 104, 95, 83, 101, 112, 97, 114, 97, 116, 111, 114]), (S [83, 101, 103, 109, 101, 110, 116, 95, 83, 101, 112, 97, 114, 97, 116, 111, 114]), (S [87, 104, 105, 116, 101, 95, 83, 112, 97, 99, 101]), (S [79, 116, 104, 101, 114, 95, 78, 101, 117, 116, 114, 97, 108]), (S [76, 101, 102, 116, 95, 84, 111, 95, 82, 105, 103, 104, 116, 95, 69, 109, 98, 101, 100, 100, 105, 110, 103]), (S [76, 101, 102, 116, 95, 84, 111, 95, 82, 105, 103, 104, 116, 95, 79, 118, 101, 114, 114, 105, 100, 101]), (S [82, 105, 103, 104, 116, 95, 84, 111, 95, 76, 101, 102, 116, 95, 69, 109, 98, 101, 100, 100, 105, 110, 103]), (S [82, 105, 103, 104, 116, 95, 84, 111, 95, 76, 101, 102, 116, 95, 79, 118, 101, 114, 114, 105, 100, 101]), (S [80, 111, 112, 95, 68, 105, 114, 101, 99, 116, 105, 111, 110, 97, 108, 95, 70, 111, 114, 109, 97, 116]), (S [76, 101, 102, 116, 95, 84, 111, 95, 82, 105, 103, 104, 116, 95, 73, 115, 111, 108, 97, 116, 101]), (S [82, 105, 103, 104, 116, 95, 84, 111, 95, 76, 101, 102, 116, 95, 73, 115, 111, 108, 97, 116, 101]), (S [70, 105, 114, 115, 116, 95, 83, 116, 114, 111, 110, 103, 95, 73, 115, 111, 108, 97, 116, 101]), (S [80, 111, 112, 95, 68, 105, 114, 101, 99, 116, 105, 111, 110, 97, 108, 95, 73, 115, 111, 108, 97, 116, 101])] 9 ?_)))
 intro l o a
 have h := a.ge e.size
 have b : Row o w.heap.size 9 1 encStr (.slice (some ⟨l, 0, none⟩) 24 24) longTab := Row.made longTab a h rfl rfl (by first | decide | (simp; done))
 refine zH (nW (wR (zD (wU (k := .u8) c c zk underlying3 zk (yK _ zo zo) (zD (vY underlying70 (b.rd).len (zGe .i64 c (((longTab).length : Nat) : Int) ?_ ?_)))))))
 ·intro q
  replace e := e.tr a.below
  exact nQ (zT (wR (zH (nQ (zR (zG (zZ [(S [])] ⟨congrArg S (by (rw [longS_none zo]; done)), e⟩)))))))
 intro r
 refine nQ (zF (zK (zB (wR (zD (zD (wU (k := .u8) c c zk underlying3 zk (yK _ zo zo) ?_)))))))
 have j := zX longTab c.toNat zo; obtain ⟨m, i⟩ := j
 have j := (b.rd).at (k := 1) zj i
 obtain ⟨n, d, g, f⟩ := j
 replace e := e.tr a.below
 exact L_ixaddrZ (k := .i64) (.slice (some ⟨l, 0, none⟩) 24 24) c c.toNat _ n d zo el70 g zo zk zk (qL n (d + c.toNat * 1) (S m) zk zk (f 0 _ rfl) (zH (nQ (zR (zZ [(S m)] ⟨congrArg S (by exact longS_tab zo za), e⟩)))))
theorem c_furrowref05_Class (s : List UInt8) (w : World) (hs : s.length ≤ 1073741824) :
  Calls Tryz.prog 80 #[(S s)] w (Ret fun v w' => v = (U8 ((classF s).1)) ∧ Below w.heap.size w w') := by
 refine wJ 27 func80 rfl ?_
 have a := Below.refl w.heap.size w
 refine wR (zH (nR (zD (zc (uN s _ zo) ?_))))
 rintro _ z ⟨rfl, l⟩
 refine zH (nW (wR (zH (nQ (zW ?_)))))
 replace a := a.tr l
 refine xA (fun m s0 w0 => ∃ (c : Nat), (m = 24 - c) ∧ (s0.ds = []) ∧ ([3, 4].map s0.f = [(S (looseS s)), (N6 c)]) ∧ (Below w.heap.size w w0) ∧ (1 ≤ c) ∧ (c ≤ 24) ∧ (classFrom s c = classF s)) _ ⟨1, rfl, zk, zk, a, by omega, by omega, rfl⟩ ?_
 rintro m4 s5 w6 ⟨c, hm, d, j, a, i1, i2, i⟩
 refine yX j (yA (wR (zD (nLe c 23 ?_ ?_))))
 ·intro h7
  refine nQ (zT (zK (zB (yA (zW (wR (zD (zD (wU (k := .i64) ((c : Nat) : Int) ((c : Nat) : Int) zk underlying28 zk (wrap_u8 _ zo zo) (zc (c_furrowref05_Short ((c : Nat) : Int) _ zo zo) ?_))))))))))
  rintro _ w8 ⟨rfl, h⟩
  have := uD ((c : Nat) : Int)
  refine zc (uN (shortS ((c : Nat) : Int)) _ zo) ?_
  rintro _ r ⟨rfl, b⟩
  refine L_seq (looseS s) (looseS (shortS ((c : Nat) : Int))) rfl zk zk ?_ ?_
  ·intro u
   replace a := (a.tr h).tr b
   exact zD (zs (zs (zs (zs (zs (zs (xJ (nQ (zT (wR (zD (wU (k := .i64) ((c : Nat) : Int) ((c : Nat) : Int) zk underlying28 zk (wrap_u8 _ zo zo) (zH (nQ (zR (zL (zG (zG (zL (zG (zZ [(U8 ((c : Nat) : Int))] (hd := d) ⟨eu (by (rw [← i, wX (c := c) zo]; simp [alikeB, *]; done)), a⟩)))))))))))))))))))))
  intro o
  refine zD (zw (zD (zw (zD (zw (wU (k := .i64) ((c : Nat) : Int) ((c : Nat) : Int) zk underlying28 zk (wrap_u8 _ zo zo) (zw (zc (c_furrowref05_Long ((c : Nat) : Int) _ zo zo) ?_))))))))
  rintro _ q ⟨rfl, e⟩
  have := Zf ((c : Nat) : Int)
  refine zw (zc (uN (longS ((c : Nat) : Int)) _ zo) ?_)
  rintro _ n ⟨rfl, g⟩
  refine zw (L_seq (looseS s) (looseS (longS ((c : Nat) : Int))) rfl zk zk ?_ ?_)
  ·intro t
   replace a := (((a.tr h).tr b).tr e).tr g
   exact xF (nQ (zT (wR (zD (wU (k := .i64) ((c : Nat) : Int) ((c : Nat) : Int) zk underlying28 zk (wrap_u8 _ zo zo) (zH (nQ (zR (zL (zG (zG (zL (zG (zZ [(U8 ((c : Nat) : Int))] (hd := d) ⟨eu (by (rw [← i, wX (c := c) zo]; simp [alikeB, *]; done)), a⟩))))))))))))))
  intro p
  refine xF (nQ (zF (zK (zJ (zB (zP (zD (xN c 1 (zH (zQ ?_))))))))))
  replace a := (((a.tr h).tr b).tr e).tr g
  refine zB ⟨_, zo, (c + 1), rfl, d, zk, a, zo, zo, ?_⟩
  rw [← i, wX (c := c) zo]; simp [alikeB, *]
 intro y
 exact nQ (zF (yU (zS (zS (yF (zB (wR (zH (nQ (zR (zZ [(U8 0)] (hd := d) ⟨eu (by (rw [← i, classFrom_end (c := c) zo]; done)), a⟩)))))))))))
theorem c_furrowref04_May (lo : Int) (hi : Int) (w : World) :
  Calls Tryz.prog 88 #[(Value.agg #[(I3 lo), (I3 hi)])] w (Ret fun v w' => v = (.bool (mayF lo hi)) ∧ Below w.heap.size w w') := by
 refine wJ 18 func88 rfl ?_
 have b := Below.refl w.heap.size w
 refine wR (zN [(I3 lo), (I3 hi)] 32 ?_)
 intro d h c
 have e := c.ge b.size
 have a := c.here
 refine zH (nR (wB 0 a rfl (zGe .i32 lo 0 ?_ ?_)))
 ·intro g
  refine zD (zw (zr (pt d 1) (zw (zO 1 a rfl (zw (zLe .i32 hi 1114111 ?_ ?_))))))
  ·intro k
   refine xJ (zD (zw (zr (pt d 0) (zw (zO 0 a rfl (zw (zr (pt d 1) (zw (zO 1 a rfl (zw (zLe .i32 lo hi ?_ ?_)))))))))))
   ·intro f
    have b := b.tr c.below
    exact xJ (zH (nQ (zR (zZ [(.bool true)] ⟨eb (by exact (mayF_true zo zo zo).symm), b⟩))))
   intro j
   have b := b.tr c.below
   exact xJ (zH (nQ (zR (zZ [(.bool false)] ⟨eb (by exact (mayF_false zo).symm), b⟩))))
  intro l
  have b := b.tr c.below
  exact xJ (zD (zs (zs (zs (zs (zs (xF (zH (nQ (zR (zZ [(.bool false)] ⟨eb (by exact (mayF_false zo).symm), b⟩)))))))))))
 intro i
 have b := b.tr c.below
 exact zD (zs (zs (zs (xF (zD (zs (zs (zs (zs (zs (xF (zH (nQ (zR (zZ [(.bool false)] ⟨eb (by exact (mayF_false zo).symm), b⟩)))))))))))))))
theorem c_furrowref04_Digit (b : Int) (w : World) (hb0 : 0 ≤ b) :
  Calls Tryz.prog 139 #[(U8 b)] w (Ret fun v w' => v = (I6 (digitV b.toNat)) ∧ Below w.heap.size w w') := by
 refine wJ 13 func139 rfl ?_
 have c := Below.refl w.heap.size w
 refine wR (zH (nW (wR (zH (nQ (zW (xA (fun m s0 w0 => ∃ (i : Nat), (m = 16 - i) ∧ (s0.ds = []) ∧ ([0, 3].map s0.f = [(U8 b), (N6 i)]) ∧ (Below w.heap.size w w0) ∧ (i ≤ 16) ∧ (digInv b i)) _ ⟨0, rfl, zk, zk, c, by omega, digInv_zero b⟩ ?_)))))))
 rintro p n o ⟨i, u, a, g, c, q, h⟩
 refine yX g (yA (wR (zD (nLt i 16 ?_ ?_))))
 ·intro s
  refine nQ (zT (zK (zB (yA (zW (wR (zD ?_)))))))
  have j := zX ([48, 49, 50, 51, 52, 53, 54, 55, 56, 57, 65, 66, 67, 68, 69, 70] : List UInt8) i (by first | omega | (simp; omega)); obtain ⟨e, d⟩ := j
  have := e.toNat_lt
  refine xL (k := .i64) ([48, 49, 50, 51, 52, 53, 54, 55, 56, 57, 65, 66, 67, 68, 69, 70] : List UInt8) i e underlying9 d zk zk (zD (qX .u8 ((e.toNat : Nat) : Int) b ?_ ?_))
  ·intro r
   exact nQ (zT (wR (zD (zH (nQ (zR (zL (zG (zG (zL (zG (zZ [(N6 i)] (hd := a) ⟨e6 (by (have l := dig_found za; rw [← l]; congr 1; omega)), c⟩))))))))))))
  intro y
  refine nQ (zF (zK (zJ (zB (zP (zD (xN i 1 (zH (zQ (zB ⟨_, zo, (i + 1), rfl, a, zk, c, zo, ?_⟩))))))))))
  exact digInv_succ h za zo
 intro t
 exact nQ (zF (yU (zS (zS (yF (zB (wR (zH (nQ (zR (zZ [(I6 (-1))] (hd := a) ⟨e6 (by exact (digInv_end h zo hb0).symm), c⟩)))))))))))
theorem wV (s : List UInt8) (w : World) (hs : s.length ≤ 1073741824) :
  Calls Tryz.prog 122 #[(S s)] w (Ret fun v w' => v = (.tuple #[(I3 ((hexF s).1)), (I6 ((hexF s).2))]) ∧ Below w.heap.size w w') := by
 refine wJ 45 func122 rfl ?_
 have c := Below.refl w.heap.size w
 refine wR (zH (zH (nW (wR (zD (zsl 9 s (nLt ((s).length) 4 ?_ ?_)))))))
 ·intro h1
  exact zD (zs (zs (zs (xJ (nQ (zT (wR (zH (zH (nQ (zR (zG (zZ [(I3 0), (I6 40)] ⟨yV (e3 (by (rw [hexF_len zo]; done))) (e6 (by (rw [hexF_len zo]; done))), c⟩)))))))))))))
 intro h2
 refine zD (zw (zD (zw (zsl 9 s (zw (nGt ((s).length) 6 ?_ ?_))))))
 ·intro h3
  exact xF (nQ (zT (wR (zH (zH (nQ (zR (zG (zZ [(I3 0), (I6 40)] ⟨yV (e3 (by (rw [hexF_len zo]; done))) (e6 (by (rw [hexF_len zo]; done))), c⟩)))))))))
 intro h4
 refine xF (nQ (zF (zK (zB (wR (zH (nW (wR (zH (nQ (zW (xA (fun m s0 w0 => ∃ (i : Nat) (z : Int), (m = s.length - i) ∧ (s0.ds = []) ∧ ([0, 4, 5].map s0.f = [(S s), (I6 z), (N6 i)]) ∧ (Below w.heap.size w w0) ∧ (0 ≤ z) ∧ (i ≤ s.length) ∧ (z.toNat < 16 ^ i) ∧ (hexV (s.drop i) z.toNat = hexV s 0)) _ ⟨0, 0, rfl, zk, zk, c, by omega, by omega, by decide, rfl⟩ ?_))))))))))))
 rintro m5 s6 w7 ⟨i, z, hm, d, o, c, n, i1, p, e⟩
 refine yX o ?_
 have af : i ≤ 5 → z.toNat < 1048576 := pow16 p
 have ae : i ≤ 6 → z.toNat < 16777216 := pow166 p
 refine yA (wR (zD (zD (zsl 9 s (nLt i ((s).length) ?_ ?_)))))
 ·intro h8
  refine nQ (zT (zK (zB (yA (zW (wR (zD (zD ?_))))))))
  have t := zX s i zo; obtain ⟨b, j⟩ := t
  have := b.toNat_lt
  have u : digitV ((b.toNat : Nat) : Int).toNat = digitV b.toNat := rfl
  have y := uL b.toNat
  have h : ∀ q, q = ((z * 16) + (digitV ((b.toNat : Nat) : Int).toNat)) → 0 ≤ digitV b.toNat → q.toNat = 16 * z.toNat + (digitV b.toNat).toNat := fun q h1 h2 => by omega
  refine xL (k := .i64) s i b underlying9 j zk zk (zc (c_furrowref04_Digit ((b.toNat : Nat) : Int) _ zo) ?_)
  rintro _ aj ⟨rfl, g⟩
  have := uL ((b.toNat : Nat) : Int).toNat
  refine zH (nW (wR (zD (zLt .i64 (digitV ((b.toNat : Nat) : Int).toNat) 0 ?_ ?_))))
  ·intro am
   have c := c.tr g
   exact nQ (zT (wR (zH (zH (nQ (zR (zG (zL (zG (zG (zL (zG (zZ [(I3 0), (I6 40)] (hd := d) ⟨yV (e3 (by (rw [hexF_bad e za zo]; done))) (e6 (by (rw [hexF_bad e za zo]; done))), c⟩)))))))))))))
  intro ag
  refine nQ (zF (zK (zB (zP (zD (yY z 16 (z * 16) rfl zk zk (yK _ zh zh) (zD (yY (z * 16) (digitV ((b.toNat : Nat) : Int).toNat) ((z * 16) + (digitV ((b.toNat : Nat) : Int).toNat)) rfl zk zk (yK _ zh zh) (zH (zQ (zJ (zB (zP (zD (xN i 1 (zH (zQ ?_)))))))))))))))))
  have c := c.tr g
  refine zB ⟨_, zo, (i + 1), ((z * 16) + (digitV ((b.toNat : Nat) : Int).toNat)), rfl, d, zk, c, zo, zo, ?_, ?_⟩
  ·rw [h _ rfl zo]; exact pow16s p zo
  rw [h _ rfl zo]; exact hexV_step e za zo
 intro al
 refine nQ (zF (yU (zS (zS (yF (zB (yA (wR (zD (zGt .i64 z 1114111 ?_ ?_))))))))))
 ·intro ah
  exact zD (zs (zs (zs (zs (zs (zs (zs (zs (xJ (nQ (zT (wR (zH (zH (nQ (zR (zG (zZ [(I3 0), (I6 40)] (hd := d) ⟨yV (e3 (by (rw [hexF_big (vN e zo) zo]; done))) (e6 (by (rw [hexF_big (vN e zo) zo]; done))), c⟩))))))))))))))))))
 intro ai
 refine zD (zw (zD (zw (zsl 9 s (zw (nGt ((s).length) 4 ?_ ?_))))))
 ·intro ad
  refine zw (zD (zw (zD (zw ?_))))
  have t := zX s 0 zo; obtain ⟨a, l⟩ := t
  have := a.toNat_lt
  have u : digitV ((a.toNat : Nat) : Int).toNat = digitV a.toNat := rfl
  have y := uL a.toNat
  have h : ∀ q, q = ((z * 16) + (digitV ((a.toNat : Nat) : Int).toNat)) → 0 ≤ digitV a.toNat → q.toNat = 16 * z.toNat + (digitV a.toNat).toNat := fun q h1 h2 => by omega
  refine xL (k := .i64) s 0 a underlying9 l zk zk (zw (xG .u8 ((a.toNat : Nat) : Int) ((48 : Nat) : Int) (a.toNat = 48) rfl (xI a.toNat 48) zk zk ?_ ?_))
  ·intro aa
   replace aa : a.toNat = 48 := by omega
   exact zw (xJ (xF (nQ (zT (wR (zH (zH (nQ (zR (zG (zZ [(I3 0), (I6 40)] (hd := d) ⟨yV (e3 (by (rw [hexF_zero zo za zo]; done))) (e6 (by (rw [hexF_zero zo za zo]; done))), c⟩)))))))))))
  intro r
  replace r : a.toNat ≠ 48 := by omega
  exact zw (xJ (xF (nQ (zF (zK (zB (wR (zD (wU (k := .i64) z z zk underlying21 zk (xE _ zo zo) (zH (zH (nQ (zR (zZ [(I3 z), (I6 0)] (hd := d) ⟨yV (e3 (by (rw [hexF_ok (vN e zo) zo zo zo (.inr ⟨_, by assumption, by omega⟩)]; first | done | exact (Int.toNat_of_nonneg n).symm))) (e6 (by (rw [hexF_ok (vN e zo) zo zo zo (.inr ⟨_, by assumption, by omega⟩)]; first | done | exact (Int.toNat_of_nonneg n).symm))), c⟩))))))))))))))
 intro ak
 exact zw (zD (zs (zs (zs (zw (xF (xF (nQ (zF (zK (zB (wR (zD (wU (k := .i64) z z zk underlying21 zk (xE _ zo zo) (zH (zH (nQ (zR (zZ [(I3 z), (I6 0)] (hd := d) ⟨yV (e3 (by (rw [hexF_ok (vN e zo) zo zo zo (.inl zo)]; first | done | exact (Int.toNat_of_nonneg n).symm))) (e6 (by (rw [hexF_ok (vN e zo) zo zo zo (.inl zo)]; first | done | exact (Int.toNat_of_nonneg n).symm))), c⟩)))))))))))))))))))
theorem c_furrowref04_Show (r : Int) (w : World) :
  Calls Tryz.prog 89 #[(I3 r)] w (Ret fun v w' => v = (.tuple #[(S ((showF r).1)), (I6 ((showF r).2))]) ∧ Below w.heap.size w w') := by
 refine wJ 31 func89 rfl ?_
 have c := Below.refl w.heap.size w
 refine wR (zH (zH (nW (wR (zD (zLt .i32 r 0 ?_ ?_))))))
 ·intro h1
  exact zD (zs (zs (xJ (nQ (zT (wR (zH (zH (nQ (zR (zG (zZ [(S []), (I6 40)] ⟨yV (congrArg S (by (rw [Zd zo]; done))) (e6 (by (rw [Zd zo]; done))), c⟩))))))))))))
 intro h2
 refine zD (zw (zD (zw (zGt .i32 r 1114111 ?_ ?_))))
 ·intro h3
  exact xF (nQ (zT (wR (zH (zH (nQ (zR (zG (zZ [(S []), (I6 40)] ⟨yV (congrArg S (by (rw [Zd zo]; done))) (e6 (by (rw [Zd zo]; done))), c⟩)))))))))
 intro h4
 refine xF (nQ (zF (zK (zB (wR (zH (nR (zD (wU (k := .i32) r r zk underlying3 zk (yK _ zo zo) (zH (nW (zW (xA (fun m s0 w0 => ∃ (a : List UInt8) (z : Int), (m = 10 - a.length) ∧ (s0.ds = []) ∧ ([2, 3, 4, 5].map s0.f = [(S []), (I6 0), (S a), (I6 z)]) ∧ (Below w.heap.size w w0) ∧ (a.length ≤ cntD r.toNat) ∧ (z = ((r.toNat / 16 ^ a.length : Nat) : Int)) ∧ (a = digsD r.toNat a.length)) _ ⟨([] : List UInt8), r, rfl, zk, zk, c, Nat.zero_le _, by simp; omega, rfl⟩ ?_)))))))))))))
 rintro m5 s6 w7 ⟨a, z, hm, p, aa, c, i1, d, h⟩
 refine yX aa ?_
 have af := cntD_le r.toNat
 have ah := show_facts i1 d zo
 refine yA (wR (zD (zGt .i64 z 0 ?_ ?_)))
 ·intro h8
  refine zD (zs (zs (zs (xJ (nQ (zT (zK (zB (zW (wR (zD (L_rem (k := .i64) z 16 zo zo zk zk ?_))))))))))))
  have hz := zX ([48, 49, 50, 51, 52, 53, 54, 55, 56, 57, 65, 66, 67, 68, 69, 70] : List UInt8) ((z % 16).toNat) (by (rw [show (([48, 49, 50, 51, 52, 53, 54, 55, 56, 57, 65, 66, 67, 68, 69, 70] : List UInt8)).length = 16 from rfl]; omega)); obtain ⟨i, s⟩ := hz
  have := i.toNat_lt
  refine L_sindexZ (k := .i64) ([48, 49, 50, 51, 52, 53, 54, 55, 56, 57, 65, 66, 67, 68, 69, 70] : List UInt8) (z % 16) ((z % 16).toNat) i zo underlying9 s zk zk (zM 1 [(U8 ((i.toNat : Nat) : Int))] 5 ?_)
  intro y ae e
  have o := e.ge c.size
  have n : Row ae w.heap.size 5 1 encU8 (.slice (some ⟨y, 0, none⟩) 1 1) ([((i.toNat : Nat) : Int)] : List (Int)) := Row.made ([((i.toNat : Nat) : Int)] : List (Int)) e o rfl rfl (by first | decide | (simp; done))
  refine L_bytesStr (.slice (some ⟨y, 0, none⟩) 1 1) ([((i.toNat : Nat) : Int)] : List (Int)) underlying84 underlying5 underlying9 zk n.rd (zD (wK (bytesI ([((i.toNat : Nat) : Int)] : List (Int))) a (by (simp only [bytesI, List.length_map, List.length_append, List.length_cons, List.length_nil]; omega)) zk zk (zH (nQ (zP (zD (L_quo (k := .i64) z 16 (z / 16) zo zo zk zk (yK _ zo zo) (zH (zQ (zJ ?_))))))))))
  have c := c.tr e.below
  refine zB ⟨_, ?_, ((bytesI ([((i.toNat : Nat) : Int)] : List (Int))) ++ a), (z / 16), rfl, p, zk, c, ?_, ?_, ?_⟩
  ·have q := Zc d h za; omega
  ·have q := Zc d h za; omega
  ·exact (Zc d h za).2.1
  exact (Zc d h za).2.2
 intro aj
 refine zD (zw (zD (zw (zsl 9 a (zw (nLt ((a).length) 4 ?_ ?_))))))
 ·intro ag
  refine xF (nQ (zT (zK (zB (zW (wR (zD (L_rem (k := .i64) z 16 zo zo zk zk ?_))))))))
  have hz := zX ([48, 49, 50, 51, 52, 53, 54, 55, 56, 57, 65, 66, 67, 68, 69, 70] : List UInt8) ((z % 16).toNat) (by (rw [show (([48, 49, 50, 51, 52, 53, 54, 55, 56, 57, 65, 66, 67, 68, 69, 70] : List UInt8)).length = 16 from rfl]; omega)); obtain ⟨b, u⟩ := hz
  have := b.toNat_lt
  refine L_sindexZ (k := .i64) ([48, 49, 50, 51, 52, 53, 54, 55, 56, 57, 65, 66, 67, 68, 69, 70] : List UInt8) (z % 16) ((z % 16).toNat) b zo underlying9 u zk zk (zM 1 [(U8 ((b.toNat : Nat) : Int))] 5 ?_)
  intro t ab g
  have l := g.ge c.size
  have j : Row ab w.heap.size 5 1 encU8 (.slice (some ⟨t, 0, none⟩) 1 1) ([((b.toNat : Nat) : Int)] : List (Int)) := Row.made ([((b.toNat : Nat) : Int)] : List (Int)) g l rfl rfl (by first | decide | (simp; done))
  refine L_bytesStr (.slice (some ⟨t, 0, none⟩) 1 1) ([((b.toNat : Nat) : Int)] : List (Int)) underlying84 underlying5 underlying9 zk j.rd (zD (wK (bytesI ([((b.toNat : Nat) : Int)] : List (Int))) a (by (simp only [bytesI, List.length_map, List.length_append, List.length_cons, List.length_nil]; omega)) zk zk (zH (nQ (zP (zD (L_quo (k := .i64) z 16 (z / 16) zo zo zk zk (yK _ zo zo) (zH (zQ (zJ ?_))))))))))
  have c := c.tr g.below
  refine zB ⟨_, ?_, ((bytesI ([((b.toNat : Nat) : Int)] : List (Int))) ++ a), (z / 16), rfl, p, zk, c, ?_, ?_, ?_⟩
  ·have q := Zc d h za; omega
  ·have q := Zc d h za; omega
  ·exact (Zc d h za).2.1
  exact (Zc d h za).2.2
 intro ai
 exact xF (nQ (zF (yU (zS (zS (yF (zB (wR (zD (zH (zH (nQ (zR (zZ [(S a), (I6 0)] (hd := p) ⟨yV (congrArg S (by (rw [showF_ok zo zo]; first | done | exact show_end i1 d h zo zo))) (e6 (by (rw [showF_ok zo zo]; first | done | exact show_end i1 d h zo zo))), c⟩))))))))))))))
theorem Zk (lo : Int) (hi : Int) (w : World) :
  Calls Tryz.prog 55 #[(Value.agg #[(I3 lo), (I3 hi)])] w (Ret fun v w' => v = (.tuple #[(S ((showSpanF lo hi).1)), (I6 ((showSpanF lo hi).2))]) ∧ Below w.heap.size w w') := by
 refine wJ 33 func55 rfl ?_
 have d := Below.refl w.heap.size w
 have k := showF_len lo
 have j := showF_len hi
 refine wR (zN [(I3 lo), (I3 hi)] 32 ?_)
 intro n q c
 have g := c.ge d.size
 have a := c.here
 refine zH (zH (nW (wR (vT a (zc (c_furrowref04_May lo hi _ ) ?_)))))
 rintro _ r ⟨rfl, e⟩
 refine yT (mayF lo hi) ?_ ?_
 ·intro p
  have a := zC a e
  refine qO true (nQ (zF (zK (zB (wR (wB 0 a rfl (zc (c_furrowref04_Show lo _ ) ?_)))))))
  rintro _ o ⟨rfl, f⟩
  have a := zC a f
  refine zD (zr (S ((showF lo).1)) (zr (I6 ((showF lo).2)) (zH (zH (nR (wB 1 a rfl (zc (c_furrowref04_Show hi _ ) ?_)))))))
  rintro _ h ⟨rfl, b⟩
  have a := zC a b
  refine zD (zr (S ((showF hi).1)) (zr (I6 ((showF hi).2)) (zH (zH (nW (wR (wB 0 a rfl (wB 1 a rfl (qX .i32 lo hi ?_ ?_)))))))))
  ·intro l
   have d := (((d.tr c.below).tr e).tr f).tr b
   exact nQ (zT (wR (zD (zH (zH (nQ (zR (zG (zZ [(S ((showF lo).1)), (I6 0)] ⟨yV (congrArg S (by (rw [showSpan_one za za]; done))) (e6 (by (rw [showSpan_one za za]; done))), d⟩)))))))))
  intro i
  have d := (((d.tr c.below).tr e).tr f).tr b
  exact nQ (zF (zK (zB (wR (zD (wK ((showF lo).1) ([46, 46] : List UInt8) (by (simp only [List.length_append, List.length_cons, List.length_nil]; omega)) zk zk (zD (wK ((showF lo).1 ++ ([46, 46] : List UInt8)) ((showF hi).1) (by (simp only [List.length_append, List.length_cons, List.length_nil]; omega)) zk zk (zH (zH (nQ (zR (zZ [(S (((showF lo).1 ++ ([46, 46] : List UInt8)) ++ (showF hi).1)), (I6 0)] ⟨yV (congrArg S (by (rw [showSpan_two za za]; done))) (e6 (by (rw [showSpan_two za za]; done))), d⟩)))))))))))))
 intro m
 have d := (d.tr c.below).tr e
 exact qO false (nQ (zT (wR (zH (zH (nQ (zR (zG (zZ [(S []), (I6 41)] ⟨yV (congrArg S (by (rw [showSpan_bad za]; done))) (e6 (by (rw [showSpan_bad za]; done))), d⟩)))))))))
theorem c_furrowref04_Span (s : List UInt8) (w : World) (hs : s.length ≤ 1073741824) :
  Calls Tryz.prog 79 #[(S s)] w (Ret fun v w' => v = (.tuple #[(Value.agg #[(I3 ((spanF s).1)), (I3 ((spanF s).2.1))]), (I6 ((spanF s).2.2))]) ∧ Below w.heap.size w w') := by
 refine wJ 78 func79 rfl ?_
 have c := Below.refl w.heap.size w
 refine wR (zN [(I3 0), (I3 0)] 32 ?_)
 intro r w2 aj
 have d := aj.ge c.size
 have b := aj.here
 refine zH (nR (zH (nW (wR (zH (nQ (zW ?_)))))))
 replace c := c.tr aj.below
 refine xA (fun m s0 w0 => ∃ (i : Nat) (a : Int), (m = s.length - i) ∧ (s0.ds = []) ∧ ([0, 2, 3, 4, 5].map s0.f = [(S s), (pt r 0), (I6 0), (I6 a), (N6 i)]) ∧ (w0.heap[r]? = some (.cells [(I3 0), (I3 0)].toArray 32 (0, 0))) ∧ (Below w.heap.size w w0) ∧ (i ≤ s.length) ∧ (-1 ≤ a ∧ a ≤ 1073741824) ∧ (atInv s i a)) _ ⟨0, (-1), rfl, zk, zk, b, c, by omega, by omega, at_zero s⟩ ?_
 rintro m4 s5 w6 ⟨i, a, hm, e, ap, b, c, i1, i0, g⟩
 refine yX ap (yA (wR (zD (xN i 1 (zD (zsl 9 s (nLt (i + 1) ((s).length) ?_ ?_)))))))
 ·intro h7
  refine zD (zw (zD (zw (zLt .i64 a 0 ?_ ?_))))
  ·intro h8
   refine xJ (nQ (zT (zK (zB (yA (zW (wR (zD (zD ?_)))))))))
   have hz := zX s i zo; obtain ⟨c9, ak⟩ := hz
   have := c9.toNat_lt
   refine xL (k := .i64) s i c9 underlying9 ak zk zk (xG .u8 ((c9.toNat : Nat) : Int) ((46 : Nat) : Int) (c9.toNat = 46) rfl (xI c9.toNat 46) zk zk ?_ ?_)
   ·intro ao
    replace ao : c9.toNat = 46 := by omega
    refine zD (zw (zD (zw (zD (zw (xN i 1 (zw ?_)))))))
    have hz := zX s (i + 1) zo; obtain ⟨o, al⟩ := hz
    have := o.toNat_lt
    refine xL (k := .i64) s (i + 1) o underlying9 al zk zk (zw (xG .u8 ((o.toNat : Nat) : Int) ((46 : Nat) : Int) (o.toNat = 46) rfl (xI o.toNat 46) zk zk ?_ ?_))
    ·intro an
     replace an : o.toNat = 46 := by omega
     refine xJ (nQ (zT (zP (zD (zH (zQ (zJ (zB (zP (zD (xN i 1 (zH (zQ (zB ⟨_, zo, (i + 1), ((i : Nat) : Int), rfl, e, zk, b, c, zo, zo, ?_⟩))))))))))))))
     exact at_hit g zo zo (dots_hit za za zo zo)
    intro ar
    replace ar : o.toNat ≠ 46 := by omega
    refine xJ (nQ (zF (zK (zJ (zB (zP (zD (xN i 1 (zH (zQ (zB ⟨_, zo, (i + 1), a, rfl, e, zk, b, c, zo, zo, ?_⟩)))))))))))
    exact at_miss g zo (dots_miss2 zo za zo)
   intro am
   replace am : c9.toNat ≠ 46 := by omega
   refine zD (zs (zs (zs (zs (zs (xF (nQ (zF (zK (zJ (zB (zP (zD (xN i 1 (zH (zQ (zB ⟨_, zo, (i + 1), a, rfl, e, zk, b, c, zo, zo, ?_⟩)))))))))))))))))
   exact at_miss g zo (dots_miss1 zo za zo)
  intro bg
  refine xJ (nQ (zF (yU (zS (zS (yF (zB (yA (wR (zD (zLt .i64 a 0 ?_ ?_)))))))))))
  ·intro a5
   refine nQ (zT (wR (zD (zc (wV s _ zo) ?_))))
   rintro _ a4 ⟨rfl, p⟩
   refine zD (zr (I3 ((hexF s).1)) (zr (I6 ((hexF s).2)) (zH (zH (nW (wR (zD (zNe .i64 ((hexF s).2) 0 ?_ ?_))))))))
   ·intro bw
    replace b := zC b p
    refine nQ (zT (wR (zr (Value.agg #[(I3 0), (I3 0)]) (zD (qQ [(I3 0), (I3 0)] b ?_)))))
    intro ay z
    replace b := z.here
    refine zH (nQ (zR (zG (zG (yM [.cell 2 32, .tmp 3] [(Value.agg #[(I3 0), (I3 0)]), (I6 ((hexF s).2))] rfl e ⟨⟨⟨r, 0, none⟩, zk, yH [(I3 0), (I3 0)] zk zk (yE b)⟩, zk, trivial⟩ ?_)))))
    replace c := (c.tr p).trans (z.below d)
    exact ⟨yV (by (rw [vU (at_none g zo zo)]; simp [*]; done)) (e6 (by (rw [vU (at_none g zo zo)]; simp [*]; done))), c⟩
   intro be
   replace b := zC b p
   refine nQ (zF (zK (zB (wR (zD (zD (zr (Value.agg #[(I3 ((hexF s).1)), (I3 ((hexF s).1))]) (qQ [(I3 ((hexF s).1)), (I3 ((hexF s).1))] b ?_))))))))
   intro bs ac
   replace b := ac.here
   refine zH (nQ (zR (zG (yM [.cell 2 32, .tmp 3] [(Value.agg #[(I3 ((hexF s).1)), (I3 ((hexF s).1))]), (I6 0)] rfl e ⟨⟨⟨r, 0, none⟩, zk, yH [(I3 ((hexF s).1)), (I3 ((hexF s).1))] zk zk (yE b)⟩, zk, trivial⟩ ?_))))
   replace c := (c.tr p).trans (ac.below d)
   exact ⟨yV (by (rw [vU (at_none g zo zo)]; simp [*]; done)) (e6 (by (rw [vU (at_none g zo zo)]; simp [*]; done))), c⟩
  intro bd
  refine nQ (zF (zK (zB (wR (zD (zD (L_ssto s ((a).toNat) underlying9 zk (vR a .i64 zk zo) (by (have hq := (qB g zo).2; omega)) (zc (wV (List.take ((a).toNat) s) _ (by (simp only [List.length_take, List.length_drop]; omega))) ?_))))))))
  rintro _ bt ⟨rfl, l⟩
  refine zD (zr (I3 ((hexF (List.take ((a).toNat) s)).1)) (zr (I6 ((hexF (List.take ((a).toNat) s)).2)) (zH (zH (nR (zD (zD (yY a 2 (a + 2) rfl zk zk (yK _ zh zh) (qH s (((a + 2)).toNat) underlying9 zk (vR (a + 2) .i64 zk zo) (by (have hq := (qB g zo).2; omega)) (zc (wV (List.drop (((a + 2)).toNat) s) _ (by (simp only [List.length_take, List.length_drop]; omega))) ?_))))))))))
  rintro _ a2 ⟨rfl, n⟩
  refine zD (zr (I3 ((hexF (List.drop (((a + 2)).toNat) s)).1)) (zr (I6 ((hexF (List.drop (((a + 2)).toNat) s)).2)) (zH (zH (nW (wR (zD (zNe .i64 ((hexF (List.take ((a).toNat) s)).2) 0 ?_ ?_))))))))
  ·intro bf
   replace b := zC (zC b l) n
   refine zD (zs (zs (xJ (nQ (zT (wR (zr (Value.agg #[(I3 0), (I3 0)]) (qQ [(I3 0), (I3 0)] b ?_))))))))
   intro bn aa
   replace b := aa.here
   refine zH (nQ (zR (zG (yM [.cell 2 32, .tmp 3] [(Value.agg #[(I3 0), (I3 0)]), (I6 40)] rfl e ⟨⟨⟨r, 0, none⟩, zk, yH [(I3 0), (I3 0)] zk zk (yE b)⟩, zk, trivial⟩ ?_))))
   replace c := ((c.tr l).tr n).trans (aa.below d)
   exact ⟨yV (by (rw [wF (qB g zo).1, show a.toNat + 2 = (a + 2).toNat by omega]; simp [*]; done)) (e6 (by (rw [wF (qB g zo).1, show a.toNat + 2 = (a + 2).toNat by omega]; simp [*]; done))), c⟩
  intro a9
  refine zD (zw (zD (zw (zNe .i64 ((hexF (List.drop (((a + 2)).toNat) s)).2) 0 ?_ ?_))))
  ·intro bj
   replace b := zC (zC b l) n
   refine xF (nQ (zT (wR (zr (Value.agg #[(I3 0), (I3 0)]) (qQ [(I3 0), (I3 0)] b ?_)))))
   intro ax af
   replace b := af.here
   refine zH (nQ (zR (zG (yM [.cell 2 32, .tmp 3] [(Value.agg #[(I3 0), (I3 0)]), (I6 40)] rfl e ⟨⟨⟨r, 0, none⟩, zk, yH [(I3 0), (I3 0)] zk zk (yE b)⟩, zk, trivial⟩ ?_))))
   replace c := ((c.tr l).tr n).trans (af.below d)
   exact ⟨yV (by (rw [wF (qB g zo).1, show a.toNat + 2 = (a + 2).toNat by omega]; simp [*]; done)) (e6 (by (rw [wF (qB g zo).1, show a.toNat + 2 = (a + 2).toNat by omega]; simp [*]; done))), c⟩
  intro bk
  refine xF (nQ (zF (zK (zB (yA (wR (zD (zD (zGt .i32 ((hexF (List.take ((a).toNat) s)).1) ((hexF (List.drop (((a + 2)).toNat) s)).1) ?_ ?_)))))))))
  ·intro bh
   replace b := zC (zC b l) n
   refine nQ (zT (wR (zr (Value.agg #[(I3 0), (I3 0)]) (qQ [(I3 0), (I3 0)] b ?_))))
   intro az ag
   replace b := ag.here
   refine zH (nQ (zR (zG (yM [.cell 2 32, .tmp 3] [(Value.agg #[(I3 0), (I3 0)]), (I6 41)] rfl e ⟨⟨⟨r, 0, none⟩, zk, yH [(I3 0), (I3 0)] zk zk (yE b)⟩, zk, trivial⟩ ?_))))
   replace c := ((c.tr l).tr n).trans (ag.below d)
   exact ⟨yV (by (rw [wF (qB g zo).1, show a.toNat + 2 = (a + 2).toNat by omega]; simp [*]; done)) (e6 (by (rw [wF (qB g zo).1, show a.toNat + 2 = (a + 2).toNat by omega]; simp [*]; done))), c⟩
  intro bx
  replace b := zC (zC b l) n
  refine nQ (zF (zK (zB (wR (zD (zD (zr (Value.agg #[(I3 ((hexF (List.take ((a).toNat) s)).1)), (I3 ((hexF (List.drop (((a + 2)).toNat) s)).1))]) (qQ [(I3 ((hexF (List.take ((a).toNat) s)).1)), (I3 ((hexF (List.drop (((a + 2)).toNat) s)).1))] b ?_))))))))
  intro a7 ae
  replace b := ae.here
  refine zH (nQ (zR (yM [.cell 2 32, .tmp 3] [(Value.agg #[(I3 ((hexF (List.take ((a).toNat) s)).1)), (I3 ((hexF (List.drop (((a + 2)).toNat) s)).1))]), (I6 0)] rfl e ⟨⟨⟨r, 0, none⟩, zk, yH [(I3 ((hexF (List.take ((a).toNat) s)).1)), (I3 ((hexF (List.drop (((a + 2)).toNat) s)).1))] zk zk (yE b)⟩, zk, trivial⟩ ?_)))
  replace c := ((c.tr l).tr n).trans (ae.below d)
  exact ⟨yV (by (rw [wF (qB g zo).1, show a.toNat + 2 = (a + 2).toNat by omega]; rw [if_neg (by simp [*]), if_neg zo]; done)) (e6 (by (rw [wF (qB g zo).1, show a.toNat + 2 = (a + 2).toNat by omega]; rw [if_neg (by simp [*]), if_neg zo]; done))), c⟩
 intro bu
 refine zD (zs (zs (xF (nQ (zF (yU (zS (zS (yF (zB (yA (wR (zD (zLt .i64 a 0 ?_ ?_))))))))))))))
 ·intro bb
  refine nQ (zT (wR (zD (zc (wV s _ zo) ?_))))
  rintro _ bq ⟨rfl, q⟩
  refine zD (zr (I3 ((hexF s).1)) (zr (I6 ((hexF s).2)) (zH (zH (nW (wR (zD (zNe .i64 ((hexF s).2) 0 ?_ ?_))))))))
  ·intro bo
   replace b := zC b q
   refine nQ (zT (wR (zr (Value.agg #[(I3 0), (I3 0)]) (zD (qQ [(I3 0), (I3 0)] b ?_)))))
   intro a1 y
   replace b := y.here
   refine zH (nQ (zR (zG (zG (yM [.cell 2 32, .tmp 3] [(Value.agg #[(I3 0), (I3 0)]), (I6 ((hexF s).2))] rfl e ⟨⟨⟨r, 0, none⟩, zk, yH [(I3 0), (I3 0)] zk zk (yE b)⟩, zk, trivial⟩ ?_)))))
   replace c := (c.tr q).trans (y.below d)
   exact ⟨yV (by (rw [vU (at_none g zo zo)]; simp [*]; done)) (e6 (by (rw [vU (at_none g zo zo)]; simp [*]; done))), c⟩
  intro br
  replace b := zC b q
  refine nQ (zF (zK (zB (wR (zD (zD (zr (Value.agg #[(I3 ((hexF s).1)), (I3 ((hexF s).1))]) (qQ [(I3 ((hexF s).1)), (I3 ((hexF s).1))] b ?_))))))))
  intro a8 t
  replace b := t.here
  refine zH (nQ (zR (zG (yM [.cell 2 32, .tmp 3] [(Value.agg #[(I3 ((hexF s).1)), (I3 ((hexF s).1))]), (I6 0)] rfl e ⟨⟨⟨r, 0, none⟩, zk, yH [(I3 ((hexF s).1)), (I3 ((hexF s).1))] zk zk (yE b)⟩, zk, trivial⟩ ?_))))
  replace c := (c.tr q).trans (t.below d)
  exact ⟨yV (by (rw [vU (at_none g zo zo)]; simp [*]; done)) (e6 (by (rw [vU (at_none g zo zo)]; simp [*]; done))), c⟩
 intro av
 refine nQ (zF (zK (zB (wR (zD (zD (L_ssto s ((a).toNat) underlying9 zk (vR a .i64 zk zo) (by (have hq := (qB g zo).2; omega)) (zc (wV (List.take ((a).toNat) s) _ (by (simp only [List.length_take, List.length_drop]; omega))) ?_))))))))
 rintro _ bm ⟨rfl, h⟩
 refine zD (zr (I3 ((hexF (List.take ((a).toNat) s)).1)) (zr (I6 ((hexF (List.take ((a).toNat) s)).2)) (zH (zH (nR (zD (zD (yY a 2 (a + 2) rfl zk zk (yK _ zh zh) (qH s (((a + 2)).toNat) underlying9 zk (vR (a + 2) .i64 zk zo) (by (have hq := (qB g zo).2; omega)) (zc (wV (List.drop (((a + 2)).toNat) s) _ (by (simp only [List.length_take, List.length_drop]; omega))) ?_))))))))))
 rintro _ bi ⟨rfl, j⟩
 refine zD (zr (I3 ((hexF (List.drop (((a + 2)).toNat) s)).1)) (zr (I6 ((hexF (List.drop (((a + 2)).toNat) s)).2)) (zH (zH (nW (wR (zD (zNe .i64 ((hexF (List.take ((a).toNat) s)).2) 0 ?_ ?_))))))))
 ·intro bl
  replace b := zC (zC b h) j
  refine zD (zs (zs (xJ (nQ (zT (wR (zr (Value.agg #[(I3 0), (I3 0)]) (qQ [(I3 0), (I3 0)] b ?_))))))))
  intro bv ab
  replace b := ab.here
  refine zH (nQ (zR (zG (yM [.cell 2 32, .tmp 3] [(Value.agg #[(I3 0), (I3 0)]), (I6 40)] rfl e ⟨⟨⟨r, 0, none⟩, zk, yH [(I3 0), (I3 0)] zk zk (yE b)⟩, zk, trivial⟩ ?_))))
  replace c := ((c.tr h).tr j).trans (ab.below d)
  exact ⟨yV (by (rw [wF (qB g zo).1, show a.toNat + 2 = (a + 2).toNat by omega]; simp [*]; done)) (e6 (by (rw [wF (qB g zo).1, show a.toNat + 2 = (a + 2).toNat by omega]; simp [*]; done))), c⟩
 intro au
 refine zD (zw (zD (zw (zNe .i64 ((hexF (List.drop (((a + 2)).toNat) s)).2) 0 ?_ ?_))))
 ·intro bc
  replace b := zC (zC b h) j
  refine xF (nQ (zT (wR (zr (Value.agg #[(I3 0), (I3 0)]) (qQ [(I3 0), (I3 0)] b ?_)))))
  intro a3 ah
  replace b := ah.here
  refine zH (nQ (zR (zG (yM [.cell 2 32, .tmp 3] [(Value.agg #[(I3 0), (I3 0)]), (I6 40)] rfl e ⟨⟨⟨r, 0, none⟩, zk, yH [(I3 0), (I3 0)] zk zk (yE b)⟩, zk, trivial⟩ ?_))))
  replace c := ((c.tr h).tr j).trans (ah.below d)
  exact ⟨yV (by (rw [wF (qB g zo).1, show a.toNat + 2 = (a + 2).toNat by omega]; simp [*]; done)) (e6 (by (rw [wF (qB g zo).1, show a.toNat + 2 = (a + 2).toNat by omega]; simp [*]; done))), c⟩
 intro a0
 refine xF (nQ (zF (zK (zB (yA (wR (zD (zD (zGt .i32 ((hexF (List.take ((a).toNat) s)).1) ((hexF (List.drop (((a + 2)).toNat) s)).1) ?_ ?_)))))))))
 ·intro aw
  replace b := zC (zC b h) j
  refine nQ (zT (wR (zr (Value.agg #[(I3 0), (I3 0)]) (qQ [(I3 0), (I3 0)] b ?_))))
  intro bp ad
  replace b := ad.here
  refine zH (nQ (zR (zG (yM [.cell 2 32, .tmp 3] [(Value.agg #[(I3 0), (I3 0)]), (I6 41)] rfl e ⟨⟨⟨r, 0, none⟩, zk, yH [(I3 0), (I3 0)] zk zk (yE b)⟩, zk, trivial⟩ ?_))))
  replace c := ((c.tr h).tr j).trans (ad.below d)
  exact ⟨yV (by (rw [wF (qB g zo).1, show a.toNat + 2 = (a + 2).toNat by omega]; simp [*]; done)) (e6 (by (rw [wF (qB g zo).1, show a.toNat + 2 = (a + 2).toNat by omega]; simp [*]; done))), c⟩
 intro ba
 replace b := zC (zC b h) j
 refine nQ (zF (zK (zB (wR (zD (zD (zr (Value.agg #[(I3 ((hexF (List.take ((a).toNat) s)).1)), (I3 ((hexF (List.drop (((a + 2)).toNat) s)).1))]) (qQ [(I3 ((hexF (List.take ((a).toNat) s)).1)), (I3 ((hexF (List.drop (((a + 2)).toNat) s)).1))] b ?_))))))))
 intro a6 u
 replace b := u.here
 refine zH (nQ (zR (yM [.cell 2 32, .tmp 3] [(Value.agg #[(I3 ((hexF (List.take ((a).toNat) s)).1)), (I3 ((hexF (List.drop (((a + 2)).toNat) s)).1))]), (I6 0)] rfl e ⟨⟨⟨r, 0, none⟩, zk, yH [(I3 ((hexF (List.take ((a).toNat) s)).1)), (I3 ((hexF (List.drop (((a + 2)).toNat) s)).1))] zk zk (yE b)⟩, zk, trivial⟩ ?_)))
 replace c := ((c.tr h).tr j).trans (u.below d)
 exact ⟨yV (by (rw [wF (qB g zo).1, show a.toNat + 2 = (a + 2).toNat by omega]; rw [if_neg (by simp [*]), if_neg zo]; done)) (e6 (by (rw [wF (qB g zo).1, show a.toNat + 2 = (a + 2).toNat by omega]; rw [if_neg (by simp [*]), if_neg zo]; done))), c⟩
end Go.Proofs.YtkclikfejmeblaaGreatDoor
end

/- === FKaj === -/
section
/- FKaj: slices made of zeros, of any plain kind; arguments of plain data: structs with fields of several cells. My own text. -/
namespace Go.FK
open Go Go.RowKit Go.ChangeShapes Go.WideShapes
section ops
variable {r : Option Nat} {P : Program} {n : Nat} {Q : Post} {s : Fm} {w : World} {ops : Array Oper} {rest : List Oper}
variable {d : Option Tmp} {ty : TypeId} {pos : String} {af : Array Edge}
end ops
theorem elem_mid {w : World} {g off : Nat} {l : List Value} (A : List Value) {l2 : List Value} (B : List Value) (hc : ∀ (j : Nat) (u : Value), l[j]? = some u → w.cell? ⟨g, off + j, none⟩ = some u) (hl : l = A ++ (l2 ++ B)) :
  ∀ (j : Nat) (u : Value), l2[j]? = some u → w.cell? ⟨g, off + A.length + j, none⟩ = some u := fun j u hu => by
 rw [Nat.add_assoc]
 refine hc _ u ?_
 rw [hl, List.getElem?_append_right (by omega), show A.length + j - A.length = j by omega, List.getElem?_append_left (List.getElem?_eq_some_iff.1 hu).1]
 exact hu
section
variable {P : Program} {t : TypeId}
end
end Go.FK
end

/- === FKan === -/
section
/- FKan: a region that draws its order, of which the first a operations are taken already: those up to k only read and must all come before one that changes memory: they may be walked in the order of the text. As FKae, begun later. My own text. -/
namespace Go.FK
open Go Go.RowKit
def preOkE (ops : Array Oper) (a k : Nat) : Bool :=
  ((List.range k).all fun i => match ops[i]? with
    | some o => (o.after.all fun e => !Region.binds .any e || decide (e.on < i)) && (match o.guard with | none => true | some g => decide (g.1 < k))
    | none => false) &&
  ((List.range k).all fun i => decide (i < a) || (List.range (k + 1)).any fun j => decide (i < j) && (match ops[j]? with | some o => onB o i | none => false)) &&
  ((List.range ops.size).all fun j => decide (j ≤ k) || (match ops[j]? with | some o => o.after.any fun e => Region.binds .any e && decide (k ≤ e.on) | none => false))
section
variable {ops : Array Oper} {a k : Nat} {L : Array Bool}
theorem preE_back (h : preOkE ops a k = true) {i : Nat} (hi : i < k) : ∃ o, ops[i]? = some o ∧ (∀ e ∈ o.after, Region.binds .any e = true → e.on < i) ∧ (∀ g, o.guard = some g → g.1 < k) := by
 unfold preOkE at h
 simp only [Bool.and_eq_true, List.all_eq_true, List.mem_range] at h
 have b := h.1.1 i hi
 cases ho : ops[i]? with
 | none => rw [ho] at b; cases b
 | some o =>
  rw [ho] at b
  simp only [Bool.and_eq_true] at b
  refine ⟨o, rfl, fun e he hb => ?_, fun g hg => ?_⟩
  ·have := Array.all_eq_true'.1 b.1 e he
   simpa [hb] using this
  ·have c := b.2; rw [hg] at c; simpa using c
theorem preE_used (h : preOkE ops a k = true) {i : Nat} (hi : i < k) (ha : a ≤ i) : ∃ j o, i < j ∧ j ≤ k ∧ ops[j]? = some o ∧ ∃ e ∈ o.after, Region.binds .any e = true ∧ e.on = i := by
 unfold preOkE at h
 simp only [Bool.and_eq_true, List.all_eq_true, List.mem_range, List.any_eq_true, Bool.or_eq_true, decide_eq_true_eq] at h
 rcases h.1.2 i hi with d | ⟨j, hj, c, b⟩
 ·omega
 cases ho : ops[j]? with
 | none => rw [ho] at b; cases b
 | some o =>
  rw [ho] at b
  simp only [onB] at b
  obtain ⟨e, he, hb⟩ := Array.any_eq_true'.1 b
  simp only [Bool.and_eq_true] at hb
  exact ⟨j, o, by simpa using c, by omega, ho, e, he, hb.1, Nat.eq_of_beq_eq_true hb.2⟩
theorem preE_rest (h : preOkE ops a k = true) {j : Nat} (hj : k < j) {o : Oper} (ho : ops[j]? = some o) : ∃ e ∈ o.after, Region.binds .any e = true ∧ k ≤ e.on := by
 unfold preOkE at h
 simp only [Bool.and_eq_true, List.all_eq_true, List.mem_range] at h
 have hlt : j < ops.size := (Array.getElem?_eq_some_iff.1 ho).1
 have b := h.2 j hlt
 rw [ho] at b
 simp only [Bool.or_eq_true] at b
 rcases b with b | b
 ·have := of_decide_eq_true b; omega
 ·obtain ⟨e, he, hb⟩ := Array.any_eq_true'.1 b
  simp only [Bool.and_eq_true] at hb
  exact ⟨e, he, hb.1, of_decide_eq_true hb.2⟩
theorem preE_low (h : preOkE ops a k = true) (hI : PreI ops k L) (hA : ∀ i, i < a → L.getD i true = true) (hk : k ≤ ops.size) {i : Nat} (hi : i < k) (hu : L.getD i true = false) {j : Nat} (hj : j ∈ Region.ready .any ops L) : j < k := by
 rcases Nat.lt_or_ge j k with hlt | hge
 ·exact hlt
 exfalso
 obtain ⟨d, o, ho, hall⟩ := mem_ready.1 hj
 rcases Nat.lt_or_ge k j with hlt | hle
 ·obtain ⟨e, he, hb, hke⟩ := preE_rest h hlt ho
  have b := hall e he hb
  rcases Nat.lt_or_ge e.on ops.size with hs | hs
  ·rw [getD_tf (by rw [hI.size]; exact hs), hI.high _ hke hs] at b; cases b
  ·rw [Array.getD_eq_getD_getElem?, Array.getElem?_eq_none (by rw [hI.size]; exact hs)] at b; cases b
 ·obtain rfl : j = k := by omega
  have key : ∀ m i, j - i ≤ m → i < j → L.getD i true = true := by
   intro m
   induction m with
   | zero => intro i b c; omega
   | succ m ih =>
    intro i b c
    rcases Nat.lt_or_ge i a with hia | hia
    ·exact hA i hia
    obtain ⟨j', o', hij, hjk, ho', e, he, hb, heq⟩ := preE_used h c hia
    rw [← heq]
    rw [← getD_tf (by rw [hI.size]; omega)]
    rcases Nat.lt_or_ge j' j with hl | hg
    ·exact hI.down j' o' hl ho' (ih j' (by omega) hl) e he hb
    ·obtain rfl : j' = j := by omega
     rw [ho] at ho'; cases ho'
     exact hall e he hb
  have := key j i (by omega) hi
  rw [hu] at this; cases this
theorem preE_ready (h : preOkE ops a k = true) (hI : PreI ops k L) : ∀ i, i < k → L.getD i true = false → ∃ j, j < k ∧ j ∈ Region.ready .any ops L := by
 intro i
 induction i using Nat.strongRecOn with
 | ind i ih =>
  intro hi hu
  obtain ⟨o, ho, hb, _⟩ := preE_back h hi
  by_cases hx : ∃ m, m < i ∧ L.getD m true = false
  ·obtain ⟨m, hm, hmu⟩ := hx
   exact ih m hm (by omega) hmu
  ·refine ⟨i, hi, mem_ready.2 ⟨hu, o, ho, fun e he hbi => ?_⟩⟩
   have hlt := hb e he hbi
   have his : i < ops.size := (Array.getElem?_eq_some_iff.1 ho).1
   rw [getD_tf (by rw [hI.size]; omega)]
   cases hc : L.getD e.on true with
   | true => rfl
   | false => exact absurd ⟨_, hlt, hc⟩ hx
end
section
variable {P : Program} {n : Nat} {ops : Array Oper} {a k fuel : Nat} {C : World → Prop} {K : Act → Prop} {Q' : Exit → Act → World → Prop}
theorem pre_anyE (h : preOkE ops a k = true) (hk : k ≤ ops.size) (hd : noDefers ops = true)
  (H : ∀ a w, C w → K a → wpAnyIn (Fw none) 0 P .any ops Q' fuel (preL k ops.size) a w) : ∀ (m : Nat) (L : Array Bool) (b : Act) (w : World), PreI ops k L → (∀ i, i < a → L.getD i true = true) → unl L k = m → C w →
  wpAnyQ P .any (ops.toList.take k).toArray C K m L b → wpAnyIn (Fw none) 0 P .any ops Q' (m + fuel) L b w
 | 0, L, b, w, hI, hA, hu, hw, hq => by
  rw [Nat.zero_add, preL_eq hI hk hu]
  exact H b w hw hq.2
 | m + 1, L, b, w, hI, hA, hu, hw, hq => by
  obtain ⟨l, f, d⟩ := unl_some k (by omega : unl L k ≠ 0)
  rw [show m + 1 + fuel = m + fuel + 1 by omega]
  refine ⟨fun he => ?_, fun i hi => ?_⟩
  ·obtain ⟨j, _, hj⟩ := preE_ready h hI l f d
   rw [he] at hj; cases hj
  ·have hik := preE_low h hI hA hk f d hi
   have c := hq.2 i ((ready_take hI hk hik).1 hi)
   obtain ⟨o, ho, _, hg⟩ := preE_back h hik
   have hs : i < L.size := by rw [hI.size]; omega
   have hun := (mem_ready.1 hi).1
   have hset := unl_set hs hun k hik
   have g : qOp P ops C i (wpAnyQ P .any (ops.toList.take k).toArray C K m (L.setIfInBounds i true)) b := by
    unfold qOp at c ⊢
    rw [take_atE hik, ho] at c
    rw [ho]
    simp only at c ⊢
    rw [wanted_take hg] at c
    exact c
   exact opIn_quiet hd hw (fun a' w' hw' hK => pre_anyE h hk hd H m _ a' w' (hI.set hik hi) (fun q hq => by rw [getD_set_ne true (fun e => by subst e; rw [hA _ hq] at hun; cases hun)]; exact hA q hq) (by omega) hw' hK) g
theorem getD_preL {a N i : Nat} (hi : i < N) : (preL a N).getD i true = decide (i < a) := by simp [preL, hi]
theorem unl_preL {a N : Nat} : ∀ k, k ≤ N → a ≤ k → unl (preL a N) k = k - a
 | 0, _, h => by unfold unl; omega
 | k + 1, hk, ha => by
  unfold unl
  rw [getD_preL (by omega)]
  rcases Nat.lt_or_ge k a with h | h
  ·obtain rfl : a = k + 1 := by omega
   have : ∀ m, m ≤ k → unl (preL (k + 1) N) m = 0 := by
    intro m
    induction m with
    | zero => intro _; rfl
    | succ m ih => intro hm; unfold unl; rw [getD_preL (by omega), ih (by omega)]; simp; omega
   rw [this k (Nat.le_refl _)]; simp
  ·rw [unl_preL k (by omega) h]; simp [Nat.not_lt.2 h]; omega
end
section
variable {P : Program} {n : Nat} {Q : Post} {s : Fm} {w : World}
theorem I_pre {l : List Oper} {L : Array Bool} {fuel : Nat} (a k N m : Nat) (hN : Nat.beq l.length N = true) (hL : preL a N = L) (hf : Nat.beq (k - a + m) fuel = true) (hak : Nat.ble a k = true) (hd : noDefers l.toArray = true) (hp : preOkE l.toArray a k = true)
  (hs : Region.noSelect (l.take k).toArray = true) (hB : Region.lexFrom .any (l.take k).toArray (k - a) a L = true) (hk : Nat.beq (k + m) N = true)
  (h : Lq P n (l.take k).toArray w (fun s' => ∀ w', Below w.heap.size w w' → Li P n l.toArray Q m (preL k N) s' w') ((l.take k).drop a) s) : Li P n l.toArray Q fuel L s w := by
 obtain rfl := Nat.eq_of_beq_eq_true hN
 obtain rfl := Nat.eq_of_beq_eq_true hf
 subst hL
 have hk := Nat.eq_of_beq_eq_true hk
 have hak := Nat.le_of_ble_eq_true hak
 have hl : (l.take k).length = k := by rw [List.length_take]; omega
 have c : ((l.take k).drop a).length = k - a := by rw [List.length_drop, hl]
 have hI : PreI l.toArray k (preL a l.length) := by
  refine ⟨by simp [preL], fun j hj hs => by rw [getD_preL (by simpa using hs)]; exact decide_eq_false (by omega), fun i o hi ho hl e he hb => ?_⟩
  have his : i < l.length := by have := (Array.getElem?_eq_some_iff.1 ho).1; simpa using this
  rw [getD_preL his] at hl
  obtain ⟨u, b, f, _⟩ := preE_back hp hi
  rw [ho] at b; cases b
  have t := f e he hb
  have r := of_decide_eq_true hl
  rw [getD_tf (by simp [preL]; omega), getD_preL (by omega)]
  exact decide_eq_true (by omega)
 have key := pre_anyE (P := P) (Q' := upQ n Q) (C := fun w' => Below w.heap.size w w') (K := fun a => ∃ s, a = Fm.act n s ∧ ∀ w', Below w.heap.size w w' → Li P n l.toArray Q m (preL k l.length) s w') (fuel := m) hp (by simp; omega) hd (by
  rintro a p d ⟨q, rfl, hK⟩
  have := hK p d
  unfold Li at this
  simpa using this) (k - a) (preL a l.length) (s.act n) w hI (fun i hi => by rw [getD_preL (by omega)]; exact decide_eq_true hi) (unl_preL k (by omega) hak) (Below.refl _ _) ?_
 ·unfold Li
  exact key
 ·unfold Lq at h
  have g := wpAnyQ_lex (md := .any) hs ((l.take k).drop a) a (preL a l.length) (s.act n) (fun j => by rw [List.getElem?_drop]; simp) (by rw [c]; exact hB) h
  rw [c] at g
  simpa using g
end
theorem flat_drop {α : Type} {enc : α → List Value} {k : Nat} (hk : ∀ x, (enc x).length = k) : ∀ (m : Nat) (xs : List α), (xs.drop m).flatMap enc = (xs.flatMap enc).drop (m * k)
 | 0, xs => by simp
 | m + 1, [] => by simp
 | m + 1, x :: xs => by
  rw [List.drop_succ_cons, flat_drop hk m xs, List.flatMap_cons, Nat.succ_mul, Nat.add_comm (m * k) k, ← List.drop_drop]
  congr 1
  rw [← hk x, List.drop_left]
section
variable {r : Option Nat} {P : Program} {n : Nat} {ops : Array Oper} {Q : Post} {rest : List Oper} {s : Fm} {w : World} {d : Option Tmp} {ty : TypeId} {pos : String} {af : Array Edge}
theorem L_slfromV {α : Type} {X lo : Operand} {T E k bytes B : Nat} {enc : α → List Value} (he : Elem P T E k bytes) (v : Value) (xs : List α) (m : Nat) (hrow : Row w B E k enc v xs) (hk : ∀ x, (enc x).length = k) (hm : m ≤ xs.length)
  (hX : s.ev n X = v) (hlo : ∃ kk, s.ev n lo = .int kk m)
  (h : ∀ v', Rd w enc v' (xs.drop m) → L r P n ops Q rest (s.put d v') w) : L r P n ops Q (⟨d, .slice T X (some lo) none none, ty, pos, af, none⟩ :: rest) s w := by
 refine L_slfrom he v xs.length m hrow.shape hm hX hlo fun v' ht => h v' ?_
 have hl : (xs.drop m).length = xs.length - m := List.length_drop
 obtain ⟨a, c, hv, hr⟩ := hrow.rd
 rcases ht with ⟨q, e, i⟩ | ⟨g, cap, e, i⟩
 ·exact ⟨none, 0, by rw [i, hl, q]; simp, .inl (by omega)⟩
 ·refine ⟨_, _, by rw [i, hl], ?_⟩
  rcases Nat.eq_zero_or_pos (xs.length - m) with p | p
  ·left; omega
  ·right
   have hc : cap ≠ m := by
    rcases hrow.shape with ⟨b, f⟩ | ⟨o, l, b, f⟩
    ·omega
    ·rw [e] at b; cases b; omega
   rw [if_neg hc]
   rcases hr with hr | ⟨o, off, b, f⟩
   ·omega
   ·rw [e] at hv
    injection hv with h8 h9 h10
    rw [b] at h8
    injection h8 with h8
    injection h8 with h11 h12
    subst h11 h12
    refine ⟨g, m * k, rfl, fun j u hu => ?_⟩
    rw [flat_drop hk, List.getElem?_drop] at hu
    have := f _ u hu
    rw [Nat.zero_add] at this; exact this
end
end Go.FK
end
