/- Joined by my program pack2.py out of my own texts: Wllines Wlscan Wlread Wccor FKad FKae WcmI. -/
import Derived.Test.YtkclikfejmeblaaGreatDoorProg
import Derived.Tactics2
import Derived.Laws.CopyRow
import Derived.Lib.Overlaps
import Derived.Lib.AppendZerosOnto
import Derived.Test.YtkclikfejmeblaaGreatDoorR1
import Derived.Test.YtkclikfejmeblaaGreatDoorR2
set_option linter.unusedVariables false
set_option linter.unusedSimpArgs false
/- === Wllines === -/
section
/- Walks, written by my program walk.py out of the specification llines.py: each theorem says what one function returns and that it leaves memory as it was. -/
namespace Go.Proofs.YtkclikfejmeblaaGreatDoor
open Go Go.RowKit Go.FK _root_.Go.Proofs.Tryz
set_option maxHeartbeats 4000000
set_option maxRecDepth 100000
theorem el70 : Elem Tryz.prog 70 9 1 16 := ⟨underlying70, zk, rfl⟩
theorem el161 : Elem Tryz.prog 161 164 3 24 := ⟨underlying161, zk, rfl⟩
theorem el58 : Elem Tryz.prog 58 72 5 72 := ⟨underlying58, zk, rfl⟩
theorem vE (s : List UInt8) (c : Int) (w : World) :
  Calls Tryz.prog 127 #[(S s), (U8 c)] w (Ret fun v w' => v = (I6 (ibF s c)) ∧ Below w.heap.size w w') :=
 indexByte_contract Tryz.strings_IndexByte s c w
theorem wS (s : List UInt8) (p : List UInt8) (w : World) :
  Calls Tryz.prog 96 #[(S s), (S p)] w (Ret fun v w' => v = (.bool (hpB s p)) ∧ Below w.heap.size w w') :=
 hasPrefix_contract Tryz.strings_HasPrefix s p w
theorem c_stringslite_Index (s : List UInt8) (sep : List UInt8) (w : World) (h1 : sep.length = 1) :
  Calls Tryz.prog 144 #[(S s), (S sep)] w (Ret fun v w' => v = (I6 (Lib.index s sep)) ∧ Below w.heap.size w w') :=
 index1_contract Tryz.stringslite_Index_one s sep w h1
theorem c_stringslite_Cut (s : List UInt8) (sep : List UInt8) (w : World) (h1 : sep.length = 1) (hs : s.length ≤ 1073741824) :
  Calls Tryz.prog 129 #[(S s), (S sep)] w (Ret fun v w' => v = (.tuple #[(S ((Lib.cut s sep).1)), (S ((Lib.cut s sep).2.1)), (.bool ((Lib.cut s sep).2.2))]) ∧ Below w.heap.size w w') := by
 refine wJ 23 func129 rfl ?_
 have a := Below.refl w.heap.size w
 refine wR (zH (zH (zH (nW (wR (zD (zD (zc (c_stringslite_Index s sep _ zo) ?_))))))))
 rintro _ d ⟨rfl, b⟩
 have := ixl_range s sep
 refine zH (nR (zD (zGe .i64 (Lib.index s sep) 0 ?_ ?_)))
 ·intro e
  refine nQ (zT (yA (xX zk zk (zV (zV (Lq_ssto s (((Lib.index s sep)).toNat) underlying9 zk (vR (Lib.index s sep) .i64 zk zo) zo (zV (zV (zV (Lq_slen 9 sep rfl underlying9 zk (qP (Lib.index s sep) (((sep).length : Nat) : Int) ((Lib.index s sep) + (((sep).length : Nat) : Int)) rfl zk zk (yK _ zh zh) (Lq_ssfrom s ((((Lib.index s sep) + (((sep).length : Nat) : Int))).toNat) underlying9 zk (vR ((Lib.index s sep) + (((sep).length : Nat) : Int)) .i64 zk zo) zo (qZ (qZ (qZ (yQ ?_))))))))))))))))
  intro g c
  have a := (a.tr b).tr c
  exact zB (zR (zG (zZ [(S (List.take (((Lib.index s sep)).toNat) s)), (S (List.drop ((((Lib.index s sep) + (((sep).length : Nat) : Int))).toNat) s)), (.bool true)] ⟨Zj (congrArg S (by (rw [cut_some zo]; done))) (congrArg S (by (rw [cut_some zo]; done))) (eb (by (rw [cut_some zo]; done))), a⟩)))
 intro f
 have a := a.tr b
 exact nQ (zF (zK (zB (wR (zD (zH (zH (zH (nQ (zR (zZ [(S s), (S []), (.bool false)] ⟨Zj (congrArg S (by (rw [cut_none zo]; done))) (congrArg S (by (rw [cut_none zo]; done))) (eb (by (rw [cut_none zo]; done))), a⟩)))))))))))
theorem c_strings_Cut (s : List UInt8) (sep : List UInt8) (w : World) (h1 : sep.length = 1) (hs : s.length ≤ 1073741824) :
  Calls Tryz.prog 94 #[(S s), (S sep)] w (Ret fun v w' => v = (.tuple #[(S ((Lib.cut s sep).1)), (S ((Lib.cut s sep).2.1)), (.bool ((Lib.cut s sep).2.2))]) ∧ Below w.heap.size w w') := by
 refine wJ 13 func94 rfl ?_
 have b := Below.refl w.heap.size w
 refine wR (zH (zH (zH (nR (zD (zD (zc (c_stringslite_Cut s sep _ zo zo) ?_)))))))
 rintro _ c ⟨rfl, a⟩
 have := vO s sep
 have b := b.tr a
 exact zr (S ((Lib.cut s sep).1)) (zr (S ((Lib.cut s sep).2.1)) (zr (.bool ((Lib.cut s sep).2.2)) (zH (zH (zH (nQ (zR (zZ [(S ((Lib.cut s sep).1)), (S ((Lib.cut s sep).2.1)), (.bool ((Lib.cut s sep).2.2))] ⟨rfl, b⟩))))))))
theorem c_strings_Trim (s : List UInt8) (c : List UInt8) (w : World) (ha : c.all (fun b => decide (b.toNat < 128)) = true) (hs : s.length ≤ 1073741824) (hc : c.length ≤ 1073741824) :
  Calls Tryz.prog 130 #[(S s), (S c)] w (Ret fun v w' => v = (S (Lib.trimS s c)) ∧ Below w.heap.size w w') :=
 trim_contract (fun s c w hs hcs ha => Go.Proofs.Any.strings_Trim_laid Tryz.lays160 zk s c w hs hcs ha) s c w ha hs hc
theorem uI (s : List UInt8) (w : World) (hs : s.length ≤ 1073741824) :
  Calls Tryz.prog 95 #[(S s)] w (Ret fun v w' => v = (S (trmF s)) ∧ Below w.heap.size w w') := by
 refine wJ 5 func95 rfl ?_
 have b := Below.refl w.heap.size w
 refine wR (zH (nR (zD (zc (c_strings_Trim s ([32, 9] : List UInt8) _ (by decide) (by first | omega | decide) (by first | omega | decide)) ?_))))
 rintro _ c ⟨rfl, a⟩
 have b := b.tr a
 exact zH (nQ (zR (zZ [(S (Lib.trimS s ([32, 9] : List UInt8)))] ⟨congrArg S (by rfl), b⟩)))
theorem c_lines_wrong (s : List UInt8) (p : Nat) (r : Int) (w : World) (hp : p ≤ s.length) :
  Calls Tryz.prog 128 #[(S s), (N6 p), (I3 r)] w (Ret fun v w' => v = (.bool (wrongB s p r)) ∧ Below w.heap.size w w') := by
 refine wJ 18 func128 rfl ?_
 have a := Below.refl w.heap.size w
 refine wR (zH (nR (zD (qX .i32 r 65533 ?_ ?_))))
 ·intro g
  refine zD (zw (zD (zw (zD (zw (qH s p underlying9 zk ⟨.i64, zk⟩ zo (zw (zD (zw (L_runeStr r zk underlying21 underlying9 (zw (zc (wS (List.drop p s) (encL [r]) _ ) ?_))))))))))))
  rintro _ d ⟨rfl, b⟩
  refine yT (hpB (List.drop p s) (encL [r])) ?_ ?_
  ·intro f
   replace a := a.tr b
   exact zw (qO true (xJ (zH (nQ (zR (zZ [(.bool false)] ⟨eb (by (unfold wrongB; simp_all; done)), a⟩))))))
  intro c
  replace a := a.tr b
  exact zw (qO false (xJ (zH (nQ (zR (zZ [(.bool true)] ⟨eb (by (unfold wrongB; simp_all; done)), a⟩))))))
 intro e
 exact zD (zs (zs (zs (zs (zs (zs (zs (xF (zH (nQ (zR (zZ [(.bool false)] ⟨eb (by (simp [wrongB, *]; done)), a⟩))))))))))))
theorem c_lines_Check (s : List UInt8) (w : World) (hs : s.length ≤ 1073741824) :
  Calls Tryz.prog 92 #[(S s)] w (Ret fun v w' => v = (.tuple #[(N6 ((chkF s).1)), (I6 ((chkF s).2))]) ∧ Below w.heap.size w w') := by
 refine wJ 35 func92 rfl ?_
 have g := Below.refl w.heap.size w
 refine wR (zH (zH (nR (zH (nW (wR (zD (L_range s underlying9 zk ?_))))))))
 intro r w2 o
 have e := o.ge g.size
 have c := o.here
 refine nQ (zW ?_)
 have g := g.tr o.below
 refine xA (fun m s0 w0 => ∃ (pos : Nat) (n : Nat), (m = s.length - pos) ∧ (s0.ds = []) ∧ ([0, 8, 4].map s0.f = [(S s), (pt r 0), (N6 n)]) ∧ (w0.heap[r]? = some (.stringIter ⟨(s).toArray⟩ pos)) ∧ (Below w.heap.size w w0) ∧ (pos ≤ s.length) ∧ (n ≤ pos) ∧ (n ≤ 4096) ∧ (chkL (charsFrom s pos) n = chkF s)) _ ⟨0, 0, rfl, zk, zk, c, g, by omega, by omega, by omega, rfl⟩ ?_
 rintro m4 s5 w6 ⟨pos, n, hm, j, t, c, g, i1, i2, i4, k⟩
 refine yX t (wR ?_)
 rcases Nat.lt_or_ge pos (s).length with a | l
 ·refine L_next s r pos zk c a ?_
  intro d w7 b i
  have c := i.here
  have := dec_pos s pos; have := dec_fits s pos a; have := dec_le s pos
  have p : 0 ≤ d := by omega
  have q : d ≤ 2147483647 := by omega
  refine zr (.bool true) (nW (zT (zK (zB (zW (wR (zr (N6 pos) (zr (I3 d) (zH (zH (nW (zW (wR (zD (nEq n 4096 ?_ ?_)))))))))))))))
  ·intro h9
   have g := g.trans (i.below e)
   exact zH (nQ (zT (wR (zD (zH (zH (nQ (zR (zL (zG (zL (zG (zL (zG (zZ [(N6 n), (I6 32)] (hd := j) ⟨yV (congrArg (fun x : Nat => Value.int .i64 (x : Int)) (by (rw [← k, (by assumption : n = 4096), chk_wide a]; done))) (e6 (by (rw [← k, (by assumption : n = 4096), chk_wide a]; done))), g⟩)))))))))))))))
  intro ah
  refine zH (nQ (zF (wR (zD (zD (zD (zc (c_lines_wrong s pos d _ zo) ?_)))))))
  rintro _ ad ⟨rfl, h⟩
  refine yT (wrongB s pos d) ?_ ?_
  ·intro ai
   have g := (g.trans (i.below e)).tr h
   exact zH (nQ (zT (wR (zD (zH (zH (nQ (zR (zL (zG (zL (zG (zL (zG (zZ [(N6 n), (I6 30)] (hd := j) ⟨yV (congrArg (fun x : Nat => Value.int .i64 (x : Int)) (by (rw [← k, chk_wrong (n := n) a zo (by rw [← b]; assumption)]; done))) (e6 (by (rw [← k, chk_wrong (n := n) a zo (by rw [← b]; assumption)]; done))), g⟩)))))))))))))))
  intro z
  refine zH (nQ (zF (yA (wR (zD (zLt .i32 d 32 ?_ ?_))))))
  ·intro ae
   refine zD (zw (zD (zw (zNe .i32 d 9 ?_ ?_))))
   ·intro ab
    have g := (g.trans (i.below e)).tr h
    exact xJ (zH (nQ (zT (zK (zB (zT (wR (zD (zH (zH (nQ (zR (zL (zG (zL (zG (zL (zG (zZ [(N6 n), (I6 31)] (hd := j) ⟨yV (congrArg (fun x : Nat => Value.int .i64 (x : Int)) (by (rw [← k, chk_ctl (n := n) a zo (by rw [← b]; assumption) zo]; done))) (e6 (by (rw [← k, chk_ctl (n := n) a zo (by rw [← b]; assumption) zo]; done))), g⟩)))))))))))))))))))
   intro ac
   refine xJ (zH (nQ (zF (zP (zD (qX .i32 d 127 ?_ ?_))))))
   ·intro u
    have g := (g.trans (i.below e)).tr h
    exact zH (nQ (zT (wR (zD (zH (zH (nQ (zR (zL (zG (zL (zG (zL (zG (zZ [(N6 n), (I6 31)] (hd := j) ⟨yV (congrArg (fun x : Nat => Value.int .i64 (x : Int)) (by (rw [← k, chk_ctl (n := n) a zo (by rw [← b]; assumption) zo]; done))) (e6 (by (rw [← k, chk_ctl (n := n) a zo (by rw [← b]; assumption) zo]; done))), g⟩)))))))))))))))
   intro y
   refine zH (nQ (zF (zK (zJ (zB (zP (zD (xN n 1 (zH (zQ (zJ ?_)))))))))))
   have g := (g.trans (i.below e)).tr h
   have c := zC c h
   refine zB ⟨_, zo, (pos + (dec s pos).2), (n + 1), rfl, j, zk, c, g, zo, zo, zo, ?_⟩
   rw [← chk_on (n := n) a zo (by rw [← b]; assumption) zo]; exact k
  intro af
  refine zD (zs (zs (xF (zH (nQ (zF (zP (zD (qX .i32 d 127 ?_ ?_)))))))))
  ·intro ag
   have g := (g.trans (i.below e)).tr h
   exact zH (nQ (zT (wR (zD (zH (zH (nQ (zR (zL (zG (zL (zG (zL (zG (zZ [(N6 n), (I6 31)] (hd := j) ⟨yV (congrArg (fun x : Nat => Value.int .i64 (x : Int)) (by (rw [← k, chk_ctl (n := n) a zo (by rw [← b]; assumption) zo]; done))) (e6 (by (rw [← k, chk_ctl (n := n) a zo (by rw [← b]; assumption) zo]; done))), g⟩)))))))))))))))
  intro aa
  refine zH (nQ (zF (zK (zJ (zB (zP (zD (xN n 1 (zH (zQ (zJ ?_)))))))))))
  have g := (g.trans (i.below e)).tr h
  have c := zC c h
  refine zB ⟨_, zo, (pos + (dec s pos).2), (n + 1), rfl, j, zk, c, g, zo, zo, zo, ?_⟩
  rw [← chk_on (n := n) a zo (by rw [← b]; assumption) zo]; exact k
 exact L_nextEnd s r pos zk c l (zr (.bool false) (nW (zF (yU (zS (zS (yF (zB (wR (zH (zH (nQ (zR (zZ [(I6 0), (I6 0)] (hd := j) ⟨yV (congrArg (fun x : Nat => Value.int .i64 (x : Int)) (by (rw [← k, chk_end zo]; done))) (e6 (by (rw [← k, chk_end zo]; done))), g⟩))))))))))))))
theorem c_lines_fields (s : List UInt8) (w : World) (hs : s.length ≤ 1073741824) :
  Calls Tryz.prog 98 #[(S s)] w (Ret fun v w' => ∃ (q0 : Value), v = q0 ∧ Row w' w.heap.size 9 1 encStr q0 (fieldsF s) ∧ Below w.heap.size w w') := by
 refine wJ 37 func98 rfl ?_
 have g := Below.refl w.heap.size w
 refine wR (zH (nQ (W_scope (fun l m s0 w0 => (l = 1 ∧ ∃ (b : List (List UInt8)) (h : Nat) (a : Nat) (e : Value), (m = 3 * (s.length - a) + 2) ∧ (s0.ds = []) ∧ ([0, 3, 4, 5].map s0.f = [(S s), e, (N6 h), (N6 a)]) ∧ (Row w0 w.heap.size 9 1 encStr e b) ∧ (Below w.heap.size w w0) ∧ (h ≤ a) ∧ (a ≤ s.length) ∧ (noB 59 s h a) ∧ (b ++ (splF 59 (s.drop h)).map trmF = (splF 59 s).map trmF) ∧ (trmF s ≠ []) ∧ (b.length ≤ a)) ∨ (l = 2 ∧ ∃ (b : List (List UInt8)) (h : Nat) (a : Nat) (e : Value), (m = 3 * (s.length - a) + 1) ∧ (s0.ds = []) ∧ ([0, 3, 4, 5].map s0.f = [(S s), e, (N6 h), (N6 a)]) ∧ (Row w0 w.heap.size 9 1 encStr e b) ∧ (Below w.heap.size w w0) ∧ (h ≤ a) ∧ (a ≤ s.length) ∧ (noB 59 s h a) ∧ (b ++ (splF 59 (s.drop h)).map trmF = (splF 59 s).map trmF) ∧ (trmF s ≠ []) ∧ (b.length ≤ a) ∧ (∃ c : UInt8, s[a]? = some c ∧ c.toNat = 59) ∧ (a < s.length)) ∨ (l = 0 ∧ ∃ (b : List (List UInt8)) (h : Nat) (a : Nat) (e : Value), (m = 0) ∧ (s0.ds = []) ∧ ([0, 3, 4, 5].map s0.f = [(S s), e, (N6 h), (N6 a)]) ∧ (Row w0 w.heap.size 9 1 encStr e b) ∧ (Below w.heap.size w w0) ∧ (h ≤ a) ∧ (a ≤ s.length) ∧ (noB 59 s h a) ∧ (b ++ (splF 59 (s.drop h)).map trmF = (splF 59 s).map trmF) ∧ (trmF s ≠ []) ∧ (b.length ≤ a) ∧ (a = s.length))) ?_ ?_)))
 ·refine wR (zH (nR (zH (zH (nW (wR (zD (zc (uI s _ zo) ?_))))))))
  rintro _ w1 ⟨rfl, p⟩
  have := vK s
  refine L_seq (trmF s) ([] : List UInt8) rfl zk zk ?_ ?_
  ·intro h4
   have g := g.tr p
   exact nQ (zT (wR (zH (nQ (zR (zG (jmpQ_ret (zZ [(.slice none 0 0)] ⟨(.slice none 0 0), rfl, (Row.nil _ _ _ _ _).cast (by exact (fields_nil za).symm), g⟩))))))))
  intro h5
  refine nQ (zF (zK (zB (yA (W_label (zB (yA (wR (zD (zD (zsl 9 s (nEq 0 ((s).length) ?_ ?_))))))))))))
  ·intro h6
   refine nQ (zT (W_goto (Zb (jmpQ_goto ?_))))
   have g := g.tr p
   refine ⟨_, Or.inr (Or.inr (⟨rfl, [], 0, 0, (.slice none 0 0), rfl, rfl, zk, Row.nil _ _ _ _ _, g, zo, zo, ?_, ?_, ?_, ?_, zo⟩))⟩
   ·exact noB_zero _ _ _
   ·rfl
   ·first | assumption | exact o
   (simp only [List.length_append, List.length_cons, List.length_nil]; omega)
  intro h7
  refine nQ (zF (zK (zB (yA (wR (zD (zD ?_)))))))
  have hz := zX s 0 zo; obtain ⟨t, ai⟩ := hz
  have := t.toNat_lt
  refine xL (k := .i64) s 0 t underlying9 ai zk zk (xG .u8 ((t.toNat : Nat) : Int) ((59 : Nat) : Int) (t.toNat = 59) rfl (xI t.toNat 59) zk zk ?_ ?_)
  ·intro ao
   replace ao : t.toNat = 59 := by omega
   refine nQ (zT (W_goto (Zb (jmpQ_goto ?_))))
   have g := g.tr p
   refine ⟨_, Or.inr (Or.inl (⟨rfl, [], 0, 0, (.slice none 0 0), rfl, rfl, zk, Row.nil _ _ _ _ _, g, zo, zo, ?_, ?_, ?_, ?_, ?_, zo⟩))⟩
   ·exact noB_zero _ _ _
   ·rfl
   ·first | assumption | exact o
   ·(simp only [List.length_append, List.length_cons, List.length_nil]; omega)
   exact ⟨_, by assumption, by assumption⟩
  intro ap
  replace ap : t.toNat ≠ 59 := by omega
  refine nQ (zF (zK (zB (wR (zD (xN 0 1 (zH (nW (W_goto (Zb (jmpQ_goto ?_)))))))))))
  have g := g.tr p
  refine ⟨_, Or.inl (⟨rfl, [], 0, 1, (.slice none 0 0), rfl, rfl, zk, Row.nil _ _ _ _ _, g, zo, zo, ?_, ?_, ?_, ?_⟩)⟩
  ·exact noB_succ (noB_zero _ _ _) za za
  ·rfl
  ·first | assumption | exact o
  (simp only [List.length_append, List.length_cons, List.length_nil]; omega)
 rintro l ax a3 ay (⟨rfl, b, h, a, e, hm, i, n, d, g, i0, i1, i2, i3, o, i5⟩ | ⟨rfl, b, h, a, e, hm, i, n, d, g, i0, i1, i2, i3, o, i5, i6, i7⟩ | ⟨rfl, b, h, a, e, hm, i, n, d, g, i0, i1, i2, i3, o, i5, i6⟩)
 ·skip
  refine ⟨_, rfl, yX n (yA (zK (zB (yA (wR (zD (zD (zsl 9 s (nEq a ((s).length) ?_ ?_)))))))))⟩
  ·intro az
   refine nQ (zT (W_goto (Zb (jmpQ_goto ?_))))
   refine ⟨_, zo, Or.inr (Or.inr (⟨rfl, b, h, a, e, rfl, i, zk, d, g, zo, zo, ?_, ?_, ?_, zo, zo⟩))⟩
   ·assumption
   ·assumption
   first | assumption | exact o
  intro a2
  refine nQ (zF (zK (zB (yA (wR (zD (zD ?_)))))))
  have hz := zX s a zo; obtain ⟨j, z⟩ := hz
  have := j.toNat_lt
  refine xL (k := .i64) s a j underlying9 z zk zk (xG .u8 ((j.toNat : Nat) : Int) ((59 : Nat) : Int) (j.toNat = 59) rfl (xI j.toNat 59) zk zk ?_ ?_)
  ·intro af
   replace af : j.toNat = 59 := by omega
   refine nQ (zT (W_goto (Zb (jmpQ_goto ?_))))
   refine ⟨_, zo, Or.inr (Or.inl (⟨rfl, b, h, a, e, rfl, i, zk, d, g, zo, zo, ?_, ?_, ?_, zo, ?_, zo⟩))⟩
   ·assumption
   ·assumption
   ·first | assumption | exact o
   exact ⟨_, by assumption, by assumption⟩
  intro ah
  replace ah : j.toNat ≠ 59 := by omega
  refine nQ (zF (zK (zB (wR (zD (xN a 1 (zH (nW (W_goto (Zb (jmpQ_goto ?_)))))))))))
  refine ⟨_, zo, Or.inl (⟨rfl, b, h, (a + 1), e, rfl, i, zk, d, g, zo, zo, ?_, ?_, ?_, zo⟩)⟩
  ·exact noB_succ i2 za za
  ·assumption
  first | assumption | exact o
 ·skip
  refine ⟨_, rfl, yX n ?_⟩
  obtain ⟨c0, al, aq⟩ := i6
  refine yA (zK (zB (wR (zD (zD (zD (zD (L_sslice s h a underlying9 zk ⟨.i64, zk⟩ ⟨.i64, zk⟩ zo zo (zc (uI (List.drop h (List.take a s)) _ (by (simp only [List.length_drop, List.length_take]; omega))) ?_)))))))))
  rintro _ a5 ⟨rfl, r⟩
  have := vK (List.drop h (List.take a s))
  have g := g.tr r
  have d := d.below r
  refine wH el70 w.heap.size e b (trmF (List.drop h (List.take a s))) g.size d zo zk rfl rfl zk rfl zk zk ?_
  intro an a4 y u aj
  have g := g.tg g.size u d
  have d := y
  refine zH (nR (zD (xN a 1 (zH (nR (zD (zH (nW (W_goto (Zb (jmpQ_goto ?_)))))))))))
  refine ⟨_, zo, Or.inl (⟨rfl, (b ++ [(trmF (List.drop h (List.take a s)))]), (a + 1), (a + 1), an, rfl, i, zk, d, g, zo, zo, ?_, ?_, ?_, ?_⟩)⟩
  ·exact noB_zero _ _ _
  ·exact fld_hit i2 i0 al aq i3
  ·first | assumption | exact o
  (simp only [List.length_append, List.length_cons, List.length_nil]; omega)
 skip
 refine ⟨_, rfl, yX n (yA (zK (zB (wR (zD (zD (zD (qH s h underlying9 zk ⟨.i64, zk⟩ zo (zc (uI (List.drop h s) _ (by (simp only [List.length_drop, List.length_take]; omega))) ?_)))))))))⟩
 rintro _ a1 ⟨rfl, q⟩
 have := vK (List.drop h s)
 have g := g.tr q
 have d := d.below q
 refine wH el70 w.heap.size e b (trmF (List.drop h s)) g.size d zo zk rfl rfl zk rfl zk zk ?_
 intro ac a0 ab ad am
 have g := g.tg g.size ad d
 have d := ab
 exact zH (nQ (zR (jmpQ_ret (zZ [ac] (hd := i) ⟨ac, rfl, d.cast (by exact fld_end i2 zo i3 o), g⟩))))
theorem c_lines_Cut (s : List UInt8) (w : World) (hs : s.length ≤ 1073741824) :
  Calls Tryz.prog 93 #[(S s)] w (Ret fun v w' => ∃ (q0 : Value), v = (.tuple #[q0, (S ((cutF s).2))]) ∧ Row w' w.heap.size 9 1 encStr q0 ((cutF s).1) ∧ Below w.heap.size w w') := by
 refine wJ 17 func93 rfl ?_
 have b := Below.refl w.heap.size w
 refine wR (zH (zH (nR (zD (zc (c_strings_Cut s ([35] : List UInt8) _ (by first | omega | decide | rfl) (by first | omega | decide | rfl)) ?_)))))
 rintro _ g ⟨rfl, e⟩
 have := vO s ([35] : List UInt8)
 refine zD (zr (S ((Lib.cut s ([35] : List UInt8)).1)) (zr (S ((Lib.cut s ([35] : List UInt8)).2.1)) (zr (.bool ((Lib.cut s ([35] : List UInt8)).2.2)) (zH (zH (zH (nR (zD (zc (c_lines_fields ((Lib.cut s ([35] : List UInt8)).1) _ (by first | omega | decide | rfl)) ?_)))))))))
 rintro f i ⟨_, rfl, a, d⟩
 have b := b.tr e
 have a := a.base b.size
 refine zD (zc (uI ((Lib.cut s ([35] : List UInt8)).2.1) _ (by first | omega | decide | rfl)) ?_)
 rintro _ h ⟨rfl, c⟩
 have := vK ((Lib.cut s ([35] : List UInt8)).2.1)
 have b := (b.tr d).tr c
 have a := a.below c
 exact zH (zH (nQ (zR (zZ [f, (S (trmF ((Lib.cut s ([35] : List UInt8)).2.1)))] ⟨f, yV rfl (congrArg S (by rfl)), a.cast (by rfl), b⟩))))
theorem c_lines_named (s : List UInt8) (w : World) (hs : s.length ≤ 1073741824) :
  Calls Tryz.prog 97 #[(S s)] w (Ret fun v w' => v = (.bool (nameF s)) ∧ Below w.heap.size w w') := by
 refine wJ 35 func97 rfl ?_
 have e := Below.refl w.heap.size w
 refine wR (zH (nW (wR (zD (L_range s underlying9 zk ?_)))))
 intro p w2 k
 have c := k.ge e.size
 have d := k.here
 refine nQ (zW ?_)
 replace e := e.tr k.below
 refine xA (fun m s0 w0 => ∃ (pos : Nat), (m = s.length - pos) ∧ (s0.ds = []) ∧ ([0, 6].map s0.f = [(S s), (pt p 0)]) ∧ (w0.heap[p]? = some (.stringIter ⟨(s).toArray⟩ pos)) ∧ (Below w.heap.size w w0) ∧ (pos ≤ s.length) ∧ ((s.drop pos).all nmB = s.all nmB)) _ ⟨0, rfl, zk, zk, d, e, by omega, rfl⟩ ?_
 rintro m4 s5 w6 ⟨pos, hm, g, q, d, e, i1, i⟩
 refine yX q (wR ?_)
 rcases Nat.lt_or_ge pos (s).length with a | j
 ·refine L_next s p pos zk d a ?_
  intro b w7 o h
  replace d := h.here
  have := dec_pos s pos; have := dec_fits s pos a; have := dec_le s pos
  have n : 0 ≤ b := by omega
  have l : b ≤ 2147483647 := by omega
  refine zr (.bool true) (nW (zT (zK (zB (zW (wR (zr (I3 b) (zH (nQ (zW (yA (wR (zD (zGe .i32 b 65 ?_ ?_))))))))))))))
  ·intro h9
   refine zD (zw (zD (zw (zLe .i32 b 90 ?_ ?_))))
   ·intro bi
    refine xJ (zH (nQ (zT (zK (zB (zT (zK (zJ (zJ ?_)))))))))
    replace e := e.trans (h.below c)
    exact zB ⟨_, zo, (pos + (dec s pos).2), rfl, g, zk, d, e, zo, vZ a zo i⟩
   intro ah
   refine xJ (zH (nQ (zF (wR (zD (zGe .i32 b 97 ?_ ?_))))))
   ·intro bc
    refine zD (zw (zD (zw (zLe .i32 b 122 ?_ ?_))))
    ·intro br
     refine xJ (zH (nQ (zT (zK (zB (zT (zK (zJ (zJ ?_)))))))))
     replace e := e.trans (h.below c)
     exact zB ⟨_, zo, (pos + (dec s pos).2), rfl, g, zk, d, e, zo, vZ a zo i⟩
    intro af
    refine xJ (zH (nQ (zF (wR (zD (zGe .i32 b 48 ?_ ?_))))))
    ·intro bo
     refine zD (zw (zD (zw (zLe .i32 b 57 ?_ ?_))))
     ·intro ab
      refine xJ (zH (nQ (zT (zK (zB (zT (zK (zJ (zJ ?_)))))))))
      replace e := e.trans (h.below c)
      exact zB ⟨_, zo, (pos + (dec s pos).2), rfl, g, zk, d, e, zo, vZ a zo i⟩
     intro a9
     refine xJ (zH (nQ (zF (wR (zD (qX .i32 b 95 ?_ ?_))))))
     ·intro ap
      refine zH (nQ (zT (zK (zB (zT (zK (zJ (zJ ?_))))))))
      replace e := e.trans (h.below c)
      exact zB ⟨_, zo, (pos + (dec s pos).2), rfl, g, zk, d, e, zo, vZ a zo i⟩
     intro u
     refine zH (nQ (zF (zP (zD (qX .i32 b 45 ?_ ?_)))))
     ·intro a3
      refine zH (nQ (zT (zK (zJ (zJ ?_)))))
      replace e := e.trans (h.below c)
      exact zB ⟨_, zo, (pos + (dec s pos).2), rfl, g, zk, d, e, zo, vZ a zo i⟩
     intro ar
     replace e := e.trans (h.below c)
     exact zH (nQ (zF (wR (zH (nQ (zR (zL (zL (zG (zL (zG (zZ [(.bool false)] (hd := g) ⟨eb (by exact (nm_off a zo i).symm), e⟩))))))))))))
    intro bt
    refine zD (zs (zs (xF (zH (nQ (zF (wR (zD (qX .i32 b 95 ?_ ?_)))))))))
    ·intro ao
     refine zH (nQ (zT (zK (zB (zT (zK (zJ (zJ ?_))))))))
     replace e := e.trans (h.below c)
     exact zB ⟨_, zo, (pos + (dec s pos).2), rfl, g, zk, d, e, zo, vZ a zo i⟩
    intro bj
    refine zH (nQ (zF (zP (zD (qX .i32 b 45 ?_ ?_)))))
    ·intro a5
     refine zH (nQ (zT (zK (zJ (zJ ?_)))))
     replace e := e.trans (h.below c)
     exact zB ⟨_, zo, (pos + (dec s pos).2), rfl, g, zk, d, e, zo, vZ a zo i⟩
    intro av
    replace e := e.trans (h.below c)
    exact zH (nQ (zF (wR (zH (nQ (zR (zL (zL (zG (zL (zG (zZ [(.bool false)] (hd := g) ⟨eb (by exact (nm_off a zo i).symm), e⟩))))))))))))
   intro bn
   refine zD (zs (zs (xF (zH (nQ (zF (wR (zD (zGe .i32 b 48 ?_ ?_)))))))))
   ·intro a4
    refine zD (zw (zD (zw (zLe .i32 b 57 ?_ ?_))))
    ·intro an
     refine xJ (zH (nQ (zT (zK (zB (zT (zK (zJ (zJ ?_)))))))))
     replace e := e.trans (h.below c)
     exact zB ⟨_, zo, (pos + (dec s pos).2), rfl, g, zk, d, e, zo, vZ a zo i⟩
    intro am
    refine xJ (zH (nQ (zF (wR (zD (qX .i32 b 95 ?_ ?_))))))
    ·intro az
     refine zH (nQ (zT (zK (zB (zT (zK (zJ (zJ ?_))))))))
     replace e := e.trans (h.below c)
     exact zB ⟨_, zo, (pos + (dec s pos).2), rfl, g, zk, d, e, zo, vZ a zo i⟩
    intro ae
    refine zH (nQ (zF (zP (zD (qX .i32 b 45 ?_ ?_)))))
    ·intro bm
     refine zH (nQ (zT (zK (zJ (zJ ?_)))))
     replace e := e.trans (h.below c)
     exact zB ⟨_, zo, (pos + (dec s pos).2), rfl, g, zk, d, e, zo, vZ a zo i⟩
    intro a2
    replace e := e.trans (h.below c)
    exact zH (nQ (zF (wR (zH (nQ (zR (zL (zL (zG (zL (zG (zZ [(.bool false)] (hd := g) ⟨eb (by exact (nm_off a zo i).symm), e⟩))))))))))))
   intro a8
   refine zD (zs (zs (xF (zH (nQ (zF (wR (zD (qX .i32 b 95 ?_ ?_)))))))))
   ·intro ai
    refine zH (nQ (zT (zK (zB (zT (zK (zJ (zJ ?_))))))))
    replace e := e.trans (h.below c)
    exact zB ⟨_, zo, (pos + (dec s pos).2), rfl, g, zk, d, e, zo, vZ a zo i⟩
   intro ag
   refine zH (nQ (zF (zP (zD (qX .i32 b 45 ?_ ?_)))))
   ·intro ax
    refine zH (nQ (zT (zK (zJ (zJ ?_)))))
    replace e := e.trans (h.below c)
    exact zB ⟨_, zo, (pos + (dec s pos).2), rfl, g, zk, d, e, zo, vZ a zo i⟩
   intro bf
   replace e := e.trans (h.below c)
   exact zH (nQ (zF (wR (zH (nQ (zR (zL (zL (zG (zL (zG (zZ [(.bool false)] (hd := g) ⟨eb (by exact (nm_off a zo i).symm), e⟩))))))))))))
  intro aj
  refine zD (zs (zs (xF (zH (nQ (zF (wR (zD (zGe .i32 b 97 ?_ ?_)))))))))
  ·intro bp
   refine zD (zw (zD (zw (zLe .i32 b 122 ?_ ?_))))
   ·intro bg
    refine xJ (zH (nQ (zT (zK (zB (zT (zK (zJ (zJ ?_)))))))))
    replace e := e.trans (h.below c)
    exact zB ⟨_, zo, (pos + (dec s pos).2), rfl, g, zk, d, e, zo, vZ a zo i⟩
   intro bb
   refine xJ (zH (nQ (zF (wR (zD (zGe .i32 b 48 ?_ ?_))))))
   ·intro bs
    refine zD (zw (zD (zw (zLe .i32 b 57 ?_ ?_))))
    ·intro aa
     refine xJ (zH (nQ (zT (zK (zB (zT (zK (zJ (zJ ?_)))))))))
     replace e := e.trans (h.below c)
     exact zB ⟨_, zo, (pos + (dec s pos).2), rfl, g, zk, d, e, zo, vZ a zo i⟩
    intro bv
    refine xJ (zH (nQ (zF (wR (zD (qX .i32 b 95 ?_ ?_))))))
    ·intro al
     refine zH (nQ (zT (zK (zB (zT (zK (zJ (zJ ?_))))))))
     replace e := e.trans (h.below c)
     exact zB ⟨_, zo, (pos + (dec s pos).2), rfl, g, zk, d, e, zo, vZ a zo i⟩
    intro ak
    refine zH (nQ (zF (zP (zD (qX .i32 b 45 ?_ ?_)))))
    ·intro bq
     refine zH (nQ (zT (zK (zJ (zJ ?_)))))
     replace e := e.trans (h.below c)
     exact zB ⟨_, zo, (pos + (dec s pos).2), rfl, g, zk, d, e, zo, vZ a zo i⟩
    intro a1
    replace e := e.trans (h.below c)
    exact zH (nQ (zF (wR (zH (nQ (zR (zL (zL (zG (zL (zG (zZ [(.bool false)] (hd := g) ⟨eb (by exact (nm_off a zo i).symm), e⟩))))))))))))
   intro bd
   refine zD (zs (zs (xF (zH (nQ (zF (wR (zD (qX .i32 b 95 ?_ ?_)))))))))
   ·intro au
    refine zH (nQ (zT (zK (zB (zT (zK (zJ (zJ ?_))))))))
    replace e := e.trans (h.below c)
    exact zB ⟨_, zo, (pos + (dec s pos).2), rfl, g, zk, d, e, zo, vZ a zo i⟩
   intro a6
   refine zH (nQ (zF (zP (zD (qX .i32 b 45 ?_ ?_)))))
   ·intro bk
    refine zH (nQ (zT (zK (zJ (zJ ?_)))))
    replace e := e.trans (h.below c)
    exact zB ⟨_, zo, (pos + (dec s pos).2), rfl, g, zk, d, e, zo, vZ a zo i⟩
   intro ad
   replace e := e.trans (h.below c)
   exact zH (nQ (zF (wR (zH (nQ (zR (zL (zL (zG (zL (zG (zZ [(.bool false)] (hd := g) ⟨eb (by exact (nm_off a zo i).symm), e⟩))))))))))))
  intro be
  refine zD (zs (zs (xF (zH (nQ (zF (wR (zD (zGe .i32 b 48 ?_ ?_)))))))))
  ·intro bl
   refine zD (zw (zD (zw (zLe .i32 b 57 ?_ ?_))))
   ·intro a7
    refine xJ (zH (nQ (zT (zK (zB (zT (zK (zJ (zJ ?_)))))))))
    replace e := e.trans (h.below c)
    exact zB ⟨_, zo, (pos + (dec s pos).2), rfl, g, zk, d, e, zo, vZ a zo i⟩
   intro z
   refine xJ (zH (nQ (zF (wR (zD (qX .i32 b 95 ?_ ?_))))))
   ·intro y
    refine zH (nQ (zT (zK (zB (zT (zK (zJ (zJ ?_))))))))
    replace e := e.trans (h.below c)
    exact zB ⟨_, zo, (pos + (dec s pos).2), rfl, g, zk, d, e, zo, vZ a zo i⟩
   intro t
   refine zH (nQ (zF (zP (zD (qX .i32 b 45 ?_ ?_)))))
   ·intro a0
    refine zH (nQ (zT (zK (zJ (zJ ?_)))))
    replace e := e.trans (h.below c)
    exact zB ⟨_, zo, (pos + (dec s pos).2), rfl, g, zk, d, e, zo, vZ a zo i⟩
   intro ac
   replace e := e.trans (h.below c)
   exact zH (nQ (zF (wR (zH (nQ (zR (zL (zL (zG (zL (zG (zZ [(.bool false)] (hd := g) ⟨eb (by exact (nm_off a zo i).symm), e⟩))))))))))))
  intro ay
  refine zD (zs (zs (xF (zH (nQ (zF (wR (zD (qX .i32 b 95 ?_ ?_)))))))))
  ·intro aq
   refine zH (nQ (zT (zK (zB (zT (zK (zJ (zJ ?_))))))))
   replace e := e.trans (h.below c)
   exact zB ⟨_, zo, (pos + (dec s pos).2), rfl, g, zk, d, e, zo, vZ a zo i⟩
  intro ba
  refine zH (nQ (zF (zP (zD (qX .i32 b 45 ?_ ?_)))))
  ·intro bh
   refine zH (nQ (zT (zK (zJ (zJ ?_)))))
   replace e := e.trans (h.below c)
   exact zB ⟨_, zo, (pos + (dec s pos).2), rfl, g, zk, d, e, zo, vZ a zo i⟩
  intro bu
  replace e := e.trans (h.below c)
  exact zH (nQ (zF (wR (zH (nQ (zR (zL (zL (zG (zL (zG (zZ [(.bool false)] (hd := g) ⟨eb (by exact (nm_off a zo i).symm), e⟩))))))))))))
 refine L_nextEnd s p pos zk d j (zr (.bool false) (nW (zF (yU (zS (zS (yF (zB (wR (zD (L_sne s ([] : List UInt8) rfl zk zk ?_ ?_)))))))))))
 ·intro aw
  exact zH (nQ (zR (zZ [(.bool true)] (hd := g) ⟨eb (by (rw [nm_end zo i]; simp [*]; done)), e⟩)))
 intro r
 exact zH (nQ (zR (zZ [(.bool false)] (hd := g) ⟨eb (by (rw [nm_end zo i]; simp [*]; done)), e⟩)))
theorem c_lines_pieces (s : List UInt8) (w : World) (hs : s.length ≤ 1073741824) :
  Calls Tryz.prog 91 #[(S s)] w (Ret fun v w' => ∃ (q0 : Value), v = q0 ∧ Row w' w.heap.size 164 3 encPc q0 (pcsI s) ∧ Below w.heap.size w w') := by
 refine wJ 53 func91 rfl ?_
 have g := Below.refl w.heap.size w
 have br := mark_len s
 refine wR (zH (nR (zH (nR (zH (nW (wR (zD (zc (wS s ([239, 187, 191] : List UInt8) _ ) ?_)))))))))
 rintro _ w1 ⟨rfl, a4⟩
 refine yT (hpB s ([239, 187, 191] : List UInt8)) ?_ ?_
 ·intro h4
  have := hp_len h4; simp only [List.length_cons, List.length_nil] at this
  refine nQ (zT (zP (zH (nQ (zW ?_)))))
  replace g := g.tr a4
  refine xA (fun m s0 w0 => ∃ (a : Int) (h : List (Int × Int × Int)) (i : Value), (m = s.length - a.toNat) ∧ (s0.ds = []) ∧ ([0, 3, 4].map s0.f = [(S s), i, (I6 a)]) ∧ (Row w0 w.heap.size 164 3 encPc i h) ∧ (Below w.heap.size w w0) ∧ (0 ≤ a) ∧ (a ≤ s.length) ∧ (h.length ≤ a.toNat) ∧ (h ++ (pcsFrom s a.toNat a.toNat).map toI = pcsI s)) _ ⟨3, [], (.slice none 0 0), rfl, zk, zk, Row.nil _ _ _ _ _, g, by omega, by omega, zi, (by simp [pcsI, markN, markT, *])⟩ ?_
  rintro m5 s6 w7 ⟨a, h, i, hm, q, an, d, g, i1, i2, i4, i3⟩
  refine yX an ?_
  have ba : (List.drop a.toNat s).length = s.length - a.toNat := List.length_drop
  refine zW (wR (zD (zD (qH s ((a).toNat) underlying9 zk (vR a .i64 zk zo) zo (zc (vE (List.drop ((a).toNat) s) 10 _ ) ?_)))))
  rintro _ w8 ⟨rfl, aa⟩
  have := ib_range (List.drop ((a).toNat) s) 10
  refine zH (nW (wR (zD (zLt .i64 (ibF (List.drop ((a).toNat) s) 10) 0 ?_ ?_))))
  ·intro bu
   replace g := g.tr aa
   replace d := d.below aa
   refine nQ (zT (wR (zD (zD (zD (zsl 9 s (zD (zsl 9 s (zr (Value.agg #[(I6 a), (N6 ((s).length)), (N6 ((s).length))]) (wH el161 w.heap.size i h (a, (((s).length : Nat) : Int), (((s).length : Nat) : Int)) g.size d zo zk rfl rfl zk rfl zk zk ?_))))))))))
   intro ax b7 a6 ar bg
   replace g := g.tg g.size ar d
   replace d := a6
   exact zH (nQ (zR (zG (zL (zG (zL (zZ [ax] (hd := q) ⟨ax, rfl, d.cast (by exact pcsZ_end i1 i2 zo i3), g⟩)))))))
  intro ca
  refine nQ (zF (zK (zB (wR (zD (zD (zD (yY a (ibF (List.drop ((a).toNat) s) 10) (a + (ibF (List.drop ((a).toNat) s) 10)) rfl zk zk (yK _ zh zh) (zD (zD (yY a (ibF (List.drop ((a).toNat) s) 10) (a + (ibF (List.drop ((a).toNat) s) 10)) rfl zk zk (yK _ zh zh) (yY (a + (ibF (List.drop ((a).toNat) s) 10)) 1 ((a + (ibF (List.drop ((a).toNat) s) 10)) + 1) rfl zk zk (yK _ zh zh) (zr (Value.agg #[(I6 a), (I6 (a + (ibF (List.drop ((a).toNat) s) 10))), (I6 ((a + (ibF (List.drop ((a).toNat) s) 10)) + 1))]) (zN [(I6 0), (I6 0), (I6 0)] 164 ?_))))))))))))))
  intro a2 b0 j
  replace g := g.tr aa
  have n := j.ge g.size
  replace d := d.below aa
  have b := d.new_ne j
  have c := j.here
  refine qQ [(I6 a), (I6 (a + (ibF (List.drop ((a).toNat) s) 10))), (I6 ((a + (ibF (List.drop ((a).toNat) s) 10)) + 1))] c ?_
  intro ci p
  replace c := p.here
  refine nW (wR (zD (zGt .i64 (ibF (List.drop ((a).toNat) s) 10) 0 ?_ ?_)))
  ·intro b1
   refine zD (zw (zD (zw (zr (pt a2 1) (zw (zO 1 c rfl (zw (yY (a + (ibF (List.drop ((a).toNat) s) 10)) 1 ((a + (ibF (List.drop ((a).toNat) s) 10)) - 1) rfl zk zk (yK _ zh zh) (zw ?_)))))))))
   have hz := zX s (((a + (ibF (List.drop ((a).toNat) s) 10)) - 1).toNat) zo; obtain ⟨r, a0⟩ := hz
   have := r.toNat_lt
   refine L_sindexZ (k := .i64) s ((a + (ibF (List.drop ((a).toNat) s) 10)) - 1) (((a + (ibF (List.drop ((a).toNat) s) 10)) - 1).toNat) r zo underlying9 a0 zk zk (zw (xG .u8 ((r.toNat : Nat) : Int) ((13 : Nat) : Int) (r.toNat = 13) rfl (xI r.toNat 13) zk zk ?_ ?_))
   ·intro bd
    replace bd : r.toNat = 13 := by omega
    refine xJ (nQ (zT (zP (wB 1 c rfl (yY (a + (ibF (List.drop ((a).toNat) s) 10)) 1 ((a + (ibF (List.drop ((a).toNat) s) 10)) - 1) rfl zk zk (yK _ zh zh) (zr (pt a2 1) (z1 1 (I6 ((a + (ibF (List.drop ((a).toNat) s) 10)) - 1)) [(I6 a), (I6 ((a + (ibF (List.drop ((a).toNat) s) 10)) - 1)), (I6 ((a + (ibF (List.drop ((a).toNat) s) 10)) + 1))] c ?_)))))))
    intro b3 y
    replace c := y.here
    replace g := ((g.tr j.below).trans (p.below n)).trans (y.below n)
    replace d := ((d.below j.below).wrote p b).wrote y b
    refine nR (zD (vT c (wH el161 w.heap.size i h (a, ((a + (ibF (List.drop ((a).toNat) s) 10)) - 1), ((a + (ibF (List.drop ((a).toNat) s) 10)) + 1)) g.size d zo zk rfl rfl zk rfl zk zk ?_)))
    intro bb cg au ag ak
    have e := wZ ak b (yL c)
    replace g := g.tg g.size ag d
    replace c := zY c ag b
    have b := e
    replace d := au
    refine zH (nQ (zP (wB 2 c rfl (zH (zQ (zJ (zB ⟨_, zo, ((a + (ibF (List.drop ((a).toNat) s) 10)) + 1), (h ++ [(a, ((a + (ibF (List.drop ((a).toNat) s) 10)) - 1), ((a + (ibF (List.drop ((a).toNat) s) 10)) + 1))]), bb, rfl, q, zk, d, g, zo, zo, ?_, ?_⟩)))))))
    ·simp only [List.length_append, List.length_cons, List.length_nil]; omega
    exact pcsZ_step i1 rfl zo (.inl ⟨rfl, by omega, _, by assumption, by assumption⟩) i3
   intro be
   replace be : r.toNat ≠ 13 := by omega
   replace g := (g.tr j.below).trans (p.below n)
   replace d := (d.below j.below).wrote p b
   refine xJ (nQ (zF (zK (zB (wR (zD (vT c (wH el161 w.heap.size i h (a, (a + (ibF (List.drop ((a).toNat) s) 10)), ((a + (ibF (List.drop ((a).toNat) s) 10)) + 1)) g.size d zo zk rfl rfl zk rfl zk zk ?_))))))))
   intro bn ce a5 af al
   have e := wZ al b (yL c)
   replace g := g.tg g.size af d
   replace c := zY c af b
   have b := e
   replace d := a5
   refine zH (nQ (zP (wB 2 c rfl (zH (zQ (zJ (zB ⟨_, zo, ((a + (ibF (List.drop ((a).toNat) s) 10)) + 1), (h ++ [(a, (a + (ibF (List.drop ((a).toNat) s) 10)), ((a + (ibF (List.drop ((a).toNat) s) 10)) + 1))]), bn, rfl, q, zk, d, g, zo, zo, ?_, ?_⟩)))))))
   ·simp only [List.length_append, List.length_cons, List.length_nil]; omega
   exact pcsZ_step i1 rfl zo (.inr ⟨rfl, .inr ⟨_, by assumption, by assumption⟩⟩) i3
  intro bz
  replace g := (g.tr j.below).trans (p.below n)
  replace d := (d.below j.below).wrote p b
  refine zD (zs (zs (zs (zs (zs (zs (xF (nQ (zF (zK (zB (wR (zD (vT c (wH el161 w.heap.size i h (a, (a + (ibF (List.drop ((a).toNat) s) 10)), ((a + (ibF (List.drop ((a).toNat) s) 10)) + 1)) g.size d zo zk rfl rfl zk rfl zk zk ?_)))))))))))))))
  intro bk bp aq ae am
  have e := wZ am b (yL c)
  replace g := g.tg g.size ae d
  replace c := zY c ae b
  have b := e
  replace d := aq
  refine zH (nQ (zP (wB 2 c rfl (zH (zQ (zJ (zB ⟨_, zo, ((a + (ibF (List.drop ((a).toNat) s) 10)) + 1), (h ++ [(a, (a + (ibF (List.drop ((a).toNat) s) 10)), ((a + (ibF (List.drop ((a).toNat) s) 10)) + 1))]), bk, rfl, q, zk, d, g, zo, zo, ?_, ?_⟩)))))))
  ·simp only [List.length_append, List.length_cons, List.length_nil]; omega
  exact pcsZ_step i1 rfl zo (.inr ⟨rfl, .inl zo⟩) i3
 intro cj
 refine nQ (zF (zK (zB (zW ?_))))
 replace g := g.tr a4
 refine xA (fun m s0 w0 => ∃ (a : Int) (h : List (Int × Int × Int)) (i : Value), (m = s.length - a.toNat) ∧ (s0.ds = []) ∧ ([0, 3, 4].map s0.f = [(S s), i, (I6 a)]) ∧ (Row w0 w.heap.size 164 3 encPc i h) ∧ (Below w.heap.size w w0) ∧ (0 ≤ a) ∧ (a ≤ s.length) ∧ (h.length ≤ a.toNat) ∧ (h ++ (pcsFrom s a.toNat a.toNat).map toI = pcsI s)) _ ⟨0, [], (.slice none 0 0), rfl, zk, zk, Row.nil _ _ _ _ _, g, by omega, by omega, zi, (by simp [pcsI, markN, markT, *])⟩ ?_
 rintro bt cb b4 ⟨a, h, i, hm, q, an, d, g, i1, i2, i4, i3⟩
 refine yX an ?_
 have ba : (List.drop a.toNat s).length = s.length - a.toNat := List.length_drop
 refine zW (wR (zD (zD (qH s ((a).toNat) underlying9 zk (vR a .i64 zk zo) zo (zc (vE (List.drop ((a).toNat) s) 10 _ ) ?_)))))
 rintro _ b9 ⟨rfl, u⟩
 have := ib_range (List.drop ((a).toNat) s) 10
 refine zH (nW (wR (zD (zLt .i64 (ibF (List.drop ((a).toNat) s) 10) 0 ?_ ?_))))
 ·intro b8
  replace g := g.tr u
  replace d := d.below u
  refine nQ (zT (wR (zD (zD (zD (zsl 9 s (zD (zsl 9 s (zr (Value.agg #[(I6 a), (N6 ((s).length)), (N6 ((s).length))]) (wH el161 w.heap.size i h (a, (((s).length : Nat) : Int), (((s).length : Nat) : Int)) g.size d zo zk rfl rfl zk rfl zk zk ?_))))))))))
  intro a3 bv ay az bj
  replace g := g.tg g.size az d
  replace d := ay
  exact zH (nQ (zR (zG (zL (zG (zL (zZ [a3] (hd := q) ⟨a3, rfl, d.cast (by exact pcsZ_end i1 i2 zo i3), g⟩)))))))
 intro bq
 refine nQ (zF (zK (zB (wR (zD (zD (zD (yY a (ibF (List.drop ((a).toNat) s) 10) (a + (ibF (List.drop ((a).toNat) s) 10)) rfl zk zk (yK _ zh zh) (zD (zD (yY a (ibF (List.drop ((a).toNat) s) 10) (a + (ibF (List.drop ((a).toNat) s) 10)) rfl zk zk (yK _ zh zh) (yY (a + (ibF (List.drop ((a).toNat) s) 10)) 1 ((a + (ibF (List.drop ((a).toNat) s) 10)) + 1) rfl zk zk (yK _ zh zh) (zr (Value.agg #[(I6 a), (I6 (a + (ibF (List.drop ((a).toNat) s) 10))), (I6 ((a + (ibF (List.drop ((a).toNat) s) 10)) + 1))]) (zN [(I6 0), (I6 0), (I6 0)] 164 ?_))))))))))))))
 intro a8 cd l
 replace g := g.tr u
 have n := l.ge g.size
 replace d := d.below u
 have b := d.new_ne l
 have c := l.here
 refine qQ [(I6 a), (I6 (a + (ibF (List.drop ((a).toNat) s) 10))), (I6 ((a + (ibF (List.drop ((a).toNat) s) 10)) + 1))] c ?_
 intro bs o
 replace c := o.here
 refine nW (wR (zD (zGt .i64 (ibF (List.drop ((a).toNat) s) 10) 0 ?_ ?_)))
 ·intro b2
  refine zD (zw (zD (zw (zr (pt a8 1) (zw (zO 1 c rfl (zw (yY (a + (ibF (List.drop ((a).toNat) s) 10)) 1 ((a + (ibF (List.drop ((a).toNat) s) 10)) - 1) rfl zk zk (yK _ zh zh) (zw ?_)))))))))
  have hz := zX s (((a + (ibF (List.drop ((a).toNat) s) 10)) - 1).toNat) zo; obtain ⟨t, av⟩ := hz
  have := t.toNat_lt
  refine L_sindexZ (k := .i64) s ((a + (ibF (List.drop ((a).toNat) s) 10)) - 1) (((a + (ibF (List.drop ((a).toNat) s) 10)) - 1).toNat) t zo underlying9 av zk zk (zw (xG .u8 ((t.toNat : Nat) : Int) ((13 : Nat) : Int) (t.toNat = 13) rfl (xI t.toNat 13) zk zk ?_ ?_))
  ·intro bm
   replace bm : t.toNat = 13 := by omega
   refine xJ (nQ (zT (zP (wB 1 c rfl (yY (a + (ibF (List.drop ((a).toNat) s) 10)) 1 ((a + (ibF (List.drop ((a).toNat) s) 10)) - 1) rfl zk zk (yK _ zh zh) (zr (pt a8 1) (z1 1 (I6 ((a + (ibF (List.drop ((a).toNat) s) 10)) - 1)) [(I6 a), (I6 ((a + (ibF (List.drop ((a).toNat) s) 10)) - 1)), (I6 ((a + (ibF (List.drop ((a).toNat) s) 10)) + 1))] c ?_)))))))
   intro b5 z
   replace c := z.here
   replace g := ((g.tr l.below).trans (o.below n)).trans (z.below n)
   replace d := ((d.below l.below).wrote o b).wrote z b
   refine nR (zD (vT c (wH el161 w.heap.size i h (a, ((a + (ibF (List.drop ((a).toNat) s) 10)) - 1), ((a + (ibF (List.drop ((a).toNat) s) 10)) + 1)) g.size d zo zk rfl rfl zk rfl zk zk ?_)))
   intro bc bx a1 ah ap
   have e := wZ ap b (yL c)
   replace g := g.tg g.size ah d
   replace c := zY c ah b
   have b := e
   replace d := a1
   refine zH (nQ (zP (wB 2 c rfl (zH (zQ (zJ (zB ⟨_, zo, ((a + (ibF (List.drop ((a).toNat) s) 10)) + 1), (h ++ [(a, ((a + (ibF (List.drop ((a).toNat) s) 10)) - 1), ((a + (ibF (List.drop ((a).toNat) s) 10)) + 1))]), bc, rfl, q, zk, d, g, zo, zo, ?_, ?_⟩)))))))
   ·simp only [List.length_append, List.length_cons, List.length_nil]; omega
   exact pcsZ_step i1 rfl zo (.inl ⟨rfl, by omega, _, by assumption, by assumption⟩) i3
  intro bi
  replace bi : t.toNat ≠ 13 := by omega
  replace g := (g.tr l.below).trans (o.below n)
  replace d := (d.below l.below).wrote o b
  refine xJ (nQ (zF (zK (zB (wR (zD (vT c (wH el161 w.heap.size i h (a, (a + (ibF (List.drop ((a).toNat) s) 10)), ((a + (ibF (List.drop ((a).toNat) s) 10)) + 1)) g.size d zo zk rfl rfl zk rfl zk zk ?_))))))))
  intro bl cf aw ai ao
  have e := wZ ao b (yL c)
  replace g := g.tg g.size ai d
  replace c := zY c ai b
  have b := e
  replace d := aw
  refine zH (nQ (zP (wB 2 c rfl (zH (zQ (zJ (zB ⟨_, zo, ((a + (ibF (List.drop ((a).toNat) s) 10)) + 1), (h ++ [(a, (a + (ibF (List.drop ((a).toNat) s) 10)), ((a + (ibF (List.drop ((a).toNat) s) 10)) + 1))]), bl, rfl, q, zk, d, g, zo, zo, ?_, ?_⟩)))))))
  ·simp only [List.length_append, List.length_cons, List.length_nil]; omega
  exact pcsZ_step i1 rfl zo (.inr ⟨rfl, .inr ⟨_, by assumption, by assumption⟩⟩) i3
 intro cc
 replace g := (g.tr l.below).trans (o.below n)
 replace d := (d.below l.below).wrote o b
 refine zD (zs (zs (zs (zs (zs (zs (xF (nQ (zF (zK (zB (wR (zD (vT c (wH el161 w.heap.size i h (a, (a + (ibF (List.drop ((a).toNat) s) 10)), ((a + (ibF (List.drop ((a).toNat) s) 10)) + 1)) g.size d zo zk rfl rfl zk rfl zk zk ?_)))))))))))))))
 intro a9 bo a7 ad aj
 have e := wZ aj b (yL c)
 replace g := g.tg g.size ad d
 replace c := zY c ad b
 have b := e
 replace d := a7
 refine zH (nQ (zP (wB 2 c rfl (zH (zQ (zJ (zB ⟨_, zo, ((a + (ibF (List.drop ((a).toNat) s) 10)) + 1), (h ++ [(a, (a + (ibF (List.drop ((a).toNat) s) 10)), ((a + (ibF (List.drop ((a).toNat) s) 10)) + 1))]), a9, rfl, q, zk, d, g, zo, zo, ?_, ?_⟩)))))))
 ·simp only [List.length_append, List.length_cons, List.length_nil]; omega
 exact pcsZ_step i1 rfl zo (.inr ⟨rfl, .inl zo⟩) i3
theorem it_lines_Each_1 (aa : Nat) (s : List UInt8) (hs : s.length ≤ 1073741824) :
  Iter (α := Int × List UInt8) Tryz.prog 90 [.pointer (some ⟨aa, 0, none⟩)] (fun x => [.int .i64 x.1, S x.2]) (toldF s) (fun w => w.heap[aa]? = some (.cells [(S s)].toArray 9 (0, 0))) := by
 intro l J Jx w hN h0 ag aw hY
 refine wJ 30 func90 rfl ?_
 have hb := Below.refl w.heap.size w
 have hs : w.heap.size ≤ w.heap.size := Nat.le_refl _
 have a := hN
 refine wR (zO 0 a rfl (zc (c_lines_pieces s _ zo) ?_))
 rintro q1 w2 ⟨_, rfl, b, ad⟩
 have b := b.base hs
 have hb := hb.trans (ad.mono hs)
 replace hs := Nat.le_trans hs (ad.size)
 have := pcsI_len s
 refine vY underlying161 (b.rd).len (zD (nQ (zW ?_)))
 have r := h0 _ hb
 obtain ⟨K, ak⟩ : ∃ K, K = w2.heap.size := ⟨_, rfl⟩
 rw [← ak] at r
 have u : K ≤ w2.heap.size := by omega
 have aj : w.heap.size ≤ K := by omega
 have t : ∀ g, Value.ownBlock q1 = some g → Iv w.heap.size K g := fun g hg => by have := World.ownsRow.lt b g hg; exact ⟨this.1, by omega⟩
 have a := zC a ad
 refine xA (fun m s0 w0 => ∃ (i : Nat) (q : List (Int × List UInt8)), (m = (pcsI s).length - i) ∧ (s0.ds = []) ∧ ([0, 1, 6, 7, 8].map s0.f = [(.func (.yield l) #[] #[]), (pt aa 0), q1, (N6 ((pcsI s).length)), (N6 i)]) ∧ (Row w0 w.heap.size 164 3 encPc q1 (pcsI s)) ∧ (w0.heap[aa]? = some (.cells [(S s)].toArray 9 (0, 0))) ∧ (w.heap.size ≤ w0.heap.size) ∧ (K ≤ w0.heap.size) ∧ (J K q w0) ∧ (i ≤ (pcsI s).length) ∧ (q ++ toldL s i ((pcsI s).drop i) = toldF s)) _ ⟨0, [], rfl, zk, zk, b, a, hs, u, r, by omega, rfl⟩ ?_
 rintro m5 s6 w7 ⟨i, q, hm, z, ai, b, a, hs, u, r, i1, i3⟩
 refine yX ai (wR (nLt i ((pcsI s).length) ?_ ?_))
 ·intro h8
  refine nW (zT (zK (zB (yA (zW (wR (zD ?_)))))))
  have hz := zX (pcsI s) i zo; obtain ⟨o, ab⟩ := hz
  have am := pcsI_ok ab
  obtain ⟨a8, ax, a6, ba⟩ := am
  refine zEA b.rd el161 i ab [(I6 o.1), (I6 o.2.1), (I6 o.2.2)] rfl fun _ => (zN [(I6 0), (I6 0), (I6 0)] 164 ?_)
  intro af a2 c
  have ar := c.ge hs
  have p := Ch.refl (Iv w.heap.size K) w7
  have v : (World.heap w7).size ≤ af ∨ Iv w.heap.size K af := .inl (by rw [c.num]; exact p.size)
  have n := b.new_ne c
  replace u := Nat.le_trans u (c.below.size)
  replace hs := Nat.le_trans hs (c.below.size)
  have j := c.here
  refine zH (qQ [(I6 o.1), (I6 o.2.1), (I6 o.2.2)] j ?_)
  intro ay d
  replace u := Nat.le_trans u (Nat.le_of_eq d.size.symm)
  replace hs := Nat.le_trans hs (Nat.le_of_eq d.size.symm)
  have a := zC a c.below
  have a := zI a d (zU a j zi)
  have j := d.here
  refine nW (wR (wB 0 j rfl (wB 2 j rfl (qX .i64 o.1 o.2.2 ?_ ?_))))
  ·intro az
   refine nQ (zT (zR (zG (zL (zG (zG (zL (zZ [] (hd := z) ?_))))))))
   replace p := (p.trans2 (Ch.of_below c.below) (fun _ h => h.elim)).trans2 (Ch.of_wrote d) (fun k e => e ▸ v)
   replace r := ag _ _ _ _ r p
   clear p
   have y : q = toldF s := by exact told_stop za za i3
   rw [y] at r
   exact ⟨hs, Or.inl ⟨K, r⟩⟩
  intro a9
  refine nQ (zF (zK (zB (wR (zD (zD (xN i 1 (zO 0 a rfl (wB 0 j rfl (wB 1 j rfl (L_sslice s ((o.1).toNat) ((o.2.1).toNat) underlying9 zk (vR o.1 .i64 zk zo) (vR o.2.1 .i64 zk zo) zo zo ?_)))))))))))
  replace p := (p.trans2 (Ch.of_below c.below) (fun _ h => h.elim)).trans2 (Ch.of_wrote d) (fun k e => e ▸ v)
  replace r := ag _ _ _ _ r p
  clear p
  have ac : q ++ [((((i + 1) : Nat) : Int), (List.drop ((o.1).toNat) (List.take ((o.2.1).toNat) s)))] <+: toldF s := by exact pre_of3 (told_step za za i3)
  refine L_yield l [(N6 (i + 1)), (S (List.drop ((o.1).toNat) (List.take ((o.2.1).toNat) s)))] zk zk (hY K q ((((i + 1) : Nat) : Int), (List.drop ((o.1).toNat) (List.take ((o.2.1).toNat) s))) _ r a aj u ac) ?_
  rintro e a3 (⟨rfl, aq, hk, al⟩ | ⟨rfl, ao, hk⟩)
  ·refine ⟨true, rfl, ?_⟩
   have b := (b.below c.below).wrote d n
   have b := b.kp hk t
   replace hs := Nat.le_trans hs hk.size
   replace u := Nat.le_trans u hk.size
   replace r := aq
   have a := al
   refine qO true (nQ (zF (zK (zJ (zB (zP (xN i 1 (zD (zQ (zB ⟨_, zo, (i + 1), (q ++ [((((i + 1) : Nat) : Int), (List.drop ((o.1).toNat) (List.take ((o.2.1).toNat) s)))]), rfl, z, zk, b, a, hs, u, r, zo, ?_⟩))))))))))
   exact told_step za za i3
  refine ⟨false, rfl, ?_⟩
  replace hs := Nat.le_trans hs hk.size
  replace u := Nat.le_trans u hk.size
  refine qO false (nQ (zT (zR (zL (zG (zG (zL (zZ [] (hd := z) ?_))))))))
  exact ⟨hs, Or.inr ⟨K, _, _, ac, ao⟩⟩
 intro a1
 refine nW (zF (yU (zS (zS (yF (znrm [] (hd := z) ?_))))))
 have y : q = toldF s := by exact told_end zo i3
 rw [y] at r
 exact ⟨hs, Or.inl ⟨K, r⟩⟩
theorem c_lines_Each (s : List UInt8) (w : World) :
  Calls Tryz.prog 58 #[(S s)] w (Ret fun v w' => ∃ (cb0 : Nat), v = (.func (.func 90) #[] #[(pt cb0 0)]) ∧ w'.heap[cb0]? = some (.cells [(S s)].toArray 9 (0, 0)) ∧ w.heap.size ≤ cb0 ∧ Below w.heap.size w w') := by
 refine wJ 4 func58 rfl ?_
 have d := Below.refl w.heap.size w
 refine wR (zN [(S s)] 9 ?_)
 intro e f a
 have b := a.ge d.size
 have c := a.here
 have d := d.tr a.below
 exact zH (nR (zr (.func (.func 90) #[] #[(pt e 0)]) (zH (nQ (zR (zZ [(.func (.func 90) #[] #[(pt e 0)])] ⟨e, rfl, c, b, d⟩))))))
end Go.Proofs.YtkclikfejmeblaaGreatDoor
end

/- === Wlscan === -/
section
/- Walks, written by my program walk.py out of the specification lscan.py: each theorem says what one function returns and that it leaves memory as it was. -/
namespace Go.Proofs.YtkclikfejmeblaaGreatDoor
open Go Go.RowKit Go.FK _root_.Go.Proofs.Tryz
set_option maxHeartbeats 4000000
set_option maxRecDepth 100000
theorem c_lines_Scan (no : Int) (s : List UInt8) (w : World) (hs : s.length ≤ 1073741824) :
  Calls Tryz.prog 59 #[(I6 no), (S s)] w (Ret fun v w' => ∃ (q0 : Value), v = (.tuple #[(Value.agg #[(I6 ((scanF no s).1.1)), (U8 ((scanF no s).1.2.1)), (S ((scanF no s).1.2.2.1)), q0, (S ((scanF no s).1.2.2.2.2))]), (I6 ((scanF no s).2))]) ∧ Row w' w.heap.size 9 1 encStr q0 ((scanF no s).1.2.2.2.1) ∧ Below w.heap.size w w') := by
 refine wJ 84 func59 rfl ?_
 have o := Below.refl w.heap.size w
 have dj := cutF_len s
 refine wR (zN [(I6 0), (U8 0), (S []), (.slice none 0 0), (S [])] 72 ?_)
 intro b1 w2 bh
 have aa := bh.ge o.size
 have c := bh.here
 refine zH (nW (wR (zD (zc (c_lines_Check s _ zo) ?_))))
 rintro _ w4 ⟨rfl, bg⟩
 have := chkF_range s
 refine zD (zr (N6 ((chkF s).1)) (zr (I6 ((chkF s).2)) (zH (zH (nR (zD (zNe .i64 ((chkF s).2) 0 ?_ ?_)))))))
 ·intro h7
  replace c := zC c bg
  refine nQ (zT (wR (zr (Value.agg #[(I6 0), (U8 0), (S []), (.slice none 0 0), (S [])]) (zD (qQ [(I6 0), (U8 0), (S []), (.slice none 0 0), (S [])] c ?_)))))
  intro w8 bk
  replace c := bk.here
  refine zH (nQ (zR (zG (yM [.cell 4 72, .tmp 5] [(Value.agg #[(I6 0), (U8 0), (S []), (.slice none 0 0), (S [])]), (I6 ((chkF s).2))] rfl rfl ⟨⟨⟨b1, 0, none⟩, zk, yH [(I6 0), (U8 0), (S []), (.slice none 0 0), (S [])] zk zk (yE c)⟩, zk, trivial⟩ ?_))))
  replace o := ((o.tr bh.below).tr bg).trans (bk.below aa)
  exact ⟨(.slice none 0 0), yV (by (rw [scan_bad za]; try rfl; done)) (e6 (by (rw [scan_bad za]; try rfl; done))), (Row.nil _ _ _ _ _).cast (by (rw [scan_bad za]; try rfl; done)), o⟩
 intro db
 refine nQ (zF (zK (zB (wR (zD (zr (Value.agg #[(I6 no), (U8 0), (S []), (.slice none 0 0), (S [])]) (zN [(I6 0), (U8 0), (S []), (.slice none 0 0), (S [])] 72 ?_)))))))
 intro z c8 u
 replace c := zC c bg
 have a := NE_new (yL c) u
 replace o := (o.tr bh.below).tr bg
 have e := u.ge o.size
 have b := u.here
 refine qQ [(I6 no), (U8 0), (S []), (.slice none 0 0), (S [])] b ?_
 intro c0 y
 replace b := y.here
 refine nR (zD (zc (c_lines_Cut s _ zo) ?_))
 rintro _ cl ⟨l, rfl, d, j⟩
 replace o := (o.tr u.below).trans (y.below e)
 replace d := d.base o.size
 replace b := zC b j
 refine zD (zr l (zr (S ((cutF s).2)) (zr (pt z 3) (xC z 3 l [(I6 no), (U8 0), (S []), (.slice none 0 0), (S [])] [(I6 no), (U8 0), (S []), l, (S [])] 72 zk zk d.one zk b zi rfl ?_))))
 intro cf i
 replace d := d.wrote i (d.ne b zi)
 replace b := i.here
 refine zr (pt z 4) (z1 4 (S ((cutF s).2)) [(I6 no), (U8 0), (S []), l, (S ((cutF s).2))] b ?_)
 intro dg h
 replace d := d.wrote h (d.ne b zi)
 replace b := h.here
 refine nR (zD (zc (c_strings_Cut s ([35] : List UInt8) _ (by rfl) zo) ?_))
 rintro _ cp ⟨rfl, f⟩
 have := vO s ([35] : List UInt8)
 refine zD (zr (S ((Lib.cut s ([35] : List UInt8)).1)) (zr (S ((Lib.cut s ([35] : List UInt8)).2.1)) (zr (.bool ((Lib.cut s ([35] : List UInt8)).2.2)) (yT ((Lib.cut s ([35] : List UInt8)).2.2) ?_ ?_))))
 ·intro de
  refine zH (zH (zH (nR (zD (zc (uI ((Lib.cut s ([35] : List UInt8)).1) _ zo) ?_)))))
  rintro _ cm ⟨rfl, p⟩
  have := vK ((Lib.cut s ([35] : List UInt8)).1)
  refine zH (nW (zW (wR (zD (zc (wS (trmF ((Lib.cut s ([35] : List UInt8)).1)) ([64] : List UInt8) _ ) ?_)))))
  rintro _ cy ⟨rfl, t⟩
  refine yT (hpB (trmF ((Lib.cut s ([35] : List UInt8)).1)) ([64] : List UInt8)) ?_ ?_
  ·intro bm
   have := hp_len bm; simp only [List.length_cons, List.length_nil] at this
   refine zH (nQ (zT (wR (zD (qH (trmF ((Lib.cut s ([35] : List UInt8)).1)) 1 underlying9 zk ⟨.i64, zk⟩ zo (zc (c_strings_Cut (List.drop 1 (trmF ((Lib.cut s ([35] : List UInt8)).1))) ([58] : List UInt8) _ (by rfl) (by (simp only [List.length_drop, List.length_take] at *; omega))) ?_))))))
   rintro _ cg ⟨rfl, ah⟩
   have := vO (List.drop 1 (trmF ((Lib.cut s ([35] : List UInt8)).1))) ([58] : List UInt8)
   refine zD (zr (S ((Lib.cut (List.drop 1 (trmF ((Lib.cut s ([35] : List UInt8)).1))) ([58] : List UInt8)).1)) (zr (S ((Lib.cut (List.drop 1 (trmF ((Lib.cut s ([35] : List UInt8)).1))) ([58] : List UInt8)).2.1)) (zr (.bool ((Lib.cut (List.drop 1 (trmF ((Lib.cut s ([35] : List UInt8)).1))) ([58] : List UInt8)).2.2)) (yT ((Lib.cut (List.drop 1 (trmF ((Lib.cut s ([35] : List UInt8)).1))) ([58] : List UInt8)).2.2) ?_ ?_))))
   ·intro cw
    refine zH (zH (zH (nW (wR (zD (qO true (zD (zw (zD (zw (zc (c_lines_named ((Lib.cut (List.drop 1 (trmF ((Lib.cut s ([35] : List UInt8)).1))) ([58] : List UInt8)).1) _ (by (simp only [List.length_drop, List.length_take] at *; omega))) ?_)))))))))))
    rintro _ cx ⟨rfl, aq⟩
    refine yT (nameF ((Lib.cut (List.drop 1 (trmF ((Lib.cut s ([35] : List UInt8)).1))) ([58] : List UInt8)).1)) ?_ ?_
    ·intro c7
     refine zw (qO true (xF (nQ (zF (zK (zB (zP (zD (zD (zc (c_lines_fields ((Lib.cut (List.drop 1 (trmF ((Lib.cut s ([35] : List UInt8)).1))) ([58] : List UInt8)).2.1) _ (by (simp only [List.length_drop, List.length_take] at *; omega))) ?_))))))))))
     rintro ay ch ⟨_, rfl, m, ba⟩
     replace o := (((((((o.tr j).trans (i.below e)).trans (h.below e)).tr f).tr p).tr t).tr ah).tr aq
     replace m := m.base o.size
     replace b := zC (zC (zC (zC (zC (zC b f) p) t) ah) aq) ba
     refine zr (pt z 1) (z1 1 (U8 2) [(I6 no), (U8 2), (S []), l, (S ((cutF s).2))] b ?_)
     intro cu a5
     replace m := m.wrote a5 (m.ne b zi)
     replace b := a5.here
     refine zr (pt z 2) (z1 2 (S ((Lib.cut (List.drop 1 (trmF ((Lib.cut s ([35] : List UInt8)).1))) ([58] : List UInt8)).1)) [(I6 no), (U8 2), (S ((Lib.cut (List.drop 1 (trmF ((Lib.cut s ([35] : List UInt8)).1))) ([58] : List UInt8)).1)), l, (S ((cutF s).2))] b ?_)
     intro cv a6
     replace m := m.wrote a6 (m.ne b zi)
     replace b := a6.here
     refine zr (pt z 3) (xC z 3 ay [(I6 no), (U8 2), (S ((Lib.cut (List.drop 1 (trmF ((Lib.cut s ([35] : List UInt8)).1))) ([58] : List UInt8)).1)), l, (S ((cutF s).2))] [(I6 no), (U8 2), (S ((Lib.cut (List.drop 1 (trmF ((Lib.cut s ([35] : List UInt8)).1))) ([58] : List UInt8)).1)), ay, (S ((cutF s).2))] 72 zk zk m.one zk b zi rfl ?_)
     intro dd a3
     replace m := m.wrote a3 (m.ne b zi)
     replace b := a3.here
     replace c := zI (zI (zI (zC (zC (zC (zC (zC (zC (zI (zI (zC (zI (zC c u.below) y a) j) i a) h a) f) p) t) ah) aq) ba) a5 a) a6 a) a3 a
     refine zQ (zJ (zB (wR (vT b (xU b1 0 [(I6 no), (U8 2), (S ((Lib.cut (List.drop 1 (trmF ((Lib.cut s ([35] : List UInt8)).1))) ([58] : List UInt8)).1)), ay, (S ((cutF s).2))] [(I6 0), (U8 0), (S []), (.slice none 0 0), (S [])] [(I6 no), (U8 2), (S ((Lib.cut (List.drop 1 (trmF ((Lib.cut s ([35] : List UInt8)).1))) ([58] : List UInt8)).1)), ay, (S ((cutF s).2))] 72 zk zk (yZ rfl (yZ rfl (yZ rfl (yZ m.one (yZ rfl rfl))))) zk c zk rfl ?_)))))
     intro cs bd
     replace m := m.wrote bd (m.ne c zi)
     replace c := bd.here
     refine zH (nQ (zR (yM [.cell 4 72, .tmp 5] [(Value.agg #[(I6 no), (U8 2), (S ((Lib.cut (List.drop 1 (trmF ((Lib.cut s ([35] : List UInt8)).1))) ([58] : List UInt8)).1)), ay, (S ((cutF s).2))]), (I6 0)] rfl rfl ⟨⟨⟨b1, 0, none⟩, zk, yH [(I6 no), (U8 2), (S ((Lib.cut (List.drop 1 (trmF ((Lib.cut s ([35] : List UInt8)).1))) ([58] : List UInt8)).1)), ay, (S ((cutF s).2))] zk zk (yE c)⟩, zk, trivial⟩ ?_)))
     replace o := ((((o.tr ba).trans (a5.below e)).trans (a6.below e)).trans (a3.below e)).trans (bd.below aa)
     exact ⟨ay, yV (by (rw [Za za za za za]; try rfl; done)) (e6 (by (rw [Za za za za za]; try rfl; done))), m.cast (by (rw [Za za za za za]; try rfl; done)), o⟩
    intro ck
    replace c := zC (zC (zC (zC (zC (zI (zI (zC (zI (zC c u.below) y a) j) i a) h a) f) p) t) ah) aq
    refine zw (qO false (xF (nQ (zT (wR (zr (Value.agg #[(I6 0), (U8 0), (S []), (.slice none 0 0), (S [])]) (qQ [(I6 0), (U8 0), (S []), (.slice none 0 0), (S [])] c ?_)))))))
    intro da bj
    replace c := bj.here
    refine zH (nQ (zR (zG (zL (zG (yM [.cell 4 72, .tmp 5] [(Value.agg #[(I6 0), (U8 0), (S []), (.slice none 0 0), (S [])]), (I6 33)] rfl rfl ⟨⟨⟨b1, 0, none⟩, zk, yH [(I6 0), (U8 0), (S []), (.slice none 0 0), (S [])] zk zk (yE c)⟩, zk, trivial⟩ ?_))))))
    replace o := ((((((((o.tr j).trans (i.below e)).trans (h.below e)).tr f).tr p).tr t).tr ah).tr aq).trans (bj.below aa)
    exact ⟨(.slice none 0 0), yV (by (rw [xZ za za (.inr za)]; try rfl; done)) (e6 (by (rw [xZ za za (.inr za)]; try rfl; done))), (Row.nil _ _ _ _ _).cast (by (rw [xZ za za (.inr za)]; try rfl; done)), o⟩
   intro c2
   replace c := zC (zC (zC (zC (zI (zI (zC (zI (zC c u.below) y a) j) i a) h a) f) p) t) ah
   refine zH (zH (zH (nW (wR (zD (qO false (zD (zs (zs (zs (xJ (nQ (zT (wR (zr (Value.agg #[(I6 0), (U8 0), (S []), (.slice none 0 0), (S [])]) (qQ [(I6 0), (U8 0), (S []), (.slice none 0 0), (S [])] c ?_))))))))))))))))
   intro c4 bi
   replace c := bi.here
   refine zH (nQ (zR (zG (zL (zG (yM [.cell 4 72, .tmp 5] [(Value.agg #[(I6 0), (U8 0), (S []), (.slice none 0 0), (S [])]), (I6 33)] rfl rfl ⟨⟨⟨b1, 0, none⟩, zk, yH [(I6 0), (U8 0), (S []), (.slice none 0 0), (S [])] zk zk (yE c)⟩, zk, trivial⟩ ?_))))))
   replace o := (((((((o.tr j).trans (i.below e)).trans (h.below e)).tr f).tr p).tr t).tr ah).trans (bi.below aa)
   exact ⟨(.slice none 0 0), yV (by (rw [xZ za za (.inl za)]; try rfl; done)) (e6 (by (rw [xZ za za (.inl za)]; try rfl; done))), (Row.nil _ _ _ _ _).cast (by (rw [xZ za za (.inl za)]; try rfl; done)), o⟩
  intro ce
  refine zH (nQ (zF (wR (zD (L_sne (trmF ((Lib.cut s ([35] : List UInt8)).1)) ([] : List UInt8) rfl zk zk ?_ ?_)))))
  ·intro cz
   replace b := zC (zC (zC b f) p) t
   refine zH (nQ (zT (zP (zr (pt z 1) (z1 1 (U8 1) [(I6 no), (U8 1), (S []), l, (S ((cutF s).2))] b ?_)))))
   intro cj a2
   replace d := ((d.below f).below p).below t
   replace d := d.wrote a2 (d.ne b zi)
   replace b := a2.here
   replace c := zI (zC (zC (zC (zI (zI (zC (zI (zC c u.below) y a) j) i a) h a) f) p) t) a2 a
   refine zQ (zJ (zB (wR (vT b (xU b1 0 [(I6 no), (U8 1), (S []), l, (S ((cutF s).2))] [(I6 0), (U8 0), (S []), (.slice none 0 0), (S [])] [(I6 no), (U8 1), (S []), l, (S ((cutF s).2))] 72 zk zk (yZ rfl (yZ rfl (yZ rfl (yZ d.one (yZ rfl rfl))))) zk c zk rfl ?_)))))
   intro cr bc
   replace d := d.wrote bc (d.ne c zi)
   replace c := bc.here
   refine zH (nQ (zR (yM [.cell 4 72, .tmp 5] [(Value.agg #[(I6 no), (U8 1), (S []), l, (S ((cutF s).2))]), (I6 0)] rfl rfl ⟨⟨⟨b1, 0, none⟩, zk, yH [(I6 no), (U8 1), (S []), l, (S ((cutF s).2))] zk zk (yE c)⟩, zk, trivial⟩ ?_)))
   replace o := (((((((o.tr j).trans (i.below e)).trans (h.below e)).tr f).tr p).tr t).trans (a2.below e)).trans (bc.below aa)
   exact ⟨l, yV (by (rw [scan_data za za za]; try rfl; done)) (e6 (by (rw [scan_data za za za]; try rfl; done))), d.cast (by (rw [scan_data za za za]; try rfl; done)), o⟩
  intro c9
  replace b := zC (zC (zC b f) p) t
  refine zH (nQ (zF (wR (wB 4 b rfl (zc (wS ((cutF s).2) ([64, 109, 105, 115, 115, 105, 110, 103, 58] : List UInt8) _ ) ?_)))))
  rintro _ di ⟨rfl, ad⟩
  refine yT (hpB ((cutF s).2) ([64, 109, 105, 115, 115, 105, 110, 103, 58] : List UInt8)) ?_ ?_
  ·intro bn
   have := hp_len bn; simp only [List.length_cons, List.length_nil] at this
   replace b := zC b ad
   refine zH (nQ (zT (wR (zr (pt z 1) (z1 1 (U8 3) [(I6 no), (U8 3), (S []), l, (S ((cutF s).2))] b ?_)))))
   intro co be
   replace b := be.here
   refine nQ (zP (wB 4 b rfl (qH ((cutF s).2) 9 underlying9 zk ⟨.i64, zk⟩ zo (zc (c_lines_Cut (List.drop 9 ((cutF s).2)) _ (by (simp only [List.length_drop, List.length_take] at *; omega))) ?_))))
   rintro _ dk ⟨ap, rfl, n, a9⟩
   replace o := (((((((o.tr j).trans (i.below e)).trans (h.below e)).tr f).tr p).tr t).tr ad).trans (be.below e)
   replace n := n.base o.size
   replace b := zC b a9
   refine zD (zr ap (zr (S ((cutF (List.drop 9 ((cutF s).2))).2)) (zr (pt z 3) (xC z 3 ap [(I6 no), (U8 3), (S []), l, (S ((cutF s).2))] [(I6 no), (U8 3), (S []), ap, (S ((cutF s).2))] 72 zk zk n.one zk b zi rfl ?_))))
   intro dh a1
   replace n := n.wrote a1 (n.ne b zi)
   replace b := a1.here
   refine zr (pt z 4) (z1 4 (S ((cutF (List.drop 9 ((cutF s).2))).2)) [(I6 no), (U8 3), (S []), ap, (S ((cutF (List.drop 9 ((cutF s).2))).2))] b ?_)
   intro ci a4
   replace n := n.wrote a4 (n.ne b zi)
   replace b := a4.here
   replace c := zI (zI (zC (zI (zC (zC (zC (zC (zI (zI (zC (zI (zC c u.below) y a) j) i a) h a) f) p) t) ad) be a) a9) a1 a) a4 a
   refine zQ (zJ (zB (wR (vT b (xU b1 0 [(I6 no), (U8 3), (S []), ap, (S ((cutF (List.drop 9 ((cutF s).2))).2))] [(I6 0), (U8 0), (S []), (.slice none 0 0), (S [])] [(I6 no), (U8 3), (S []), ap, (S ((cutF (List.drop 9 ((cutF s).2))).2))] 72 zk zk (yZ rfl (yZ rfl (yZ rfl (yZ n.one (yZ rfl rfl))))) zk c zk rfl ?_)))))
   intro cn bb
   replace n := n.wrote bb (n.ne c zi)
   replace c := bb.here
   refine zH (nQ (zR (yM [.cell 4 72, .tmp 5] [(Value.agg #[(I6 no), (U8 3), (S []), ap, (S ((cutF (List.drop 9 ((cutF s).2))).2))]), (I6 0)] rfl rfl ⟨⟨⟨b1, 0, none⟩, zk, yH [(I6 no), (U8 3), (S []), ap, (S ((cutF (List.drop 9 ((cutF s).2))).2))] zk zk (yE c)⟩, zk, trivial⟩ ?_)))
   replace o := (((o.tr a9).trans (a1.below e)).trans (a4.below e)).trans (bb.below aa)
   exact ⟨ap, yV (by (rw [uG za za za]; try rfl; done)) (e6 (by (rw [uG za za za]; try rfl; done))), n.cast (by (rw [uG za za za]; try rfl; done)), o⟩
  intro c5
  replace c := zC (zC (zC (zC (zI (zI (zC (zI (zC c u.below) y a) j) i a) h a) f) p) t) ad
  replace b := zC b ad
  replace d := (((d.below f).below p).below t).below ad
  refine zH (nQ (zF (zK (zJ (zB (wR (vT b (xU b1 0 [(I6 no), (U8 0), (S []), l, (S ((cutF s).2))] [(I6 0), (U8 0), (S []), (.slice none 0 0), (S [])] [(I6 no), (U8 0), (S []), l, (S ((cutF s).2))] 72 zk zk (yZ rfl (yZ rfl (yZ rfl (yZ d.one (yZ rfl rfl))))) zk c zk rfl ?_))))))))
  intro ct a8
  replace d := d.wrote a8 (d.ne c zi)
  replace c := a8.here
  refine zH (nQ (zR (yM [.cell 4 72, .tmp 5] [(Value.agg #[(I6 no), (U8 0), (S []), l, (S ((cutF s).2))]), (I6 0)] rfl rfl ⟨⟨⟨b1, 0, none⟩, zk, yH [(I6 no), (U8 0), (S []), l, (S ((cutF s).2))] zk zk (yE c)⟩, zk, trivial⟩ ?_)))
  replace o := (((((((o.tr j).trans (i.below e)).trans (h.below e)).tr f).tr p).tr t).tr ad).trans (a8.below aa)
  exact ⟨l, yV (by (rw [uY za za za]; try rfl; done)) (e6 (by (rw [uY za za za]; try rfl; done))), d.cast (by (rw [uY za za za]; try rfl; done)), o⟩
 intro c3
 refine zH (zH (zH (nR (zD (zc (uI ((Lib.cut s ([35] : List UInt8)).1) _ zo) ?_)))))
 rintro _ c6 ⟨rfl, r⟩
 have := vK ((Lib.cut s ([35] : List UInt8)).1)
 refine zH (nW (zW (wR (zD (zc (wS (trmF ((Lib.cut s ([35] : List UInt8)).1)) ([64] : List UInt8) _ ) ?_)))))
 rintro _ cq ⟨rfl, q⟩
 refine yT (hpB (trmF ((Lib.cut s ([35] : List UInt8)).1)) ([64] : List UInt8)) ?_ ?_
 ·intro bo
  have := hp_len bo; simp only [List.length_cons, List.length_nil] at this
  refine zH (nQ (zT (wR (zD (qH (trmF ((Lib.cut s ([35] : List UInt8)).1)) 1 underlying9 zk ⟨.i64, zk⟩ zo (zc (c_strings_Cut (List.drop 1 (trmF ((Lib.cut s ([35] : List UInt8)).1))) ([58] : List UInt8) _ (by rfl) (by (simp only [List.length_drop, List.length_take] at *; omega))) ?_))))))
  rintro _ df ⟨rfl, ae⟩
  have := vO (List.drop 1 (trmF ((Lib.cut s ([35] : List UInt8)).1))) ([58] : List UInt8)
  refine zD (zr (S ((Lib.cut (List.drop 1 (trmF ((Lib.cut s ([35] : List UInt8)).1))) ([58] : List UInt8)).1)) (zr (S ((Lib.cut (List.drop 1 (trmF ((Lib.cut s ([35] : List UInt8)).1))) ([58] : List UInt8)).2.1)) (zr (.bool ((Lib.cut (List.drop 1 (trmF ((Lib.cut s ([35] : List UInt8)).1))) ([58] : List UInt8)).2.2)) (yT ((Lib.cut (List.drop 1 (trmF ((Lib.cut s ([35] : List UInt8)).1))) ([58] : List UInt8)).2.2) ?_ ?_))))
  ·intro c1
   refine zH (zH (zH (nW (wR (zD (qO true (zD (zw (zD (zw (zc (c_lines_named ((Lib.cut (List.drop 1 (trmF ((Lib.cut s ([35] : List UInt8)).1))) ([58] : List UInt8)).1) _ (by (simp only [List.length_drop, List.length_take] at *; omega))) ?_)))))))))))
   rintro _ dc ⟨rfl, af⟩
   refine yT (nameF ((Lib.cut (List.drop 1 (trmF ((Lib.cut s ([35] : List UInt8)).1))) ([58] : List UInt8)).1)) ?_ ?_
   ·intro cd
    refine zw (qO true (xF (nQ (zF (zK (zB (zP (zD (zD (zc (c_lines_fields ((Lib.cut (List.drop 1 (trmF ((Lib.cut s ([35] : List UInt8)).1))) ([58] : List UInt8)).2.1) _ (by (simp only [List.length_drop, List.length_take] at *; omega))) ?_))))))))))
    rintro ag bt ⟨_, rfl, g, av⟩
    replace o := (((((((o.tr j).trans (i.below e)).trans (h.below e)).tr f).tr r).tr q).tr ae).tr af
    replace g := g.base o.size
    replace b := zC (zC (zC (zC (zC (zC b f) r) q) ae) af) av
    refine zr (pt z 1) (z1 1 (U8 2) [(I6 no), (U8 2), (S []), l, (S ((cutF s).2))] b ?_)
    intro cb ao
    replace g := g.wrote ao (g.ne b zi)
    replace b := ao.here
    refine zr (pt z 2) (z1 2 (S ((Lib.cut (List.drop 1 (trmF ((Lib.cut s ([35] : List UInt8)).1))) ([58] : List UInt8)).1)) [(I6 no), (U8 2), (S ((Lib.cut (List.drop 1 (trmF ((Lib.cut s ([35] : List UInt8)).1))) ([58] : List UInt8)).1)), l, (S ((cutF s).2))] b ?_)
    intro bx am
    replace g := g.wrote am (g.ne b zi)
    replace b := am.here
    refine zr (pt z 3) (xC z 3 ag [(I6 no), (U8 2), (S ((Lib.cut (List.drop 1 (trmF ((Lib.cut s ([35] : List UInt8)).1))) ([58] : List UInt8)).1)), l, (S ((cutF s).2))] [(I6 no), (U8 2), (S ((Lib.cut (List.drop 1 (trmF ((Lib.cut s ([35] : List UInt8)).1))) ([58] : List UInt8)).1)), ag, (S ((cutF s).2))] 72 zk zk g.one zk b zi rfl ?_)
    intro b8 an
    replace g := g.wrote an (g.ne b zi)
    replace b := an.here
    replace c := zI (zI (zI (zC (zC (zC (zC (zC (zC (zI (zI (zC (zI (zC c u.below) y a) j) i a) h a) f) r) q) ae) af) av) ao a) am a) an a
    refine zQ (zJ (zB (wR (vT b (xU b1 0 [(I6 no), (U8 2), (S ((Lib.cut (List.drop 1 (trmF ((Lib.cut s ([35] : List UInt8)).1))) ([58] : List UInt8)).1)), ag, (S ((cutF s).2))] [(I6 0), (U8 0), (S []), (.slice none 0 0), (S [])] [(I6 no), (U8 2), (S ((Lib.cut (List.drop 1 (trmF ((Lib.cut s ([35] : List UInt8)).1))) ([58] : List UInt8)).1)), ag, (S ((cutF s).2))] 72 zk zk (yZ rfl (yZ rfl (yZ rfl (yZ g.one (yZ rfl rfl))))) zk c zk rfl ?_)))))
    intro bw a0
    replace g := g.wrote a0 (g.ne c zi)
    replace c := a0.here
    refine zH (nQ (zR (yM [.cell 4 72, .tmp 5] [(Value.agg #[(I6 no), (U8 2), (S ((Lib.cut (List.drop 1 (trmF ((Lib.cut s ([35] : List UInt8)).1))) ([58] : List UInt8)).1)), ag, (S ((cutF s).2))]), (I6 0)] rfl rfl ⟨⟨⟨b1, 0, none⟩, zk, yH [(I6 no), (U8 2), (S ((Lib.cut (List.drop 1 (trmF ((Lib.cut s ([35] : List UInt8)).1))) ([58] : List UInt8)).1)), ag, (S ((cutF s).2))] zk zk (yE c)⟩, zk, trivial⟩ ?_)))
    replace o := ((((o.tr av).trans (ao.below e)).trans (am.below e)).trans (an.below e)).trans (a0.below aa)
    exact ⟨ag, yV (by (rw [Za za za za za]; try rfl; done)) (e6 (by (rw [Za za za za za]; try rfl; done))), g.cast (by (rw [Za za za za za]; try rfl; done)), o⟩
   intro b7
   replace c := zC (zC (zC (zC (zC (zI (zI (zC (zI (zC c u.below) y a) j) i a) h a) f) r) q) ae) af
   refine zw (qO false (xF (nQ (zT (wR (zr (Value.agg #[(I6 0), (U8 0), (S []), (.slice none 0 0), (S [])]) (qQ [(I6 0), (U8 0), (S []), (.slice none 0 0), (S [])] c ?_)))))))
   intro b4 bf
   replace c := bf.here
   refine zH (nQ (zR (zG (zL (zG (yM [.cell 4 72, .tmp 5] [(Value.agg #[(I6 0), (U8 0), (S []), (.slice none 0 0), (S [])]), (I6 33)] rfl rfl ⟨⟨⟨b1, 0, none⟩, zk, yH [(I6 0), (U8 0), (S []), (.slice none 0 0), (S [])] zk zk (yE c)⟩, zk, trivial⟩ ?_))))))
   replace o := ((((((((o.tr j).trans (i.below e)).trans (h.below e)).tr f).tr r).tr q).tr ae).tr af).trans (bf.below aa)
   exact ⟨(.slice none 0 0), yV (by (rw [xZ za za (.inr za)]; try rfl; done)) (e6 (by (rw [xZ za za (.inr za)]; try rfl; done))), (Row.nil _ _ _ _ _).cast (by (rw [xZ za za (.inr za)]; try rfl; done)), o⟩
  intro b3
  replace c := zC (zC (zC (zC (zI (zI (zC (zI (zC c u.below) y a) j) i a) h a) f) r) q) ae
  refine zH (zH (zH (nW (wR (zD (qO false (zD (zs (zs (zs (xJ (nQ (zT (wR (zr (Value.agg #[(I6 0), (U8 0), (S []), (.slice none 0 0), (S [])]) (qQ [(I6 0), (U8 0), (S []), (.slice none 0 0), (S [])] c ?_))))))))))))))))
  intro b6 a7
  replace c := a7.here
  refine zH (nQ (zR (zG (zL (zG (yM [.cell 4 72, .tmp 5] [(Value.agg #[(I6 0), (U8 0), (S []), (.slice none 0 0), (S [])]), (I6 33)] rfl rfl ⟨⟨⟨b1, 0, none⟩, zk, yH [(I6 0), (U8 0), (S []), (.slice none 0 0), (S [])] zk zk (yE c)⟩, zk, trivial⟩ ?_))))))
  replace o := (((((((o.tr j).trans (i.below e)).trans (h.below e)).tr f).tr r).tr q).tr ae).trans (a7.below aa)
  exact ⟨(.slice none 0 0), yV (by (rw [xZ za za (.inl za)]; try rfl; done)) (e6 (by (rw [xZ za za (.inl za)]; try rfl; done))), (Row.nil _ _ _ _ _).cast (by (rw [xZ za za (.inl za)]; try rfl; done)), o⟩
 intro br
 refine zH (nQ (zF (wR (zD (L_sne (trmF ((Lib.cut s ([35] : List UInt8)).1)) ([] : List UInt8) rfl zk zk ?_ ?_)))))
 ·intro b0
  replace b := zC (zC (zC b f) r) q
  refine zH (nQ (zT (zP (zr (pt z 1) (z1 1 (U8 1) [(I6 no), (U8 1), (S []), l, (S ((cutF s).2))] b ?_)))))
  intro ca aj
  replace d := ((d.below f).below r).below q
  replace d := d.wrote aj (d.ne b zi)
  replace b := aj.here
  replace c := zI (zC (zC (zC (zI (zI (zC (zI (zC c u.below) y a) j) i a) h a) f) r) q) aj a
  refine zQ (zJ (zB (wR (vT b (xU b1 0 [(I6 no), (U8 1), (S []), l, (S ((cutF s).2))] [(I6 0), (U8 0), (S []), (.slice none 0 0), (S [])] [(I6 no), (U8 1), (S []), l, (S ((cutF s).2))] 72 zk zk (yZ rfl (yZ rfl (yZ rfl (yZ d.one (yZ rfl rfl))))) zk c zk rfl ?_)))))
  intro b9 ar
  replace d := d.wrote ar (d.ne c zi)
  replace c := ar.here
  refine zH (nQ (zR (yM [.cell 4 72, .tmp 5] [(Value.agg #[(I6 no), (U8 1), (S []), l, (S ((cutF s).2))]), (I6 0)] rfl rfl ⟨⟨⟨b1, 0, none⟩, zk, yH [(I6 no), (U8 1), (S []), l, (S ((cutF s).2))] zk zk (yE c)⟩, zk, trivial⟩ ?_)))
  replace o := (((((((o.tr j).trans (i.below e)).trans (h.below e)).tr f).tr r).tr q).trans (aj.below e)).trans (ar.below aa)
  exact ⟨l, yV (by (rw [scan_data za za za]; try rfl; done)) (e6 (by (rw [scan_data za za za]; try rfl; done))), d.cast (by (rw [scan_data za za za]; try rfl; done)), o⟩
 intro bu
 replace b := zC (zC (zC b f) r) q
 refine zH (nQ (zF (wR (wB 4 b rfl (zc (wS ((cutF s).2) ([64, 109, 105, 115, 115, 105, 110, 103, 58] : List UInt8) _ ) ?_)))))
 rintro _ bp ⟨rfl, ab⟩
 refine yT (hpB ((cutF s).2) ([64, 109, 105, 115, 115, 105, 110, 103, 58] : List UInt8)) ?_ ?_
 ·intro bl
  have := hp_len bl; simp only [List.length_cons, List.length_nil] at this
  replace b := zC b ab
  refine zH (nQ (zT (wR (zr (pt z 1) (z1 1 (U8 3) [(I6 no), (U8 3), (S []), l, (S ((cutF s).2))] b ?_)))))
  intro bv ax
  replace b := ax.here
  refine nQ (zP (wB 4 b rfl (qH ((cutF s).2) 9 underlying9 zk ⟨.i64, zk⟩ zo (zc (c_lines_Cut (List.drop 9 ((cutF s).2)) _ (by (simp only [List.length_drop, List.length_take] at *; omega))) ?_))))
  rintro _ bs ⟨ac, rfl, k, az⟩
  replace o := (((((((o.tr j).trans (i.below e)).trans (h.below e)).tr f).tr r).tr q).tr ab).trans (ax.below e)
  replace k := k.base o.size
  replace b := zC b az
  refine zD (zr ac (zr (S ((cutF (List.drop 9 ((cutF s).2))).2)) (zr (pt z 3) (xC z 3 ac [(I6 no), (U8 3), (S []), l, (S ((cutF s).2))] [(I6 no), (U8 3), (S []), ac, (S ((cutF s).2))] 72 zk zk k.one zk b zi rfl ?_))))
  intro bq ak
  replace k := k.wrote ak (k.ne b zi)
  replace b := ak.here
  refine zr (pt z 4) (z1 4 (S ((cutF (List.drop 9 ((cutF s).2))).2)) [(I6 no), (U8 3), (S []), ac, (S ((cutF (List.drop 9 ((cutF s).2))).2))] b ?_)
  intro bz al
  replace k := k.wrote al (k.ne b zi)
  replace b := al.here
  replace c := zI (zI (zC (zI (zC (zC (zC (zC (zI (zI (zC (zI (zC c u.below) y a) j) i a) h a) f) r) q) ab) ax a) az) ak a) al a
  refine zQ (zJ (zB (wR (vT b (xU b1 0 [(I6 no), (U8 3), (S []), ac, (S ((cutF (List.drop 9 ((cutF s).2))).2))] [(I6 0), (U8 0), (S []), (.slice none 0 0), (S [])] [(I6 no), (U8 3), (S []), ac, (S ((cutF (List.drop 9 ((cutF s).2))).2))] 72 zk zk (yZ rfl (yZ rfl (yZ rfl (yZ k.one (yZ rfl rfl))))) zk c zk rfl ?_)))))
  intro cc au
  replace k := k.wrote au (k.ne c zi)
  replace c := au.here
  refine zH (nQ (zR (yM [.cell 4 72, .tmp 5] [(Value.agg #[(I6 no), (U8 3), (S []), ac, (S ((cutF (List.drop 9 ((cutF s).2))).2))]), (I6 0)] rfl rfl ⟨⟨⟨b1, 0, none⟩, zk, yH [(I6 no), (U8 3), (S []), ac, (S ((cutF (List.drop 9 ((cutF s).2))).2))] zk zk (yE c)⟩, zk, trivial⟩ ?_)))
  replace o := (((o.tr az).trans (ak.below e)).trans (al.below e)).trans (au.below aa)
  exact ⟨ac, yV (by (rw [uG za za za]; try rfl; done)) (e6 (by (rw [uG za za za]; try rfl; done))), k.cast (by (rw [uG za za za]; try rfl; done)), o⟩
 intro b2
 replace c := zC (zC (zC (zC (zI (zI (zC (zI (zC c u.below) y a) j) i a) h a) f) r) q) ab
 replace b := zC b ab
 replace d := (((d.below f).below r).below q).below ab
 refine zH (nQ (zF (zK (zJ (zB (wR (vT b (xU b1 0 [(I6 no), (U8 0), (S []), l, (S ((cutF s).2))] [(I6 0), (U8 0), (S []), (.slice none 0 0), (S [])] [(I6 no), (U8 0), (S []), l, (S ((cutF s).2))] 72 zk zk (yZ rfl (yZ rfl (yZ rfl (yZ d.one (yZ rfl rfl))))) zk c zk rfl ?_))))))))
 intro b5 aw
 replace d := d.wrote aw (d.ne c zi)
 replace c := aw.here
 refine zH (nQ (zR (yM [.cell 4 72, .tmp 5] [(Value.agg #[(I6 no), (U8 0), (S []), l, (S ((cutF s).2))]), (I6 0)] rfl rfl ⟨⟨⟨b1, 0, none⟩, zk, yH [(I6 no), (U8 0), (S []), l, (S ((cutF s).2))] zk zk (yE c)⟩, zk, trivial⟩ ?_)))
 replace o := (((((((o.tr j).trans (i.below e)).trans (h.below e)).tr f).tr r).tr q).tr ab).trans (aw.below aa)
 exact ⟨l, yV (by (rw [uY za za za]; try rfl; done)) (e6 (by (rw [uY za za za]; try rfl; done))), d.cast (by (rw [uY za za za]; try rfl; done)), o⟩
end Go.Proofs.YtkclikfejmeblaaGreatDoor
end

/- === Wlread === -/
section
/- Walks, written by my program walk.py out of the specification lread.py: each theorem says what one function returns and that it leaves memory as it was. -/
namespace Go.Proofs.YtkclikfejmeblaaGreatDoor
open Go Go.RowKit Go.FK _root_.Go.Proofs.Tryz
set_option maxHeartbeats 4000000
set_option maxRecDepth 100000
theorem c_lines_Read_ok (f : List UInt8) (s : List UInt8) (w : World) (hs : s.length ≤ 1073741824) (hok : (badL (toldF s)).2 = 0) :
  Calls Tryz.prog 27 #[(S f), (S s)] w (Ret fun v w' => ∃ (l0 : List LineV) (q0 : Value), v = (.tuple #[q0, .nilIface]) ∧ NRow 9 w' w.heap.size 72 5 encLine q0 l0 ∧ l0.map stripL = linesF (toldF s) ∧ Below w.heap.size w w') := by
 refine enterM (args := [(S f), (S s)]) func27 rfl (zk : _ = 34) zk ?_
 have t := Below.refl w.heap.size w
 refine wR (zN [(S f)] 9 ?_)
 intro b1 w2 bh
 have bz := bh.ge t.size
 have n := bh.here
 refine zN [(.slice none 0 0)] 58 ?_
 intro b4 w5 ba
 have t := t.tr bh.below
 have bn := ba.ge t.size
 have d := ba.here
 refine zN [.nilIface] 25 ?_
 intro b7 w8 a3
 have t := t.tr ba.below
 have bk := a3.ge t.size
 have i := a3.here
 refine nR (zN [(.slice none 0 0)] 58 ?_)
 intro bb cg ag
 have d := zC d a3.below
 have az := NE_new (yL d) ag
 have t := t.tr a3.below
 have bq := ag.ge t.size
 have m := ag.here
 refine nW (wR (zD (zc (c_lines_Each s _ ) ?_)))
 rintro _ z ⟨al, rfl, b, av, ao⟩
 have t := t.tr ag.below
 replace av := Nat.le_trans t.size av
 refine nQ (zW ?_)
 have n := zC (zC (zC (zC n ba.below) a3.below) ag.below) ao
 have ak : b1 < z.heap.size := yL n
 have d := zC (zC d ag.below) ao
 have ar : b4 < z.heap.size := yL d
 have i := zC (zC i ag.below) ao
 have am : b7 < z.heap.size := yL i
 have m := zC m ao
 have aq : bb < z.heap.size := yL m
 have ac : al < z.heap.size := yL b
 have t := t.tr ao
 have a8 := t.size
 have b0 := t
 refine W_range 90 [(pt al 0)] (toldF s) zk (fun _ _ => rfl) (it_lines_Each_1 al s zo) b ((fun D A B h hc hd => yG h hc (fun h => Nat.not_lt.2 (hd _ h) ac))) (by intro x; rfl) (fun K a2 A => ∃ (ai : List LineV) (p : Value), (A.heap[b1]? = some (.cells [(S f)].toArray 9 (0, 0))) ∧ (A.heap[b4]? = some (.cells [(.slice none 0 0)].toArray 58 (0, 0))) ∧ (A.heap[b7]? = some (.cells [.nilIface].toArray 25 (0, 0))) ∧ (A.heap[bb]? = some (.cells [p].toArray 58 (0, 0))) ∧ (A.heap[al]? = some (.cells [(S s)].toArray 9 (0, 0))) ∧ (NRow 9 A w.heap.size 72 5 encLine p ai) ∧ (∀ g, NOwn p ai g → ¬ Iv z.heap.size K g) ∧ (Below w.heap.size w A) ∧ (ai.map stripL = linesF a2) ∧ (ai.length ≤ a2.length)) (fun K c a2 A => False) ?_ ?_ ?_ ?_ ?_ ?_
 ·intro A hA
  exact ⟨[], (.slice none 0 0), zC n hA, zC d hA, zC i hA, zC m hA, zC b hA, NRow.nil _ _ _ _ _ _, nrN_nil _ _, t.trans (hA.mono t.size), by rfl, by exact Nat.le_refl _⟩
 ·rintro K a2 A B ⟨ai, p, n, d, i, m, b, a, j, t, p1, p3⟩ hc
  exact ⟨ai, p, yG n hc (fun h => Nat.not_lt.2 h.1 ak), yG d hc (fun h => Nat.not_lt.2 h.1 ar), yG i hc (fun h => Nat.not_lt.2 h.1 am), yG m hc (fun h => Nat.not_lt.2 h.1 aq), yG b hc (fun h => Nat.not_lt.2 h.1 ac), a.ch hc j, j, hc.below t t.size (fun k h => Nat.le_trans a8 h.1), p1, p3⟩
 ·intro K c _ A B h hc; exact h.elim
 ·intro l K a2 x A hi hN cb hK a1
  obtain ⟨ai, p, n, d, i, m, b, a, j, t, p1, p3⟩ := hi
  have hk := Kp.refl (z.heap.size) K A
  have bg : ¬ Iv (z.heap.size) K b1 := fun h => Nat.not_lt.2 h.1 ak
  have bf : ¬ Iv (z.heap.size) K b4 := fun h => Nat.not_lt.2 h.1 ar
  have be : ¬ Iv (z.heap.size) K b7 := fun h => Nat.not_lt.2 h.1 am
  have a6 : ¬ Iv (z.heap.size) K bb := fun h => Nat.not_lt.2 h.1 aq
  have a7 : ¬ Iv (z.heap.size) K al := fun h => Nat.not_lt.2 h.1 ac
  have b := hN
  have ck := told_short (pre_mem a1)
  have b3 := pre_lt a1
  have b2 := Zm s
  refine wR (zH (nQ (zP (zH (zQ (zB ⟨hk, ?_⟩))))))
  intro bt af
  have t := af.below t t.size (fun k h => Nat.le_trans a8 h.1)
  replace hK := Nat.le_trans hK af.size
  replace hk := Kp.refl (z.heap.size) K bt
  refine zW (wR (zD (zD (zc (c_lines_Scan x.1 x.2 _ zo) ?_))))
  rintro _ b5 ⟨au, rfl, o, ae⟩
  have ay := nr_row (K0 := z.heap.size) o hK
  have n := yG n af bg
  have a4 := Row.nb_call o n
  have b := yG b af a7
  have ax := Row.nb_call o b
  have o := o.base t.size
  replace hk := hk.ch (Ch.of_below ae) hK (fun _ h => h.elim)
  replace hK := Nat.le_trans hK (ae.size)
  have := scan_err x.1 x.2
  refine zD (zr (Value.agg #[(I6 ((scanF x.1 x.2).1.1)), (U8 ((scanF x.1 x.2).1.2.1)), (S ((scanF x.1 x.2).1.2.2.1)), au, (S ((scanF x.1 x.2).1.2.2.2.2))]) (zr (I6 ((scanF x.1 x.2).2)) (zN [(I6 0), (U8 0), (S []), (.slice none 0 0), (S [])] 72 ?_)))
  intro bj ca r
  have t := t.tr ae
  have bo := r.ge t.size
  have bc : ¬ Iv z.heap.size K bj := fun h => by have := h.2; have := r.num; omega
  have a := (a.ch af j).below ae
  have q := a.new_ne r
  replace hk := hk.ch (Ch.of_below r.below) hK (fun _ h => h.elim)
  replace hK := Nat.le_trans hK (r.below.size)
  have y := r.here
  have o := o.below r.below
  refine xU bj 0 [(I6 ((scanF x.1 x.2).1.1)), (U8 ((scanF x.1 x.2).1.2.1)), (S ((scanF x.1 x.2).1.2.2.1)), au, (S ((scanF x.1 x.2).1.2.2.2.2))] [(I6 0), (U8 0), (S []), (.slice none 0 0), (S [])] [(I6 ((scanF x.1 x.2).1.1)), (U8 ((scanF x.1 x.2).1.2.1)), (S ((scanF x.1 x.2).1.2.2.1)), au, (S ((scanF x.1 x.2).1.2.2.2.2))] 72 zk zk (yZ rfl (yZ rfl (yZ rfl (yZ o.one (yZ rfl rfl))))) zk y zk rfl ?_
  intro ci u
  replace hk := hk.ch (Ch.of_wrote u) hK (fun k e h => bc (e ▸ h))
  replace hK := Nat.le_trans hK (Nat.le_of_eq u.size.symm)
  have n := zC (zC n ae) r.below
  have n := zI n u (zU n y zi)
  have d := zC (zC (yG d af bf) ae) r.below
  have d := zI d u (zU d y zi)
  have i := zC (zC (yG i af be) ae) r.below
  have i := zI i u (zU i y zi)
  have m := zC (zC (yG m af a6) ae) r.below
  have m := zI m u (zU m y zi)
  have b := zC (zC b ae) r.below
  have b := zI b u (zU b y zi)
  have o := o.wrote u (o.ne y zi)
  have y := u.here
  refine zH (nW (wR (zD (zNe .i64 ((scanF x.1 x.2).2) 0 ?_ ?_))))
  ·intro bv
   exfalso; exact absurd (bad_mem hok a1) bv
  intro cd
  have t := (t.tr r.below).trans (u.below bo)
  have a := (a.below r.below).wrote u q
  refine nQ (zF (zK (zB (zP (zO 0 m rfl (vT y (wH el58 w.heap.size p ai ((scanF x.1 x.2).1.1, (scanF x.1 x.2).1.2.1, (scanF x.1 x.2).1.2.2.1, (au, (scanF x.1 x.2).1.2.2.2.1), (scanF x.1 x.2).1.2.2.2.2) t.size a.1 zo zk rfl (yZ rfl (yZ rfl (yZ rfl (yZ o.one (yZ rfl rfl))))) zk rfl zk zk ?_)))))))
  intro bd cf bl aa a5
  have bm := nrN_push (x := ((scanF x.1 x.2).1.1, (scanF x.1 x.2).1.2.1, (scanF x.1 x.2).1.2.2.1, (au, (scanF x.1 x.2).1.2.2.2.1), (scanF x.1 x.2).1.2.2.2.2)) j (nr_app a5 (fun g e => j g (.inl e)) hK) ay
  have ah := wZ a5 (fun e => q (.inl e)) (yL y)
  have ah := nbN_push (x := ((scanF x.1 x.2).1.1, (scanF x.1 x.2).1.2.1, (scanF x.1 x.2).1.2.2.1, (au, (scanF x.1 x.2).1.2.2.2.1), (scanF x.1 x.2).1.2.2.2.2)) q ah (o.ne y zi)
  have t := t.tg t.size aa a.1
  replace hk := hk.ch (Ch.of_grown aa) hK (fun k e => j k (.inl e))
  replace hK := Nat.le_trans hK (aa.size)
  have n := zY n aa (a.1.ne n zi)
  have d := zY d aa (a.1.ne d zi)
  have i := zY i aa (a.1.ne i zi)
  have m := zY m aa (a.1.ne m zi)
  have b := zY b aa (a.1.ne b zi)
  have o := o.grown aa (o.apart a.1 zk)
  have q := ah
  have a := NRow.push a aa bl o zk
  have j := bm; clear bm
  refine xC bb 0 bd [p] [bd] 58 zk zk a.one zk m zi rfl ?_
  intro b6 ad
  replace hk := hk.ch (Ch.of_wrote ad) hK (fun k e h => a6 (e ▸ h))
  replace hK := Nat.le_trans hK (Nat.le_of_eq ad.size.symm)
  have n := zI n ad (zU n m zi)
  have i := zI i ad (zU i m zi)
  have b := zI b ad (zU b m zi)
  have a := a.wrote ad (a.ne m zi)
  have m := ad.here
  refine zQ (zJ ?_)
  have t := t.trans (ad.below bq)
  have d := zI d ad az
  refine qY hk b ⟨(ai ++ [((scanF x.1 x.2).1.1, (scanF x.1 x.2).1.2.1, (scanF x.1 x.2).1.2.2.1, (au, (scanF x.1 x.2).1.2.2.2.1), (scanF x.1 x.2).1.2.2.2.2)]), bd, n, d, i, m, b, a, j, t, ?_, ?_⟩
  ·exact lines_snoc p1 rfl
  simp only [List.length_append, List.length_cons, List.length_nil]; omega
 ·intro K A hi cc ab
  obtain ⟨ai, p, n, d, i, m, b, a, j, t, p1, p3⟩ := hi
  refine zJ (zB (wR (zO 0 m rfl (xC b4 0 p [(.slice none 0 0)] [p] 58 zk zk a.one zk d zi rfl ?_))))
  intro cj an
  have i := zI i an (zU i d zi)
  have ab := zI ab an (zU ab d zi)
  have a := a.wrote an (a.ne d zi)
  have d := an.here
  refine z1 0 .nilIface [.nilIface] i ?_
  intro ce ap
  have d := zI d ap (zU d i zi)
  have ab := zI ab ap (zU ab i zi)
  have a := a.wrote ap (a.ne i zi)
  have i := ap.here
  refine nQ (zR (wN (ds := [⟨.collected z.heap.size, #[]⟩]) zk (Lv_mark ab ?_)))
  intro b9 aw
  have d := zI d aw (zU d ab zi)
  have i := zI i aw (zU i ab zi)
  have a := a.wrote aw (a.ne ab zi)
  refine vL [.cell 4 58, .cell 5 25] [p, .nilIface] rfl ⟨⟨⟨b4, 0, none⟩, zk, load_one zk (yI d rfl)⟩, ⟨⟨b7, 0, none⟩, zk, load_one zk (yI i rfl)⟩, trivial⟩ ?_
  have t := ((t.trans (an.below bn)).trans (ap.below bk)).trans (aw.below a8)
  exact ⟨ai, p, rfl, a, za, t⟩
 intro K c _ x A _ h; exact h.elim
theorem c_lines_Read_bad (f : List UInt8) (s : List UInt8) (w : World) (hs : s.length ≤ 1073741824) (hbad : (badL (toldF s)).2 ≠ 0) :
  Calls Tryz.prog 27 #[(S f), (S s)] w (Ret fun v w' => ∃ (cb0 : Nat), v = (.tuple #[(.slice none 0 0), (.iface 73 (pt cb0 0))]) ∧ w'.heap[cb0]? = some (.cells [(S f), (I6 ((badL (toldF s)).1)), (I6 ((badL (toldF s)).2))].toArray 75 (0, 0)) ∧ w.heap.size ≤ cb0 ∧ Below w.heap.size w w') := by
 refine enterM (args := [(S f), (S s)]) func27 rfl (zk : _ = 34) zk ?_
 have q := Below.refl w.heap.size w
 refine wR (zN [(S f)] 9 ?_)
 intro b1 w2 ca
 have ct := ca.ge q.size
 have i := ca.here
 refine zN [(.slice none 0 0)] 58 ?_
 intro b4 w5 b0
 have q := q.tr ca.below
 have bt := b0.ge q.size
 have b := b0.here
 refine zN [.nilIface] 25 ?_
 intro b7 w8 bo
 have q := q.tr b0.below
 have bl := bo.ge q.size
 have d := bo.here
 refine nR (zN [(.slice none 0 0)] 58 ?_)
 intro b2 db au
 have b := zC b bo.below
 have bk := NE_new (yL b) au
 have q := q.tr bo.below
 have ck := au.ge q.size
 have n := au.here
 refine nW (wR (zD (zc (c_lines_Each s _ ) ?_)))
 rintro _ ab ⟨a2, rfl, a, be, a8⟩
 have q := q.tr au.below
 replace be := Nat.le_trans q.size be
 refine nQ (zW ?_)
 have i := zC (zC (zC (zC i b0.below) bo.below) au.below) a8
 have ar : b1 < ab.heap.size := yL i
 have b := zC (zC b au.below) a8
 have ay : b4 < ab.heap.size := yL b
 have d := zC (zC d au.below) a8
 have av : b7 < ab.heap.size := yL d
 have n := zC n a8
 have a9 : b2 < ab.heap.size := yL n
 have ac : a2 < ab.heap.size := yL a
 have q := q.tr a8
 have bh := q.size
 have cu := q
 refine W_range 90 [(pt a2 0)] (toldF s) zk (fun _ _ => rfl) (it_lines_Each_1 a2 s zo) a ((fun D A B h hc hd => yG h hc (fun h => Nat.not_lt.2 (hd _ h) ac))) (by intro x; rfl) (fun K a1 A => ∃ (a6 : List LineV) (y : Value), (A.heap[b1]? = some (.cells [(S f)].toArray 9 (0, 0))) ∧ (A.heap[b4]? = some (.cells [(.slice none 0 0)].toArray 58 (0, 0))) ∧ (A.heap[b7]? = some (.cells [.nilIface].toArray 25 (0, 0))) ∧ (A.heap[b2]? = some (.cells [y].toArray 58 (0, 0))) ∧ (A.heap[a2]? = some (.cells [(S s)].toArray 9 (0, 0))) ∧ (NRow 9 A w.heap.size 72 5 encLine y a6) ∧ (∀ g, NOwn y a6 g → ¬ Iv ab.heap.size K g) ∧ (Below w.heap.size w A) ∧ ((badL a1).2 = 0) ∧ (a6.length ≤ a1.length)) (fun K c a1 A => (∃ (bq : Nat) (no : Int) (e : Int), (c = .ret) ∧ (A.heap[b1]? = some (.cells [(S f)].toArray 9 (0, 0))) ∧ (A.heap[b4]? = some (.cells [(.slice none 0 0)].toArray 58 (0, 0))) ∧ (A.heap[b7]? = some (.cells [(.iface 73 (pt bq 0))].toArray 25 (0, 0))) ∧ (A.heap[a2]? = some (.cells [(S s)].toArray 9 (0, 0))) ∧ (A.heap[bq]? = some (.cells [(S f), (I6 no), (I6 e)].toArray 75 (0, 0))) ∧ (w.heap.size ≤ bq) ∧ (¬ Iv ab.heap.size K bq) ∧ (Below w.heap.size w A) ∧ (badL a1 = (no, e)) ∧ (e ≠ 0))) ?_ ?_ ?_ ?_ ?_ ?_
 ·intro A hA
  exact ⟨[], (.slice none 0 0), zC i hA, zC b hA, zC d hA, zC n hA, zC a hA, NRow.nil _ _ _ _ _ _, nrN_nil _ _, q.trans (hA.mono q.size), by rfl, by exact Nat.le_refl _⟩
 ·rintro K a1 A B ⟨a6, y, i, b, d, n, a, j, m, q, p2, p3⟩ hc
  exact ⟨a6, y, yG i hc (fun h => Nat.not_lt.2 h.1 ar), yG b hc (fun h => Nat.not_lt.2 h.1 ay), yG d hc (fun h => Nat.not_lt.2 h.1 av), yG n hc (fun h => Nat.not_lt.2 h.1 a9), yG a hc (fun h => Nat.not_lt.2 h.1 ac), j.ch hc m, m, hc.below q q.size (fun k h => Nat.le_trans bh h.1), p2, p3⟩
 ·rintro K c a1 A B (⟨bq, no, e, cq, i, b, d, a, a3, bu, bd, q, q1, q2⟩) hc
  exact ⟨bq, no, e, cq, yG i hc (fun h => Nat.not_lt.2 h.1 ar), yG b hc (fun h => Nat.not_lt.2 h.1 ay), yG d hc (fun h => Nat.not_lt.2 h.1 av), yG a hc (fun h => Nat.not_lt.2 h.1 ac), yG a3 hc bd, bu, bd, hc.below q q.size (fun k h => Nat.le_trans bh h.1), q1, q2⟩
 ·intro l K a1 x A hi hN c6 z a7
  obtain ⟨a6, y, i, b, d, n, a, j, m, q, p2, p3⟩ := hi
  have hk := Kp.refl (ab.heap.size) K A
  have b6 : ¬ Iv (ab.heap.size) K b1 := fun h => Nat.not_lt.2 h.1 ar
  have a5 : ¬ Iv (ab.heap.size) K b4 := fun h => Nat.not_lt.2 h.1 ay
  have a4 : ¬ Iv (ab.heap.size) K b7 := fun h => Nat.not_lt.2 h.1 av
  have bv : ¬ Iv (ab.heap.size) K b2 := fun h => Nat.not_lt.2 h.1 a9
  have bw : ¬ Iv (ab.heap.size) K a2 := fun h => Nat.not_lt.2 h.1 ac
  have a := hN
  have dk := told_short (pre_mem a7)
  have cy := pre_lt a7
  have cx := Zm s
  refine wR (zH (nQ (zP (zH (zQ (zB ⟨hk, ?_⟩))))))
  intro cn ap
  have q := ap.below q q.size (fun k h => Nat.le_trans bh h.1)
  replace z := Nat.le_trans z ap.size
  replace hk := Kp.refl (ab.heap.size) K cn
  refine zW (wR (zD (zD (zc (c_lines_Scan x.1 x.2 _ zo) ?_))))
  rintro _ cz ⟨bc, rfl, p, al⟩
  have bj := nr_row (K0 := ab.heap.size) p z
  have i := yG i ap b6
  have br := Row.nb_call p i
  have a := yG a ap bw
  have bi := Row.nb_call p a
  have p := p.base q.size
  replace hk := hk.ch (Ch.of_below al) z (fun _ h => h.elim)
  replace z := Nat.le_trans z (al.size)
  have := scan_err x.1 x.2
  refine zD (zr (Value.agg #[(I6 ((scanF x.1 x.2).1.1)), (U8 ((scanF x.1 x.2).1.2.1)), (S ((scanF x.1 x.2).1.2.2.1)), bc, (S ((scanF x.1 x.2).1.2.2.2.2))]) (zr (I6 ((scanF x.1 x.2).2)) (zN [(I6 0), (U8 0), (S []), (.slice none 0 0), (S [])] 72 ?_)))
  intro cd c4 t
  have q := q.tr al
  have bg := t.ge q.size
  have b5 : ¬ Iv ab.heap.size K cd := fun h => by have := h.2; have := t.num; omega
  have j := (j.ch ap m).below al
  have r := j.new_ne t
  replace hk := hk.ch (Ch.of_below t.below) z (fun _ h => h.elim)
  replace z := Nat.le_trans z (t.below.size)
  have ae := t.here
  have p := p.below t.below
  refine xU cd 0 [(I6 ((scanF x.1 x.2).1.1)), (U8 ((scanF x.1 x.2).1.2.1)), (S ((scanF x.1 x.2).1.2.2.1)), bc, (S ((scanF x.1 x.2).1.2.2.2.2))] [(I6 0), (U8 0), (S []), (.slice none 0 0), (S [])] [(I6 ((scanF x.1 x.2).1.1)), (U8 ((scanF x.1 x.2).1.2.1)), (S ((scanF x.1 x.2).1.2.2.1)), bc, (S ((scanF x.1 x.2).1.2.2.2.2))] 72 zk zk (yZ rfl (yZ rfl (yZ rfl (yZ p.one (yZ rfl rfl))))) zk ae zk rfl ?_
  intro dh aa
  replace hk := hk.ch (Ch.of_wrote aa) z (fun k e h => b5 (e ▸ h))
  replace z := Nat.le_trans z (Nat.le_of_eq aa.size.symm)
  have i := zC (zC i al) t.below
  have i := zI i aa (zU i ae zi)
  have b := zC (zC (yG b ap a5) al) t.below
  have b := zI b aa (zU b ae zi)
  have d := zC (zC (yG d ap a4) al) t.below
  have d := zI d aa (zU d ae zi)
  have n := zC (zC (yG n ap bv) al) t.below
  have n := zI n aa (zU n ae zi)
  have a := zC (zC a al) t.below
  have a := zI a aa (zU a ae zi)
  have p := p.wrote aa (p.ne ae zi)
  have ae := aa.here
  refine zH (nW (wR (zD (zNe .i64 ((scanF x.1 x.2).2) 0 ?_ ?_))))
  ·intro c9
   refine nQ (zT (yA (wD 8 zk zk zk ?_)))
   intro di u
   replace hk := hk.ch (Ch.of_below u) z (fun _ h => h.elim)
   replace z := Nat.le_trans z (u.size)
   refine ip 1 rfl (I6 x.1) (ip 2 rfl (I6 ((scanF x.1 x.2).2)) (qD 0 6 zk ?_ ?_))
   ·skip
    refine yO 0 rfl ?_ rfl
    have i := zC i u
    refine zO 0 i rfl (zQ ?_)
    refine ⟨rfl, ip 3 rfl (Value.agg #[(S f), (I6 x.1), (I6 ((scanF x.1 x.2).2))]) (qD 4 6 zk ?_ ?_)⟩
    ·skip
     refine yO 4 rfl ?_ rfl
     refine zN [(S f), (I6 x.1), (I6 ((scanF x.1 x.2).2))] 75 ?_
     intro bs c2 af
     have q := ((q.tr t.below).trans (aa.below bg)).tr u
     have a0 := af.ge q.size
     have ak : ¬ Iv ab.heap.size K bs := fun h => by have := h.2; have := af.num; omega
     replace hk := hk.ch (Ch.of_below af.below) z (fun _ h => h.elim)
     replace z := Nat.le_trans z (af.below.size)
     have o := af.here
     refine zQ ?_
     refine ⟨rfl, ip 5 rfl (.iface 73 (pt bs 0)) (yC 6 zk (yO 6 rfl ?_ rfl))⟩
     have b := zC (zC b u) af.below
     refine z1 0 (.slice none 0 0) [(.slice none 0 0)] b ?_
     intro cw an
     replace hk := hk.ch (Ch.of_wrote an) z (fun k e h => a5 (e ▸ h))
     replace z := Nat.le_trans z (Nat.le_of_eq an.size.symm)
     have i := zC i af.below
     have i := zI i an (zU i b zi)
     have d := zC (zC d u) af.below
     have d := zI d an (zU d b zi)
     have a := zC (zC a u) af.below
     have a := zI a an (zU a b zi)
     have o := zI o an (zU o b zi)
     have b := an.here
     refine zQ ?_
     refine ⟨rfl, yC 7 zk (yO 7 rfl ?_ rfl)⟩
     refine z1 0 (.iface 73 (pt bs 0)) [(.iface 73 (pt bs 0))] d ?_
     intro de am
     replace hk := hk.ch (Ch.of_wrote am) z (fun k e h => a4 (e ▸ h))
     replace z := Nat.le_trans z (Nat.le_of_eq am.size.symm)
     have i := zI i am (zU i d zi)
     have b := zI b am (zU b d zi)
     have a := zI a am (zU a d zi)
     have o := zI o am (zU o d zi)
     have d := am.here
     refine zQ ?_
     refine ⟨rfl, yJ zk (zB (zR (zG (zL ?_))))⟩
     have q := ((q.tr af.below).trans (an.below bt)).trans (am.below bl)
     refine round_ret hk (⟨bs, x.1, ((scanF x.1 x.2).2), rfl, i, b, d, a, o, a0, ak, q, ?_, ?_⟩)
     ·exact bad_snoc p2 za
     assumption
    skip
    refine yO 6 rfl ?_ rfl
    have b := zC b u
    refine z1 0 (.slice none 0 0) [(.slice none 0 0)] b ?_
    intro dg ax
    replace hk := hk.ch (Ch.of_wrote ax) z (fun k e h => a5 (e ▸ h))
    replace z := Nat.le_trans z (Nat.le_of_eq ax.size.symm)
    have i := zI i ax (zU i b zi)
    have d := zC d u
    have d := zI d ax (zU d b zi)
    have a := zC a u
    have a := zI a ax (zU a b zi)
    have b := ax.here
    refine zQ ?_
    refine ⟨rfl, yC 4 zk (yO 4 rfl ?_ rfl)⟩
    refine zN [(S f), (I6 x.1), (I6 ((scanF x.1 x.2).2))] 75 ?_
    intro bn c1 ai
    have q := (((q.tr t.below).trans (aa.below bg)).tr u).trans (ax.below bt)
    have a0 := ai.ge q.size
    have ak : ¬ Iv ab.heap.size K bn := fun h => by have := h.2; have := ai.num; omega
    replace hk := hk.ch (Ch.of_below ai.below) z (fun _ h => h.elim)
    replace z := Nat.le_trans z (ai.below.size)
    have o := ai.here
    refine zQ ?_
    refine ⟨rfl, ip 5 rfl (.iface 73 (pt bn 0)) (yC 7 zk (yO 7 rfl ?_ rfl))⟩
    have d := zC d ai.below
    refine z1 0 (.iface 73 (pt bn 0)) [(.iface 73 (pt bn 0))] d ?_
    intro df ao
    replace hk := hk.ch (Ch.of_wrote ao) z (fun k e h => a4 (e ▸ h))
    replace z := Nat.le_trans z (Nat.le_of_eq ao.size.symm)
    have i := zC i ai.below
    have i := zI i ao (zU i d zi)
    have b := zC b ai.below
    have b := zI b ao (zU b d zi)
    have a := zC a ai.below
    have a := zI a ao (zU a d zi)
    have o := zI o ao (zU o d zi)
    have d := ao.here
    refine zQ ?_
    refine ⟨rfl, yJ zk (zB (zR (zG (zL ?_))))⟩
    have q := (q.tr ai.below).trans (ao.below bl)
    refine round_ret hk (⟨bn, x.1, ((scanF x.1 x.2).2), rfl, i, b, d, a, o, a0, ak, q, ?_, ?_⟩)
    ·exact bad_snoc p2 za
    assumption
   skip
   refine yO 6 rfl ?_ rfl
   have b := zC b u
   refine z1 0 (.slice none 0 0) [(.slice none 0 0)] b ?_
   intro dj az
   replace hk := hk.ch (Ch.of_wrote az) z (fun k e h => a5 (e ▸ h))
   replace z := Nat.le_trans z (Nat.le_of_eq az.size.symm)
   have i := zC i u
   have i := zI i az (zU i b zi)
   have d := zC d u
   have d := zI d az (zU d b zi)
   have a := zC a u
   have a := zI a az (zU a b zi)
   have b := az.here
   refine zQ ?_
   refine ⟨rfl, yC 0 zk (yO 0 rfl ?_ rfl)⟩
   refine zO 0 i rfl (zQ ?_)
   refine ⟨rfl, ip 3 rfl (Value.agg #[(S f), (I6 x.1), (I6 ((scanF x.1 x.2).2))]) (yC 4 zk (yO 4 rfl ?_ rfl))⟩
   refine zN [(S f), (I6 x.1), (I6 ((scanF x.1 x.2).2))] 75 ?_
   intro bx c3 ah
   have q := (((q.tr t.below).trans (aa.below bg)).tr u).trans (az.below bt)
   have a0 := ah.ge q.size
   have ak : ¬ Iv ab.heap.size K bx := fun h => by have := h.2; have := ah.num; omega
   replace hk := hk.ch (Ch.of_below ah.below) z (fun _ h => h.elim)
   replace z := Nat.le_trans z (ah.below.size)
   have o := ah.here
   refine zQ ?_
   refine ⟨rfl, ip 5 rfl (.iface 73 (pt bx 0)) (yC 7 zk (yO 7 rfl ?_ rfl))⟩
   have d := zC d ah.below
   refine z1 0 (.iface 73 (pt bx 0)) [(.iface 73 (pt bx 0))] d ?_
   intro da aq
   replace hk := hk.ch (Ch.of_wrote aq) z (fun k e h => a4 (e ▸ h))
   replace z := Nat.le_trans z (Nat.le_of_eq aq.size.symm)
   have i := zC i ah.below
   have i := zI i aq (zU i d zi)
   have b := zC b ah.below
   have b := zI b aq (zU b d zi)
   have a := zC a ah.below
   have a := zI a aq (zU a d zi)
   have o := zI o aq (zU o d zi)
   have d := aq.here
   refine zQ ?_
   refine ⟨rfl, yJ zk (zB (zR (zG (zL ?_))))⟩
   have q := (q.tr ah.below).trans (aq.below bl)
   refine round_ret hk (⟨bx, x.1, ((scanF x.1 x.2).2), rfl, i, b, d, a, o, a0, ak, q, ?_, ?_⟩)
   ·exact bad_snoc p2 za
   assumption
  intro c7
  have q := (q.tr t.below).trans (aa.below bg)
  have j := (j.below t.below).wrote aa r
  refine nQ (zF (zK (zB (zP (zO 0 n rfl (vT ae (wH el58 w.heap.size y a6 ((scanF x.1 x.2).1.1, (scanF x.1 x.2).1.2.1, (scanF x.1 x.2).1.2.2.1, (bc, (scanF x.1 x.2).1.2.2.2.1), (scanF x.1 x.2).1.2.2.2.2) q.size j.1 zo zk rfl (yZ rfl (yZ rfl (yZ rfl (yZ p.one (yZ rfl rfl))))) zk rfl zk zk ?_)))))))
  intro b9 dd cf ag bm
  have ci := nrN_push (x := ((scanF x.1 x.2).1.1, (scanF x.1 x.2).1.2.1, (scanF x.1 x.2).1.2.2.1, (bc, (scanF x.1 x.2).1.2.2.2.1), (scanF x.1 x.2).1.2.2.2.2)) m (nr_app bm (fun g e => m g (.inl e)) z) bj
  have aw := wZ bm (fun e => r (.inl e)) (yL ae)
  have aw := nbN_push (x := ((scanF x.1 x.2).1.1, (scanF x.1 x.2).1.2.1, (scanF x.1 x.2).1.2.2.1, (bc, (scanF x.1 x.2).1.2.2.2.1), (scanF x.1 x.2).1.2.2.2.2)) r aw (p.ne ae zi)
  have q := q.tg q.size ag j.1
  replace hk := hk.ch (Ch.of_grown ag) z (fun k e => m k (.inl e))
  replace z := Nat.le_trans z (ag.size)
  have i := zY i ag (j.1.ne i zi)
  have b := zY b ag (j.1.ne b zi)
  have d := zY d ag (j.1.ne d zi)
  have n := zY n ag (j.1.ne n zi)
  have a := zY a ag (j.1.ne a zi)
  have p := p.grown ag (p.apart j.1 zk)
  have r := aw
  have j := NRow.push j ag cf p zk
  have m := ci; clear ci
  refine xC b2 0 b9 [y] [b9] 58 zk zk j.one zk n zi rfl ?_
  intro c8 aj
  replace hk := hk.ch (Ch.of_wrote aj) z (fun k e h => bv (e ▸ h))
  replace z := Nat.le_trans z (Nat.le_of_eq aj.size.symm)
  have i := zI i aj (zU i n zi)
  have d := zI d aj (zU d n zi)
  have a := zI a aj (zU a n zi)
  have j := j.wrote aj (j.ne n zi)
  have n := aj.here
  refine zQ (zJ ?_)
  have q := q.trans (aj.below ck)
  have b := zI b aj bk
  refine qY hk a ⟨(a6 ++ [((scanF x.1 x.2).1.1, (scanF x.1 x.2).1.2.1, (scanF x.1 x.2).1.2.2.1, (bc, (scanF x.1 x.2).1.2.2.2.1), (scanF x.1 x.2).1.2.2.2.2)]), b9, i, b, d, n, a, j, m, q, ?_, ?_⟩
  ·exact bad_snoc_ok p2 za
  simp only [List.length_append, List.length_cons, List.length_nil]; omega
 ·intro K A hi co ba
  obtain ⟨a6, y, i, b, d, n, a, j, m, q, p2, p3⟩ := hi
  exfalso; exact hbad p2
 intro K c ce x0 A a7 hx co ba
 obtain ⟨a1, bp⟩ : ∃ a1, a1 = ce ++ [x0] := ⟨_, rfl⟩
 rw [← bp] at a7; try rw [← bp] at hx
 rcases hx with ⟨bq, no, e, rfl, i, b, d, a, a3, bu, bd, q, q1, q2⟩
 have b8 := bad_pre a7 (by rw [q1]; exact q2)
 rw [q1] at b8
 obtain rfl : no = (badL (toldF s)).1 := by rw [b8]
 obtain rfl : e = (badL (toldF s)).2 := by rw [b8]
 refine zR (zL (zG (wN (ds := [⟨.collected ab.heap.size, #[]⟩]) zk (Lv_mark ba ?_))))
 intro dc bf
 have b := zI b bf (zU b ba zi)
 have d := zI d bf (zU d ba zi)
 have a3 := zI a3 bf (zU a3 ba zi)
 refine vL [.cell 4 58, .cell 5 25] [(.slice none 0 0), (.iface 73 (pt bq 0))] rfl ⟨⟨⟨b4, 0, none⟩, zk, load_one zk (yI b rfl)⟩, ⟨⟨b7, 0, none⟩, zk, load_one zk (yI d rfl)⟩, trivial⟩ ?_
 have q := q.trans (bf.below bh)
 exact ⟨bq, rfl, a3, bu, q⟩
end Go.Proofs.YtkclikfejmeblaaGreatDoor
end

/- === Wccor === -/
section
/- Walks, written by my program walk.py out of the specification ccor.py: each theorem says what one function returns and that it leaves memory as it was. -/
namespace Go.Proofs.YtkclikfejmeblaaGreatDoor
open Go Go.RowKit Go.FK _root_.Go.Proofs.Tryz
set_option maxHeartbeats 4000000
set_option maxRecDepth 100000
def laysRev_ren : Go.Shelf.Ren := ⟨fun | 35 => 112 | n => n, fun | 22 => 84 | 23 => 5 | n => n, fun | n => n⟩
theorem laysRev : Go.Proofs.SlLaysE.n35 Tryz.prog laysRev_ren := {
 mixed := by kernel_rfl
 f35 := ⟨Tryz.f112.name, zk, func112.trans (congrArg some zk)⟩
 t0 := underlying0
 a0 := Tryz.isAgg0
 z0 := Tryz.sizeOf0
 v0 := Tryz.zeroValue0
 t3 := underlying3
 a3 := Tryz.isAgg3
 z3 := Tryz.sizeOf3
 v3 := Tryz.zeroValue3
 t4 := underlying4
 a4 := Tryz.isAgg4
 z4 := Tryz.sizeOf4
 v4 := Tryz.zeroValue4
 t22 := underlying84
 a22 := Tryz.isAgg84
 z22 := Tryz.sizeOf84
 v22 := Tryz.zeroValue84
 a23 := Tryz.isAgg5
 z23 := Tryz.sizeOf5 }
theorem wP : Elem Tryz.prog 47 21 1 4 := ⟨underlying47, zk, rfl⟩
theorem el84 : Elem Tryz.prog 84 5 1 1 := ⟨underlying84, zk, rfl⟩
theorem c_words_Blank (r : Int) (w : World) :
  Calls Tryz.prog 168 #[(I3 r)] w (Ret fun v w' => v = (.bool (blankB r)) ∧ Below w.heap.size w w') := by
 refine wJ 23 func168 rfl ?_
 have a := Below.refl w.heap.size w
 refine wR (zH (nW (wR (zD (nQ (zW (yA (wR (qX .i32 r 9 ?_ ?_)))))))))
 ·intro h1
  exact zH (nQ (zT (zK (zB (zT (wR (zH (nQ (zR (zL (zG (zZ [(.bool true)] ⟨eb (by simp only [blankB]; simp [*] <;> omega), a⟩))))))))))))
 intro h2
 refine zH (nQ (zF (wR (qX .i32 r 11 ?_ ?_))))
 ·intro z
  exact zH (nQ (zT (zK (zB (zT (wR (zH (nQ (zR (zL (zG (zZ [(.bool true)] ⟨eb (by simp only [blankB]; simp [*] <;> omega), a⟩))))))))))))
 intro h4
 refine zH (nQ (zF (wR (qX .i32 r 12 ?_ ?_))))
 ·intro h5
  exact zH (nQ (zT (zK (zB (zT (wR (zH (nQ (zR (zL (zG (zZ [(.bool true)] ⟨eb (by simp only [blankB]; simp [*] <;> omega), a⟩))))))))))))
 intro h6
 refine zH (nQ (zF (wR (qX .i32 r 32 ?_ ?_))))
 ·intro h7
  exact zH (nQ (zT (zK (zB (zT (wR (zH (nQ (zR (zL (zG (zZ [(.bool true)] ⟨eb (by simp only [blankB]; simp [*] <;> omega), a⟩))))))))))))
 intro y
 refine zH (nQ (zF (wR (qX .i32 r 133 ?_ ?_))))
 ·intro h9
  exact zH (nQ (zT (zK (zB (zT (wR (zH (nQ (zR (zL (zG (zZ [(.bool true)] ⟨eb (by simp only [blankB]; simp [*] <;> omega), a⟩))))))))))))
 intro q
 refine zH (nQ (zF (wR (qX .i32 r 160 ?_ ?_))))
 ·intro u
  exact zH (nQ (zT (zK (zB (zT (wR (zH (nQ (zR (zL (zG (zZ [(.bool true)] ⟨eb (by simp only [blankB]; simp [*] <;> omega), a⟩))))))))))))
 intro k
 refine zH (nQ (zF (wR (qX .i32 r 5760 ?_ ?_))))
 ·intro l
  exact zH (nQ (zT (zK (zB (zT (wR (zH (nQ (zR (zL (zG (zZ [(.bool true)] ⟨eb (by simp only [blankB]; simp [*] <;> omega), a⟩))))))))))))
 intro s
 refine zH (nQ (zF (wR (qX .i32 r 8232 ?_ ?_))))
 ·intro g
  exact zH (nQ (zT (zK (zB (zT (wR (zH (nQ (zR (zL (zG (zZ [(.bool true)] ⟨eb (by simp only [blankB]; simp [*] <;> omega), a⟩))))))))))))
 intro n
 refine zH (nQ (zF (wR (qX .i32 r 8233 ?_ ?_))))
 ·intro i
  exact zH (nQ (zT (zK (zB (zT (wR (zH (nQ (zR (zL (zG (zZ [(.bool true)] ⟨eb (by simp only [blankB]; simp [*] <;> omega), a⟩))))))))))))
 intro j
 refine zH (nQ (zF (wR (qX .i32 r 8239 ?_ ?_))))
 ·intro b
  exact zH (nQ (zT (zK (zB (zT (wR (zH (nQ (zR (zL (zG (zZ [(.bool true)] ⟨eb (by simp only [blankB]; simp [*] <;> omega), a⟩))))))))))))
 intro d
 refine zH (nQ (zF (wR (qX .i32 r 8287 ?_ ?_))))
 ·intro m
  exact zH (nQ (zT (zK (zB (zT (wR (zH (nQ (zR (zL (zG (zZ [(.bool true)] ⟨eb (by simp only [blankB]; simp [*] <;> omega), a⟩))))))))))))
 intro o
 refine zH (nQ (zF (zP (qX .i32 r 12288 ?_ ?_))))
 ·intro h
  exact zH (nQ (zT (wR (zH (nQ (zR (zL (zG (zZ [(.bool true)] ⟨eb (by simp only [blankB]; simp [*] <;> omega), a⟩)))))))))
 intro t
 refine zH (nQ (zF (zK (zJ (zB (wR (zD (zGe .i32 r 8192 ?_ ?_))))))))
 ·intro f
  refine zD (zw (zD (zw (zLe .i32 r 8202 ?_ ?_))))
  ·intro p
   exact xJ (zH (nQ (zR (zZ [(.bool true)] ⟨eb (by simp only [blankB]; simp [*] <;> omega), a⟩))))
  intro c
  exact xJ (zH (nQ (zR (zZ [(.bool false)] ⟨eb (by simp only [blankB]; simp [*] <;> omega), a⟩))))
 intro e
 exact zD (zs (zs (xF (zH (nQ (zR (zZ [(.bool false)] ⟨eb (by simp only [blankB]; simp [*] <;> omega), a⟩)))))))
theorem c_utf_Encode (a : Value) (l : List (Int)) (w : World) (b : Rd w encI32 a l) :
  Calls Tryz.prog 169 #[a] w (Ret fun v w' => v = (S (encL l)) ∧ Below w.heap.size w w') := by
 refine wJ 5 func169 rfl ?_
 have c := Below.refl w.heap.size w
 exact wR (zH (nR (zD (L_runesStr a l underlying47 underlying21 underlying9 zk b (zH (nQ (zR (zZ [(S (encL l))] ⟨congrArg S (by first | rfl | (simp_all; done) | omega), c⟩))))))))
theorem c_words_Loose (s : List UInt8) (w : World) (hs : s.length ≤ 1073741824) :
  Calls Tryz.prog 152 #[(S s)] w (Ret fun v w' => v = (S (looseS s)) ∧ Below w.heap.size w w') := by
 refine wJ 35 func152 rfl ?_
 have h := Below.refl w.heap.size w
 refine wR (zH (nR (zH (nW (wR (zD (L_range s underlying9 zk ?_)))))))
 intro b1 w2 u
 have j := u.ge h.size
 have a := u.here
 refine nQ (zW ?_)
 replace h := h.tr u.below
 refine xA (fun m s0 w0 => ∃ (pos : Nat) (i : List Int) (k : Value), (m = s.length - pos) ∧ (s0.ds = []) ∧ ([2, 7, 3].map s0.f = [(S []), (pt b1 0), k]) ∧ (Row w0 w.heap.size 21 1 encI32 k i) ∧ (w0.heap[b1]? = some (.stringIter ⟨(s).toArray⟩ pos)) ∧ (Below w.heap.size w w0) ∧ (pos ≤ s.length) ∧ (i.length ≤ pos) ∧ (i ++ looseL (runesFrom s pos) = looseL (runesFrom s 0))) _ ⟨0, [], (.slice none 0 0), rfl, zk, zk, Row.nil _ _ _ _ _, a, h, by omega, by simp, by simp⟩ ?_
 rintro m4 s5 w6 ⟨pos, i, k, hm, n, ag, c, a, h, i1, i2, t⟩
 refine yX ag (wR ?_)
 rcases Nat.lt_or_ge pos (s).length with g | o
 ·refine L_next s b1 pos zk a g ?_
  intro b w7 d l
  replace c := c.wrote l (c.ne a zi)
  replace a := l.here
  have := dec_pos s pos; have := dec_fits s pos g; have := dec_le s pos
  have z : 0 ≤ b := by omega
  have aa : b ≤ 2147483647 := by omega
  refine zr (.bool true) (nW (zT (zK (zB (zW (wR (zr (I3 b) (zH (nW (wR (zD (zc (c_words_Blank b _ ) ?_))))))))))))
  rintro _ w9 ⟨rfl, e⟩
  refine yT (blankB b) ?_ ?_
  ·intro av
   refine zD (zs (zs (xJ (zD (zs (zs (xJ (nQ (zT (yU (zS (yF ?_))))))))))))
   replace h := (h.trans (l.below j)).tr e
   replace a := zC a e
   replace c := c.below e
   refine zB ⟨_, zo, (pos + (dec s pos).2), i, k, rfl, n, zk, c, a, h, zo, ?_, ?_⟩
   ·(try simp only [List.length_append, List.length_cons, List.length_nil]); omega
   rw [← t, vG g, ← d, wT]; clear d; simp [dropW, *]; try (unfold lowerI; split <;> omega)
  intro aw
  refine zD (zw (zD (zw (qX .i32 b 95 ?_ ?_))))
  ·intro a0
   refine xF (zD (zs (zs (xJ (nQ (zT (yU (zS (yF ?_)))))))))
   replace h := (h.trans (l.below j)).tr e
   replace a := zC a e
   replace c := c.below e
   refine zB ⟨_, zo, (pos + (dec s pos).2), i, k, rfl, n, zk, c, a, h, zo, ?_, ?_⟩
   ·(try simp only [List.length_append, List.length_cons, List.length_nil]); omega
   rw [← t, vG g, ← d, wT]; clear d; simp [dropW, *]; try (unfold lowerI; split <;> omega)
  intro ap
  refine xF (zD (zw (zD (zw (qX .i32 b 45 ?_ ?_)))))
  ·intro ay
   refine xF (nQ (zT (yU (zS (yF ?_)))))
   replace h := (h.trans (l.below j)).tr e
   replace a := zC a e
   replace c := c.below e
   refine zB ⟨_, zo, (pos + (dec s pos).2), i, k, rfl, n, zk, c, a, h, zo, ?_, ?_⟩
   ·(try simp only [List.length_append, List.length_cons, List.length_nil]); omega
   rw [← t, vG g, ← d, wT]; clear d; simp [dropW, *]; try (unfold lowerI; split <;> omega)
  intro ar
  refine xF (nQ (zF (zK (zB (yA (wR (zD (zGe .i32 b 65 ?_ ?_))))))))
  ·intro au
   refine zD (zw (zD (zw (zLe .i32 b 90 ?_ ?_))))
   ·intro an
    replace h := (h.trans (l.below j)).tr e
    replace c := c.below e
    refine xJ (nQ (zT (zP (zD (yY b 32 (b + 32) rfl zk zk (xE _ zh zh) (zH (nQ (zP (zD (zD (wH wP w.heap.size k i (b + 32) h.size c zo zk rfl rfl zk rfl zk zk ?_)))))))))))
    intro aj a1 ac p ak
    replace h := h.tg h.size p c
    replace a := zC a e
    replace a := zY a p (c.ne a zi)
    replace c := ac
    refine zH (zQ (zJ (zB ⟨_, zo, (pos + (dec s pos).2), (i ++ [(b + 32)]), aj, rfl, n, zk, c, a, h, zo, ?_, ?_⟩)))
    ·(try simp only [List.length_append, List.length_cons, List.length_nil]); omega
    rw [← t, vG g, ← d, wT]; clear d; simp [dropW, *]; try (unfold lowerI; split <;> omega)
   intro ao
   replace h := (h.trans (l.below j)).tr e
   replace c := c.below e
   refine xJ (nQ (zF (zK (zB (zP (zD (zD (wH wP w.heap.size k i b h.size c zo zk rfl rfl zk rfl zk zk ?_))))))))
   intro af az ab r al
   replace h := h.tg h.size r c
   replace a := zC a e
   replace a := zY a r (c.ne a zi)
   replace c := ab
   refine zH (zQ (zJ (zB ⟨_, zo, (pos + (dec s pos).2), (i ++ [b]), af, rfl, n, zk, c, a, h, zo, ?_, ?_⟩)))
   ·(try simp only [List.length_append, List.length_cons, List.length_nil]); omega
   rw [← t, vG g, ← d, wT]; clear d; simp [dropW, *]; try (unfold lowerI; split <;> omega)
  intro am
  replace h := (h.trans (l.below j)).tr e
  replace c := c.below e
  refine zD (zs (zs (xF (nQ (zF (zK (zB (zP (zD (zD (wH wP w.heap.size k i b h.size c zo zk rfl rfl zk rfl zk zk ?_)))))))))))
  intro ah aq y q ai
  replace h := h.tg h.size q c
  replace a := zC a e
  replace a := zY a q (c.ne a zi)
  replace c := y
  refine zH (zQ (zJ (zB ⟨_, zo, (pos + (dec s pos).2), (i ++ [b]), ah, rfl, n, zk, c, a, h, zo, ?_, ?_⟩)))
  ·(try simp only [List.length_append, List.length_cons, List.length_nil]); omega
  rw [← t, vG g, ← d, wT]; clear d; simp [dropW, *]; try (unfold lowerI; split <;> omega)
 refine L_nextEnd s b1 pos zk a o (zr (.bool false) (nW (zF (yU (zS (zS (yF (zB (wR (zD (zc (c_utf_Encode k i _ c.rd) ?_)))))))))))
 rintro _ ax ⟨rfl, ad⟩
 replace h := h.tr ad
 exact zH (nQ (zR (zZ [(S (encL i))] (hd := n) ⟨congrArg S (by rw [looseS, ← t, runesFrom_end o]; simp [looseL]), h⟩)))
theorem c_words_Alike (a : List UInt8) (b : List UInt8) (w : World) (ha : a.length ≤ 1073741824) (hb_ : b.length ≤ 1073741824) :
  Calls Tryz.prog 133 #[(S a), (S b)] w (Ret fun v w' => v = (.bool (alikeB a b)) ∧ Below w.heap.size w w') := by
 refine wJ 10 func133 rfl ?_
 have c := Below.refl w.heap.size w
 refine wR (zH (nR (zD (zc (c_words_Loose a _ zo) ?_))))
 rintro _ f ⟨rfl, e⟩
 refine zD (zc (c_words_Loose b _ zo) ?_)
 rintro _ h ⟨rfl, d⟩
 refine L_seq (looseS a) (looseS b) rfl zk zk ?_ ?_
 ·intro g
  replace c := (c.tr e).tr d
  exact zH (nQ (zR (zZ [(.bool true)] ⟨eb (by simp [alikeB, *]), c⟩)))
 intro i
 replace c := (c.tr e).tr d
 exact zH (nQ (zR (zZ [(.bool false)] ⟨eb (by simp [alikeB, *]), c⟩)))
theorem c_words_formats (c : Int) (w : World) :
  Calls Tryz.prog 114 #[(U8 c)] w (Ret fun v w' => v = (.tuple #[(S (shortF c)), (S (longF c))]) ∧ Below w.heap.size w w') := by
 refine wJ 23 func114 rfl ?_
 have a := Below.refl w.heap.size w
 refine wR (zH (zH (nW (wR (zD (nQ (zW (wR (qX .u8 c 15 ?_ ?_)))))))))
 ·intro t
  exact zH (nQ (zT (wR (zH (zH (nQ (zR (zL (zG (zZ [(S [76, 82, 69]), (S [76, 101, 102, 116, 95, 84, 111, 95, 82, 105, 103, 104, 116, 95, 69, 109, 98, 101, 100, 100, 105, 110, 103])] ⟨yV (congrArg S (by subst_vars; kernel_rfl)) (congrArg S (by subst_vars; kernel_rfl)), a⟩))))))))))
 intro s
 refine zH (nQ (zF (wR (qX .u8 c 16 ?_ ?_))))
 ·intro m
  exact zH (nQ (zT (wR (zH (zH (nQ (zR (zL (zG (zZ [(S [76, 82, 79]), (S [76, 101, 102, 116, 95, 84, 111, 95, 82, 105, 103, 104, 116, 95, 79, 118, 101, 114, 114, 105, 100, 101])] ⟨yV (congrArg S (by subst_vars; kernel_rfl)) (congrArg S (by subst_vars; kernel_rfl)), a⟩))))))))))
 intro o
 refine zH (nQ (zF (wR (qX .u8 c 17 ?_ ?_))))
 ·intro r
  exact zH (nQ (zT (wR (zH (zH (nQ (zR (zL (zG (zZ [(S [82, 76, 69]), (S [82, 105, 103, 104, 116, 95, 84, 111, 95, 76, 101, 102, 116, 95, 69, 109, 98, 101, 100, 100, 105, 110, 103])] ⟨yV (congrArg S (by subst_vars; kernel_rfl)) (congrArg S (by subst_vars; kernel_rfl)), a⟩))))))))))
 intro p
 refine zH (nQ (zF (wR (qX .u8 c 18 ?_ ?_))))
 ·intro n
  exact zH (nQ (zT (wR (zH (zH (nQ (zR (zL (zG (zZ [(S [82, 76, 79]), (S [82, 105, 103, 104, 116, 95, 84, 111, 95, 76, 101, 102, 116, 95, 79, 118, 101, 114, 114, 105, 100, 101])] ⟨yV (congrArg S (by subst_vars; kernel_rfl)) (congrArg S (by subst_vars; kernel_rfl)), a⟩))))))))))
 intro l
 refine zH (nQ (zF (wR (qX .u8 c 19 ?_ ?_))))
 ·intro q
  exact zH (nQ (zT (wR (zH (zH (nQ (zR (zL (zG (zZ [(S [80, 68, 70]), (S [80, 111, 112, 95, 68, 105, 114, 101, 99, 116, 105, 111, 110, 97, 108, 95, 70, 111, 114, 109, 97, 116])] ⟨yV (congrArg S (by subst_vars; kernel_rfl)) (congrArg S (by subst_vars; kernel_rfl)), a⟩))))))))))
 intro i
 refine zH (nQ (zF (wR (qX .u8 c 20 ?_ ?_))))
 ·intro k
  exact zH (nQ (zT (wR (zH (zH (nQ (zR (zL (zG (zZ [(S [76, 82, 73]), (S [76, 101, 102, 116, 95, 84, 111, 95, 82, 105, 103, 104, 116, 95, 73, 115, 111, 108, 97, 116, 101])] ⟨yV (congrArg S (by subst_vars; kernel_rfl)) (congrArg S (by subst_vars; kernel_rfl)), a⟩))))))))))
 intro f
 refine zH (nQ (zF (wR (qX .u8 c 21 ?_ ?_))))
 ·intro g
  exact zH (nQ (zT (wR (zH (zH (nQ (zR (zL (zG (zZ [(S [82, 76, 73]), (S [82, 105, 103, 104, 116, 95, 84, 111, 95, 76, 101, 102, 116, 95, 73, 115, 111, 108, 97, 116, 101])] ⟨yV (congrArg S (by subst_vars; kernel_rfl)) (congrArg S (by subst_vars; kernel_rfl)), a⟩))))))))))
 intro j
 refine zH (nQ (zF (wR (qX .u8 c 22 ?_ ?_))))
 ·intro b
  exact zH (nQ (zT (wR (zH (zH (nQ (zR (zL (zG (zZ [(S [70, 83, 73]), (S [70, 105, 114, 115, 116, 95, 83, 116, 114, 111, 110, 103, 95, 73, 115, 111, 108, 97, 116, 101])] ⟨yV (congrArg S (by subst_vars; kernel_rfl)) (congrArg S (by subst_vars; kernel_rfl)), a⟩))))))))))
 intro h
 refine zH (nQ (zF (wR (qX .u8 c 23 ?_ ?_))))
 ·intro d
  exact zH (nQ (zT (wR (zH (zH (nQ (zR (zL (zG (zZ [(S [80, 68, 73]), (S [80, 111, 112, 95, 68, 105, 114, 101, 99, 116, 105, 111, 110, 97, 108, 95, 73, 115, 111, 108, 97, 116, 101])] ⟨yV (congrArg S (by subst_vars; kernel_rfl)) (congrArg S (by subst_vars; kernel_rfl)), a⟩))))))))))
 intro e
 exact zH (nQ (zF (zK (zJ (zB (wR (zH (zH (nQ (zR (zZ [(S []), (S [])] ⟨yV (congrArg S (by rw [shortF_none zo])) (congrArg S (by rw [longF_none zo])), a⟩)))))))))))
theorem c_words_names (c : Int) (w : World) (hc : 0 ≤ c) :
  Calls Tryz.prog 76 #[(U8 c)] w (Ret fun v w' => v = (.tuple #[(S (shortS c)), (S (longS c))]) ∧ Below w.heap.size w w') := by
 refine wJ 37 func76 rfl ?_
 have a := Below.refl w.heap.size w
 refine wR (zH (zH (nW (wR (zD (nQ (zW (wR (qX .u8 c 1 ?_ ?_)))))))))
 ·intro h1
  exact zH (nQ (zT (wR (zH (zH (nQ (zR (zL (zG (zZ [(S [76]), (S [76, 101, 102, 116, 95, 84, 111, 95, 82, 105, 103, 104, 116])] ⟨yV (congrArg S (by subst_vars; kernel_rfl)) (congrArg S (by subst_vars; kernel_rfl)), a⟩))))))))))
 intro h2
 refine zH (nQ (zF (wR (qX .u8 c 2 ?_ ?_))))
 ·intro h3
  exact zH (nQ (zT (wR (zH (zH (nQ (zR (zL (zG (zZ [(S [82]), (S [82, 105, 103, 104, 116, 95, 84, 111, 95, 76, 101, 102, 116])] ⟨yV (congrArg S (by subst_vars; kernel_rfl)) (congrArg S (by subst_vars; kernel_rfl)), a⟩))))))))))
 intro h4
 refine zH (nQ (zF (wR (qX .u8 c 3 ?_ ?_))))
 ·intro h5
  exact zH (nQ (zT (wR (zH (zH (nQ (zR (zL (zG (zZ [(S [65, 76]), (S [65, 114, 97, 98, 105, 99, 95, 76, 101, 116, 116, 101, 114])] ⟨yV (congrArg S (by subst_vars; kernel_rfl)) (congrArg S (by subst_vars; kernel_rfl)), a⟩))))))))))
 intro h6
 refine zH (nQ (zF (wR (qX .u8 c 4 ?_ ?_))))
 ·intro h7
  exact zH (nQ (zT (wR (zH (zH (nQ (zR (zL (zG (zZ [(S [69, 78]), (S [69, 117, 114, 111, 112, 101, 97, 110, 95, 78, 117, 109, 98, 101, 114])] ⟨yV (congrArg S (by subst_vars; kernel_rfl)) (congrArg S (by subst_vars; kernel_rfl)), a⟩))))))))))
 intro h8
 refine zH (nQ (zF (wR (qX .u8 c 5 ?_ ?_))))
 ·intro h9
  exact zH (nQ (zT (wR (zH (zH (nQ (zR (zL (zG (zZ [(S [69, 83]), (S [69, 117, 114, 111, 112, 101, 97, 110, 95, 83, 101, 112, 97, 114, 97, 116, 111, 114])] ⟨yV (congrArg S (by subst_vars; kernel_rfl)) (congrArg S (by subst_vars; kernel_rfl)), a⟩))))))))))
 intro t
 refine zH (nQ (zF (wR (qX .u8 c 6 ?_ ?_))))
 ·intro z
  exact zH (nQ (zT (wR (zH (zH (nQ (zR (zL (zG (zZ [(S [69, 84]), (S [69, 117, 114, 111, 112, 101, 97, 110, 95, 84, 101, 114, 109, 105, 110, 97, 116, 111, 114])] ⟨yV (congrArg S (by subst_vars; kernel_rfl)) (congrArg S (by subst_vars; kernel_rfl)), a⟩))))))))))
 intro n
 refine zH (nQ (zF (wR (qX .u8 c 7 ?_ ?_))))
 ·intro o
  exact zH (nQ (zT (wR (zH (zH (nQ (zR (zL (zG (zZ [(S [65, 78]), (S [65, 114, 97, 98, 105, 99, 95, 78, 117, 109, 98, 101, 114])] ⟨yV (congrArg S (by subst_vars; kernel_rfl)) (congrArg S (by subst_vars; kernel_rfl)), a⟩))))))))))
 intro u
 refine zH (nQ (zF (wR (qX .u8 c 8 ?_ ?_))))
 ·intro i
  exact zH (nQ (zT (wR (zH (zH (nQ (zR (zL (zG (zZ [(S [67, 83]), (S [67, 111, 109, 109, 111, 110, 95, 83, 101, 112, 97, 114, 97, 116, 111, 114])] ⟨yV (congrArg S (by subst_vars; kernel_rfl)) (congrArg S (by subst_vars; kernel_rfl)), a⟩))))))))))
 intro p
 refine zH (nQ (zF (wR (qX .u8 c 9 ?_ ?_))))
 ·intro k
  exact zH (nQ (zT (wR (zH (zH (nQ (zR (zL (zG (zZ [(S [78, 83, 77]), (S [78, 111, 110, 115, 112, 97, 99, 105, 110, 103, 95, 77, 97, 114, 107])] ⟨yV (congrArg S (by subst_vars; kernel_rfl)) (congrArg S (by subst_vars; kernel_rfl)), a⟩))))))))))
 intro m
 refine zH (nQ (zF (wR (qX .u8 c 10 ?_ ?_))))
 ·intro d
  exact zH (nQ (zT (wR (zH (zH (nQ (zR (zL (zG (zZ [(S [66, 78]), (S [66, 111, 117, 110, 100, 97, 114, 121, 95, 78, 101, 117, 116, 114, 97, 108])] ⟨yV (congrArg S (by subst_vars; kernel_rfl)) (congrArg S (by subst_vars; kernel_rfl)), a⟩))))))))))
 intro f
 refine zH (nQ (zF (wR (qX .u8 c 11 ?_ ?_))))
 ·intro q
  exact zH (nQ (zT (wR (zH (zH (nQ (zR (zL (zG (zZ [(S [66]), (S [80, 97, 114, 97, 103, 114, 97, 112, 104, 95, 83, 101, 112, 97, 114, 97, 116, 111, 114])] ⟨yV (congrArg S (by subst_vars; kernel_rfl)) (congrArg S (by subst_vars; kernel_rfl)), a⟩))))))))))
 intro r
 refine zH (nQ (zF (wR (qX .u8 c 12 ?_ ?_))))
 ·intro j
  exact zH (nQ (zT (wR (zH (zH (nQ (zR (zL (zG (zZ [(S [83]), (S [83, 101, 103, 109, 101, 110, 116, 95, 83, 101, 112, 97, 114, 97, 116, 111, 114])] ⟨yV (congrArg S (by subst_vars; kernel_rfl)) (congrArg S (by subst_vars; kernel_rfl)), a⟩))))))))))
 intro y
 refine zH (nQ (zF (wR (qX .u8 c 13 ?_ ?_))))
 ·intro h
  exact zH (nQ (zT (wR (zH (zH (nQ (zR (zL (zG (zZ [(S [87, 83]), (S [87, 104, 105, 116, 101, 95, 83, 112, 97, 99, 101])] ⟨yV (congrArg S (by subst_vars; kernel_rfl)) (congrArg S (by subst_vars; kernel_rfl)), a⟩))))))))))
 intro s
 refine zH (nQ (zF (wR (qX .u8 c 14 ?_ ?_))))
 ·intro e
  exact zH (nQ (zT (wR (zH (zH (nQ (zR (zL (zG (zZ [(S [79, 78]), (S [79, 116, 104, 101, 114, 95, 78, 101, 117, 116, 114, 97, 108])] ⟨yV (congrArg S (by subst_vars; kernel_rfl)) (congrArg S (by subst_vars; kernel_rfl)), a⟩))))))))))
 intro g
 refine zH (nQ (zF (zK (zJ (zB (wR (zD (zc (c_words_formats c _ ) ?_))))))))
 rintro _ l ⟨rfl, b⟩
 have a := a.tr b
 exact zr (S (shortF c)) (zr (S (longF c)) (zH (zH (nQ (zR (zZ [(S (shortF c)), (S (longF c))] ⟨yV (congrArg S (by rw [shortF_eq zo])) (congrArg S (by rw [longF_eq zo])), a⟩))))))
theorem c_words_Short (c : Int) (w : World) (hc : 0 ≤ c) :
  Calls Tryz.prog 46 #[(U8 c)] w (Ret fun v w' => v = (.tuple #[(S (shortS c)), (I6 (toldE c))]) ∧ Below w.heap.size w w') := by
 refine wJ 14 func46 rfl ?_
 have a := Below.refl w.heap.size w
 refine wR (zH (zH (nR (zD (zc (c_words_names c _ zo) ?_)))))
 rintro _ e ⟨rfl, b⟩
 have := uD c
 have := Zf c
 refine zD (zr (S (shortS c)) (zr (S (longS c)) (zH (zH (nW (wR (zD (L_seq (shortS c) ([] : List UInt8) rfl zk zk ?_ ?_))))))))
 ·intro f
  replace a := a.tr b
  exact nQ (zT (wR (zH (zH (nQ (zR (zG (zZ [(S []), (I6 2)] ⟨yV (congrArg S (by first | rfl | (simp [*]; done))) (e6 (by (rw [shortS_nil] at *; simp [toldE, *]; done))), a⟩))))))))
 intro g
 replace a := a.tr b
 exact nQ (zF (zK (zB (wR (zD (zH (zH (nQ (zR (zZ [(S (shortS c)), (I6 0)] ⟨yV rfl (e6 (by (have d := mt shortS_nil.2 za; simp at d; simp [toldE, d]))), a⟩))))))))))
theorem c_words_Long (c : Int) (w : World) (hc : 0 ≤ c) :
  Calls Tryz.prog 45 #[(U8 c)] w (Ret fun v w' => v = (.tuple #[(S (longS c)), (I6 (toldE c))]) ∧ Below w.heap.size w w') := by
 refine wJ 14 func45 rfl ?_
 have a := Below.refl w.heap.size w
 refine wR (zH (zH (nR (zD (zc (c_words_names c _ zo) ?_)))))
 rintro _ e ⟨rfl, b⟩
 have := uD c
 have := Zf c
 refine zD (zr (S (shortS c)) (zr (S (longS c)) (zH (zH (nW (wR (zD (L_seq (longS c) ([] : List UInt8) rfl zk zk ?_ ?_))))))))
 ·intro f
  replace a := a.tr b
  exact nQ (zT (wR (zH (zH (nQ (zR (zG (zZ [(S []), (I6 2)] ⟨yV (congrArg S (by first | rfl | (simp [*]; done))) (e6 (by (rw [longS_nil] at *; simp [toldE, *]; done))), a⟩))))))))
 intro g
 replace a := a.tr b
 exact nQ (zF (zK (zB (wR (zD (zH (zH (nQ (zR (zZ [(S (longS c)), (I6 0)] ⟨yV rfl (e6 (by (have d := mt longS_nil.2 za; simp at d; simp [toldE, d]))), a⟩))))))))))
theorem c_words_Class (s : List UInt8) (w : World) (hs : s.length ≤ 1073741824) :
  Calls Tryz.prog 100 #[(S s)] w (Ret fun v w' => v = (.tuple #[(U8 ((classF s).1)), (I6 ((classF s).2))]) ∧ Below w.heap.size w w') := by
 refine wJ 25 func100 rfl ?_
 have a := Below.refl w.heap.size w
 refine wR (zH (zH (nW (wR (zH (nQ (zW (xA (fun m s0 w0 => ∃ (c : Int), (m = (24 - c).toNat) ∧ (s0.ds = []) ∧ ([0, 4].map s0.f = [(S s), (U8 c)]) ∧ (Below w.heap.size w w0) ∧ (1 ≤ c) ∧ (c ≤ 24) ∧ (classFrom s c = classF s)) _ ⟨1, rfl, zk, zk, a, by omega, by omega, rfl⟩ ?_))))))))
 rintro m1 u r ⟨c, hm, b, i, a, y, q, g⟩
 refine yX i (yA (wR (zD (zLe .u8 c 23 ?_ ?_))))
 ·intro z
  refine nQ (zT (zK (zB (yA (zW (wR (zD (zc (c_words_names c _ zo) ?_))))))))
  rintro _ w5 ⟨rfl, h⟩
  have := uD c
  have := Zf c
  refine zD (zr (S (shortS c)) (zr (S (longS c)) (zH (zH (nR (zD (zD (zc (c_words_Alike s (shortS c) _ zo zo) ?_))))))))
  rintro _ t ⟨rfl, e⟩
  refine yT (alikeB s (shortS c)) ?_ ?_
  ·intro p
   replace a := (a.tr h).tr e
   exact zD (zs (zs (zs (xJ (nQ (zT (wR (zD (zH (zH (nQ (zR (zL (zG (zG (zL (zG (zZ [(U8 c), (I6 0)] (hd := b) ⟨yV (eu (by (rw [← g, wX (c := c) zo]; simp [*]; done))) (e6 (by (rw [← g, wX (c := c) zo]; simp [*]; done))), a⟩))))))))))))))))))
  intro n
  refine zD (zw (zD (zw (zD (zw (zc (c_words_Alike s (longS c) _ zo zo) ?_))))))
  rintro _ j ⟨rfl, d⟩
  refine yT (alikeB s (longS c)) ?_ ?_
  ·intro o
   replace a := ((a.tr h).tr e).tr d
   exact xF (nQ (zT (wR (zD (zH (zH (nQ (zR (zL (zG (zG (zL (zG (zZ [(U8 c), (I6 0)] (hd := b) ⟨yV (eu (by (rw [← g, wX (c := c) zo]; simp [*]; done))) (e6 (by (rw [← g, wX (c := c) zo]; simp [*]; done))), a⟩))))))))))))))
  intro k
  refine xF (nQ (zF (zK (zJ (zB (zP (zD (yY c 1 (c + 1) rfl zk zk (wrap_u8 _ zh zh) (zH (zQ ?_))))))))))
  replace a := ((a.tr h).tr e).tr d
  refine zB ⟨_, zo, (c + 1), rfl, b, zk, a, zo, zo, ?_⟩
  rw [← g, wX (c := c) zo]; simp [*]
 intro l
 exact nQ (zF (yU (zS (zS (yF (zB (wR (zH (zH (nQ (zR (zZ [(U8 0), (I6 50)] (hd := b) ⟨yV (eu (by (rw [← g, classFrom_end (c := c) zo]; done))) (e6 (by (rw [← g, classFrom_end (c := c) zo]; done))), a⟩))))))))))))
theorem qK (lo : Int) (hi : Int) (w : World) :
  Calls Tryz.prog 64 #[(Value.agg #[(I3 lo), (I3 hi)])] w (Ret fun v w' => v = (.bool (mayF lo hi)) ∧ Below w.heap.size w w') := by
 refine wJ 18 func64 rfl ?_
 have b := Below.refl w.heap.size w
 refine wR (zN [(I3 lo), (I3 hi)] 32 ?_)
 intro d h c
 have e := c.ge b.size
 have a := c.here
 refine zH (nR (wB 0 a rfl (zGe .i32 lo 0 ?_ ?_)))
 ·intro g
  refine zD (zw (zr (pt d 0) (zw (zO 0 a rfl (zw (zr (pt d 1) (zw (zO 1 a rfl (zw (zLe .i32 lo hi ?_ ?_))))))))))
  ·intro k
   refine xJ (zD (zw (zr (pt d 1) (zw (zO 1 a rfl (zw (zLe .i32 hi 1114111 ?_ ?_)))))))
   ·intro f
    have b := b.tr c.below
    exact xJ (zH (nQ (zR (zZ [(.bool true)] ⟨eb (by exact (mayF_true zo zo zo).symm), b⟩))))
   intro j
   have b := b.tr c.below
   exact xJ (zH (nQ (zR (zZ [(.bool false)] ⟨eb (by exact (mayF_false zo).symm), b⟩))))
  intro l
  have b := b.tr c.below
  exact xJ (zD (zs (zs (zs (xF (zH (nQ (zR (zZ [(.bool false)] ⟨eb (by exact (mayF_false zo).symm), b⟩)))))))))
 intro i
 have b := b.tr c.below
 exact zD (zs (zs (zs (zs (zs (xF (zD (zs (zs (zs (xF (zH (nQ (zR (zZ [(.bool false)] ⟨eb (by exact (mayF_false zo).symm), b⟩)))))))))))))))
theorem c_points_Hex (s : List UInt8) (w : World) (hs : s.length ≤ 1073741824) :
  Calls Tryz.prog 132 #[(S s)] w (Ret fun v w' => v = (.tuple #[(I3 ((hexF s).1)), (I6 ((hexF s).2))]) ∧ Below w.heap.size w w') := by
 refine wJ 45 func132 rfl ?_
 have c := Below.refl w.heap.size w
 refine wR (zH (zH (nW (wR (zD (zsl 9 s (nLt ((s).length) 4 ?_ ?_)))))))
 ·intro h1
  exact zD (zs (zs (zs (xJ (zD (zs (zs (zs (zs (zs (zs (zs (zs (xJ (nQ (zT (wR (zH (zH (nQ (zR (zG (zZ [(I3 0), (I6 40)] ⟨yV (e3 (by (rw [hexF_len zo]; done))) (e6 (by (rw [hexF_len zo]; done))), c⟩)))))))))))))))))))))))
 intro h2
 refine zD (zw (zD (zw (zsl 9 s (zw (nGt ((s).length) 6 ?_ ?_))))))
 ·intro h3
  exact xF (zD (zs (zs (zs (zs (zs (zs (zs (zs (xJ (nQ (zT (wR (zH (zH (nQ (zR (zG (zZ [(I3 0), (I6 40)] ⟨yV (e3 (by (rw [hexF_len zo]; done))) (e6 (by (rw [hexF_len zo]; done))), c⟩)))))))))))))))))))
 intro h4
 refine xF (zD (zw (zD (zw (zsl 9 s (zw (nGt ((s).length) 4 ?_ ?_)))))))
 ·intro h5
  refine zw (zD (zw (zD (zw ?_))))
  have r := zX s 0 zo; obtain ⟨h, ab⟩ := r
  have := h.toNat_lt
  have u := uL h.toNat
  have g := ibF_tab h
  refine xL (k := .i64) s 0 h underlying9 ab zk zk (zw (xG .u8 ((h.toNat : Nat) : Int) ((48 : Nat) : Int) (h.toNat = 48) rfl (xI h.toNat 48) zk zk ?_ ?_))
  ·intro h8
   replace h8 : h.toNat = 48 := by omega
   exact zw (xJ (xF (nQ (zT (wR (zH (zH (nQ (zR (zG (zZ [(I3 0), (I6 40)] ⟨yV (e3 (by (rw [hexF_zero zo za zo]; done))) (e6 (by (rw [hexF_zero zo za zo]; done))), c⟩)))))))))))
  intro h9
  replace h9 : h.toNat ≠ 48 := by omega
  refine zw (xJ (xF (nQ (zF (zK (zB (wR (zH (nW (wR (zD (zsl 9 s (zD (nQ (zW (xA (fun m s0 w0 => ∃ (i : Nat) (n : Nat), (m = s.length - i) ∧ (s0.ds = []) ∧ ([0, 26, 4, 27].map s0.f = [(S s), (N6 ((s).length)), (I3 ((n : Nat) : Int)), (N6 i)]) ∧ (Below w.heap.size w w0) ∧ (i ≤ s.length) ∧ (n < 16 ^ i) ∧ (hexV (s.drop i) n = hexV s 0)) _ ⟨0, 0, rfl, zk, zk, c, by omega, by decide, rfl⟩ ?_))))))))))))))))
  rintro aj ah ax ⟨i, n, hm, d, o, c, i1, p, e⟩
  refine yX o ?_
  have z : i ≤ 5 → n < 1048576 := pow16 p
  have y : i ≤ 6 → n < 16777216 := pow166 p
  refine wR (nLt i ((s).length) ?_ ?_)
  ·intro ar
   refine nW (zT (zK (zB (yA (zW (wR (zD (zH (nR (zD (zD ?_)))))))))))
   have r := zX s i zo; obtain ⟨b, q⟩ := r
   have := b.toNat_lt
   have u := uL b.toNat
   have g := ibF_tab b
   refine xL (k := .i64) s i b underlying9 q zk zk (zc (vE ([48, 49, 50, 51, 52, 53, 54, 55, 56, 57, 65, 66, 67, 68, 69, 70] : List UInt8) ((b.toNat : Nat) : Int) _ ) ?_)
   rintro _ aq ⟨rfl, j⟩
   have := ib_range ([48, 49, 50, 51, 52, 53, 54, 55, 56, 57, 65, 66, 67, 68, 69, 70] : List UInt8) ((b.toNat : Nat) : Int)
   refine zH (nW (wR (zD (zLt .i64 (ibF ([48, 49, 50, 51, 52, 53, 54, 55, 56, 57, 65, 66, 67, 68, 69, 70] : List UInt8) ((b.toNat : Nat) : Int)) 0 ?_ ?_))))
   ·intro ai
    have c := c.tr j
    exact nQ (zT (wR (zH (zH (nQ (zR (zG (zL (zG (zG (zL (zG (zZ [(I3 0), (I6 40)] (hd := d) ⟨yV (e3 (by (rw [hexF_bad e za zo]; done))) (e6 (by (rw [hexF_bad e za zo]; done))), c⟩)))))))))))))
   intro al
   refine nQ (zF (zK (zB (zP (zD (L_shl (k := .i32) (yk := .u64) ((n : Nat) : Int) (((16 * n) : Nat) : Int) 4 16 rfl zk zk zk (by rw [xE _ zo zo]; omega) (zD (wU (k := .i64) (ibF ([48, 49, 50, 51, 52, 53, 54, 55, 56, 57, 65, 66, 67, 68, 69, 70] : List UInt8) ((b.toNat : Nat) : Int)) (ibF ([48, 49, 50, 51, 52, 53, 54, 55, 56, 57, 65, 66, 67, 68, 69, 70] : List UInt8) ((b.toNat : Nat) : Int)) zk underlying21 zk (xE _ zo zo) (L_orD (((16 * n) : Nat) : Int) (ibF ([48, 49, 50, 51, 52, 53, 54, 55, 56, 57, 65, 66, 67, 68, 69, 70] : List UInt8) ((b.toNat : Nat) : Int)) n ((ibF ([48, 49, 50, 51, 52, 53, 54, 55, 56, 57, 65, 66, 67, 68, 69, 70] : List UInt8) ((b.toNat : Nat) : Int)).toNat) zo zo zk zk (zH (zQ (zJ (zB (zP (xN i 1 (zD (zQ ?_)))))))))))))))))
   have c := c.tr j
   refine zB ⟨_, zo, (i + 1), (16 * n + ((ibF ([48, 49, 50, 51, 52, 53, 54, 55, 56, 57, 65, 66, 67, 68, 69, 70] : List UInt8) ((b.toNat : Nat) : Int)).toNat)), rfl, d, zk, c, zo, ?_, ?_⟩
   ·rw [g]; exact pow16s p zo
   rw [g]; exact hexV_step e za zo
  intro aw
  refine nW (zF (yU (zS (zS (yF (zB (yA (wR (zD (xG .i32 ((n : Nat) : Int) ((1114111 : Nat) : Int) (1114111 < n) rfl (cmpN_gt n 1114111) zk zk ?_ ?_))))))))))
  ·intro ac
   replace ac : 1114111 < n := by omega
   exact nQ (zT (wR (zH (zH (nQ (zR (zG (zZ [(I3 0), (I6 40)] (hd := d) ⟨yV (e3 (by (rw [hexF_big (vN e zo) zo]; done))) (e6 (by (rw [hexF_big (vN e zo) zo]; done))), c⟩))))))))
  intro aa
  replace aa : n ≤ 1114111 := by omega
  exact nQ (zF (zK (zB (wR (zD (zH (zH (nQ (zR (zZ [(I3 ((n : Nat) : Int)), (I6 0)] (hd := d) ⟨yV (e3 (by (rw [hexF_ok (vN e zo) zo zo zo (.inr ⟨_, by assumption, by omega⟩)]; done))) (e6 (by (rw [hexF_ok (vN e zo) zo zo zo (.inr ⟨_, by assumption, by omega⟩)]; done))), c⟩))))))))))
 intro av
 refine zw (zD (zs (zs (zs (zw (xF (xF (nQ (zF (zK (zB (wR (zH (nW (wR (zD (zsl 9 s (zD (nQ (zW (xA (fun m s0 w0 => ∃ (i : Nat) (n : Nat), (m = s.length - i) ∧ (s0.ds = []) ∧ ([0, 26, 4, 27].map s0.f = [(S s), (N6 ((s).length)), (I3 ((n : Nat) : Int)), (N6 i)]) ∧ (Below w.heap.size w w0) ∧ (i ≤ s.length) ∧ (n < 16 ^ i) ∧ (hexV (s.drop i) n = hexV s 0)) _ ⟨0, 0, rfl, zk, zk, c, by omega, by decide, rfl⟩ ?_)))))))))))))))))))))
 rintro af ao ay ⟨i, n, hm, d, o, c, i1, p, e⟩
 refine yX o ?_
 have z : i ≤ 5 → n < 1048576 := pow16 p
 have y : i ≤ 6 → n < 16777216 := pow166 p
 refine wR (nLt i ((s).length) ?_ ?_)
 ·intro an
  refine nW (zT (zK (zB (yA (zW (wR (zD (zH (nR (zD (zD ?_)))))))))))
  have r := zX s i zo; obtain ⟨a, t⟩ := r
  have := a.toNat_lt
  have u := uL a.toNat
  have g := ibF_tab a
  refine xL (k := .i64) s i a underlying9 t zk zk (zc (vE ([48, 49, 50, 51, 52, 53, 54, 55, 56, 57, 65, 66, 67, 68, 69, 70] : List UInt8) ((a.toNat : Nat) : Int) _ ) ?_)
  rintro _ ag ⟨rfl, l⟩
  have := ib_range ([48, 49, 50, 51, 52, 53, 54, 55, 56, 57, 65, 66, 67, 68, 69, 70] : List UInt8) ((a.toNat : Nat) : Int)
  refine zH (nW (wR (zD (zLt .i64 (ibF ([48, 49, 50, 51, 52, 53, 54, 55, 56, 57, 65, 66, 67, 68, 69, 70] : List UInt8) ((a.toNat : Nat) : Int)) 0 ?_ ?_))))
  ·intro ak
   have c := c.tr l
   exact nQ (zT (wR (zH (zH (nQ (zR (zG (zL (zG (zG (zL (zG (zZ [(I3 0), (I6 40)] (hd := d) ⟨yV (e3 (by (rw [hexF_bad e za zo]; done))) (e6 (by (rw [hexF_bad e za zo]; done))), c⟩)))))))))))))
  intro ap
  refine nQ (zF (zK (zB (zP (zD (L_shl (k := .i32) (yk := .u64) ((n : Nat) : Int) (((16 * n) : Nat) : Int) 4 16 rfl zk zk zk (by rw [xE _ zo zo]; omega) (zD (wU (k := .i64) (ibF ([48, 49, 50, 51, 52, 53, 54, 55, 56, 57, 65, 66, 67, 68, 69, 70] : List UInt8) ((a.toNat : Nat) : Int)) (ibF ([48, 49, 50, 51, 52, 53, 54, 55, 56, 57, 65, 66, 67, 68, 69, 70] : List UInt8) ((a.toNat : Nat) : Int)) zk underlying21 zk (xE _ zo zo) (L_orD (((16 * n) : Nat) : Int) (ibF ([48, 49, 50, 51, 52, 53, 54, 55, 56, 57, 65, 66, 67, 68, 69, 70] : List UInt8) ((a.toNat : Nat) : Int)) n ((ibF ([48, 49, 50, 51, 52, 53, 54, 55, 56, 57, 65, 66, 67, 68, 69, 70] : List UInt8) ((a.toNat : Nat) : Int)).toNat) zo zo zk zk (zH (zQ (zJ (zB (zP (xN i 1 (zD (zQ ?_)))))))))))))))))
  have c := c.tr l
  refine zB ⟨_, zo, (i + 1), (16 * n + ((ibF ([48, 49, 50, 51, 52, 53, 54, 55, 56, 57, 65, 66, 67, 68, 69, 70] : List UInt8) ((a.toNat : Nat) : Int)).toNat)), rfl, d, zk, c, zo, ?_, ?_⟩
  ·rw [g]; exact pow16s p zo
  rw [g]; exact hexV_step e za zo
 intro a1
 refine nW (zF (yU (zS (zS (yF (zB (yA (wR (zD (xG .i32 ((n : Nat) : Int) ((1114111 : Nat) : Int) (1114111 < n) rfl (cmpN_gt n 1114111) zk zk ?_ ?_))))))))))
 ·intro ae
  replace ae : 1114111 < n := by omega
  exact nQ (zT (wR (zH (zH (nQ (zR (zG (zZ [(I3 0), (I6 40)] (hd := d) ⟨yV (e3 (by (exfalso; omega))) (e6 (by (exfalso; omega))), c⟩))))))))
 intro ad
 replace ad : n ≤ 1114111 := by omega
 exact nQ (zF (zK (zB (wR (zD (zH (zH (nQ (zR (zZ [(I3 ((n : Nat) : Int)), (I6 0)] (hd := d) ⟨yV (e3 (by (rw [hexF_ok (vN e zo) zo zo zo (.inl zo)]; done))) (e6 (by (rw [hexF_ok (vN e zo) zo zo zo (.inl zo)]; done))), c⟩))))))))))
theorem c_slices_Reverse {B_ E_ : Nat} (a : Value) (s : List (Int)) (w : World) (b : Row w B_ E_ 1 encU8 a s)  :
  Calls Tryz.prog 112 #[a] w (Ret fun v w' => v = (.tuple #[]) ∧ Row w' B_ E_ 1 encU8 a (List.reverse s) ∧ w.grownBy w' (Value.ownBlock a)) :=
 reverse_contract (fun x : Int => Value.int .u8 x) zj (AnyE.slices_Reverse_empty laysRev) (AnyE.slices_Reverse laysRev _ zj) a s w b
theorem c_points_Show (r : Int) (w : World) :
  Calls Tryz.prog 74 #[(I3 r)] w (Ret fun v w' => v = (.tuple #[(S ((showF r).1)), (I6 ((showF r).2))]) ∧ Below w.heap.size w w') := by
 refine wJ 32 func74 rfl ?_
 have c := Below.refl w.heap.size w
 refine wR (zH (zH (nW (wR (zD (zLt .i32 r 0 ?_ ?_))))))
 ·intro h1
  exact zD (zs (zs (xJ (nQ (zT (wR (zH (zH (nQ (zR (zG (zZ [(S []), (I6 40)] ⟨yV (congrArg S (by (rw [Zd zo]; done))) (e6 (by (rw [Zd zo]; done))), c⟩))))))))))))
 intro h2
 refine zD (zw (zD (zw (zGt .i32 r 1114111 ?_ ?_))))
 ·intro h3
  exact xF (nQ (zT (wR (zH (zH (nQ (zR (zG (zZ [(S []), (I6 40)] ⟨yV (congrArg S (by (rw [Zd zo]; done))) (e6 (by (rw [Zd zo]; done))), c⟩)))))))))
 intro h4
 refine xF (nQ (zF (zK (zB (wR (zH (nW (wR (zD (zH (nQ (zW (xA (fun m s0 w0 => ∃ (a : List Int) (z : Int) (d : Value), (m = 10 - a.length) ∧ (s0.ds = []) ∧ ([2, 3, 4, 5].map s0.f = [(S []), (I6 0), d, (I3 z)]) ∧ (Row w0 w.heap.size 5 1 encU8 d a) ∧ (Below w.heap.size w w0) ∧ (a.length ≤ cntD r.toNat) ∧ (z = ((r.toNat / 16 ^ a.length : Nat) : Int)) ∧ (a = lowB (digsD r.toNat a.length))) _ ⟨[], r, (.slice none 0 0), rfl, zk, zk, Row.nil _ _ _ _ _, c, Nat.zero_le _, by simp; omega, rfl⟩ ?_)))))))))))))
 rintro m5 s6 w7 ⟨a, z, d, hm, h, y, b, c, i1, g, i⟩
 refine yX y ?_
 have ah := cntD_le r.toNat
 have an := show_factsR i1 g zo
 refine yA (wR (zD (zGt .i32 z 0 ?_ ?_)))
 ·intro h8
  refine zD (zs (zs (zs (xJ (nQ (zT (zK (zB (yA (zW (zP (zD (zD (L_and15 z z.toNat zo zk zk ?_))))))))))))))
  have hz := zX ([48, 49, 50, 51, 52, 53, 54, 55, 56, 57, 65, 66, 67, 68, 69, 70] : List UInt8) (z.toNat % 16) (by (rw [show (([48, 49, 50, 51, 52, 53, 54, 55, 56, 57, 65, 66, 67, 68, 69, 70] : List UInt8)).length = 16 from rfl]; omega)); obtain ⟨u, n⟩ := hz
  have := u.toNat_lt
  refine xL (k := .i32) ([48, 49, 50, 51, 52, 53, 54, 55, 56, 57, 65, 66, 67, 68, 69, 70] : List UInt8) (z.toNat % 16) u underlying9 n zk zk (wH el84 w.heap.size d a ((u.toNat : Nat) : Int) c.size b zo zk rfl rfl zk rfl zk zk ?_)
  intro ad al l j ac
  have c := c.tg c.size j b
  have b := l
  refine zH (zQ (zJ (zB (zP (zD (L_shr (k := .i32) (yk := .u64) z 4 16 rfl zk zk zk (zH (zQ (zB ⟨_, ?_, (a ++ [((u.toNat : Nat) : Int)]), (z / 16), ad, rfl, h, zk, b, c, ?_, ?_, ?_⟩)))))))))
  ·simp; omega
  ·simp; omega
  ·exact (show_stepR g i za).1
  exact (show_stepR g i za).2
 intro ak
 refine zD (zw (zD (zw (vY underlying84 (b.rd).len (zw (nLt ((a).length) 4 ?_ ?_))))))
 ·intro ai
  refine xF (nQ (zT (zK (zB (yA (zW (zP (zD (zD (L_and15 z z.toNat zo zk zk ?_))))))))))
  have hz := zX ([48, 49, 50, 51, 52, 53, 54, 55, 56, 57, 65, 66, 67, 68, 69, 70] : List UInt8) (z.toNat % 16) (by (rw [show (([48, 49, 50, 51, 52, 53, 54, 55, 56, 57, 65, 66, 67, 68, 69, 70] : List UInt8)).length = 16 from rfl]; omega)); obtain ⟨e, s⟩ := hz
  have := e.toNat_lt
  refine xL (k := .i32) ([48, 49, 50, 51, 52, 53, 54, 55, 56, 57, 65, 66, 67, 68, 69, 70] : List UInt8) (z.toNat % 16) e underlying9 s zk zk (wH el84 w.heap.size d a ((e.toNat : Nat) : Int) c.size b zo zk rfl rfl zk rfl zk zk ?_)
  intro ae am t o af
  have c := c.tg c.size o b
  have b := t
  refine zH (zQ (zJ (zB (zP (zD (L_shr (k := .i32) (yk := .u64) z 4 16 rfl zk zk zk (zH (zQ (zB ⟨_, ?_, (a ++ [((e.toNat : Nat) : Int)]), (z / 16), ae, rfl, h, zk, b, c, ?_, ?_, ?_⟩)))))))))
  ·simp; omega
  ·simp; omega
  ·exact (show_stepR g i za).1
  exact (show_stepR g i za).2
 intro ag
 refine xF (nQ (zF (yU (zS (zS (yF (zB (wR (zD (zc (c_slices_Reverse d a _ b ) ?_))))))))))
 rintro _ aj ⟨rfl, q, p⟩
 have c := c.tg c.size p b
 have b := q
 exact nR (zD (L_bytesStr d (List.reverse a) underlying84 underlying5 underlying9 zk b.rd (zH (zH (nQ (zR (zZ [(S (bytesI (List.reverse a))), (I6 0)] (hd := h) ⟨yV (congrArg S (by (rw [showF_ok zo zo]; first | done | exact show_endR i1 g i zo zo))) (e6 (by (rw [showF_ok zo zo]; first | done | exact show_endR i1 g i zo zo))), c⟩)))))))
theorem c_points_ShowSpan (lo : Int) (hi : Int) (w : World) :
  Calls Tryz.prog 43 #[(Value.agg #[(I3 lo), (I3 hi)])] w (Ret fun v w' => v = (.tuple #[(S ((showSpanF lo hi).1)), (I6 ((showSpanF lo hi).2))]) ∧ Below w.heap.size w w') := by
 refine wJ 33 func43 rfl ?_
 have c := Below.refl w.heap.size w
 have k := showF_len lo
 have i := showF_len hi
 refine wR (zN [(I3 lo), (I3 hi)] 32 ?_)
 intro n q b
 have g := b.ge c.size
 have a := b.here
 refine zH (zH (nW (wR (vT a (zc (qK lo hi _ ) ?_)))))
 rintro _ r ⟨rfl, d⟩
 refine yT (mayF lo hi) ?_ ?_
 ·intro p
  have a := zC a d
  refine qO true (nQ (zF (zK (zB (wR (wB 0 a rfl (zc (c_points_Show lo _ ) ?_)))))))
  rintro _ o ⟨rfl, e⟩
  have a := zC a e
  refine zD (zr (S ((showF lo).1)) (zr (I6 ((showF lo).2)) (zH (zH (nW (wR (wB 0 a rfl (wB 1 a rfl (qX .i32 lo hi ?_ ?_)))))))))
  ·intro l
   have c := ((c.tr b.below).tr d).tr e
   exact nQ (zT (wR (zD (zH (zH (nQ (zR (zG (zZ [(S ((showF lo).1)), (I6 0)] ⟨yV (congrArg S (by (rw [showSpan_one za za]; done))) (e6 (by (rw [showSpan_one za za]; done))), c⟩)))))))))
  intro h
  refine nQ (zF (zK (zB (wR (wB 1 a rfl (zc (c_points_Show hi _ ) ?_))))))
  rintro _ j ⟨rfl, f⟩
  have c := (((c.tr b.below).tr d).tr e).tr f
  exact zD (zr (S ((showF hi).1)) (zr (I6 ((showF hi).2)) (zH (zH (nR (zD (wK ((showF lo).1) ([46, 46] : List UInt8) (by (simp only [List.length_append, List.length_cons, List.length_nil]; omega)) zk zk (zD (wK ((showF lo).1 ++ ([46, 46] : List UInt8)) ((showF hi).1) (by (simp only [List.length_append, List.length_cons, List.length_nil]; omega)) zk zk (zH (zH (nQ (zR (zZ [(S (((showF lo).1 ++ ([46, 46] : List UInt8)) ++ (showF hi).1)), (I6 0)] ⟨yV (congrArg S (by (rw [showSpan_two za za]; done))) (e6 (by (rw [showSpan_two za za]; done))), c⟩))))))))))))))
 intro m
 have c := (c.tr b.below).tr d
 exact qO false (nQ (zT (wR (zH (zH (nQ (zR (zG (zZ [(S []), (I6 41)] ⟨yV (congrArg S (by (rw [showSpan_bad za]; done))) (e6 (by (rw [showSpan_bad za]; done))), c⟩)))))))))
theorem c_strings_Cut2 (s : List UInt8) (sep : List UInt8) (w : World) {m_ml : Int} (hml : w.cell? ⟨1, 0, none⟩ = some (I6 m_ml)) (hs : s.length ≤ 1073741824) :
  Calls Tryz.prog 94 #[(S s), (S sep)] w (Ret fun v w' => v = (.tuple #[(S ((Lib.cut s sep).1)), (S ((Lib.cut s sep).2.1)), (.bool ((Lib.cut s sep).2.2))]) ∧ Below w.heap.size w w') :=
 cut_contract Tryz.strings_Cut s sep w hml hs
theorem c_points_Span (s : List UInt8) (w : World) {m_ml : Int} (hml : w.cell? ⟨1, 0, none⟩ = some (I6 m_ml)) (hs : s.length ≤ 1073741824) :
  Calls Tryz.prog 99 #[(S s)] w (Ret fun v w' => v = (.tuple #[(Value.agg #[(I3 ((spanF s).1)), (I3 ((spanF s).2.1))]), (I6 ((spanF s).2.2))]) ∧ Below w.heap.size w w') := by
 refine wJ 46 func99 rfl ?_
 have e := Below.refl w.heap.size w
 refine wR (zN [(I3 0), (I3 0)] 32 ?_)
 intro n w2 m
 have f := m.ge e.size
 have a := m.here
 have e := e.tr m.below
 refine zH (nR (zD (zc (c_strings_Cut2 s ([46, 46] : List UInt8) _ (wE hml e) zo) ?_)))
 rintro _ w4 ⟨rfl, c⟩
 have := cut_len s ([46, 46] : List UInt8)
 refine zD (zr (S ((Lib.cut s ([46, 46] : List UInt8)).1)) (zr (S ((Lib.cut s ([46, 46] : List UInt8)).2.1)) (zr (.bool ((Lib.cut s ([46, 46] : List UInt8)).2.2)) (zH (zH (zH (nR (zD (zc (c_points_Hex ((Lib.cut s ([46, 46] : List UInt8)).1) _ zo) ?_)))))))))
 rintro _ w7 ⟨rfl, b⟩
 refine zD (zr (I3 ((hexF ((Lib.cut s ([46, 46] : List UInt8)).1)).1)) (zr (I6 ((hexF ((Lib.cut s ([46, 46] : List UInt8)).1)).2)) (zH (zH (nW (wR (zD (zNe .i64 ((hexF ((Lib.cut s ([46, 46] : List UInt8)).1)).2) 0 ?_ ?_))))))))
 ·intro z
  have a := zC (zC a c) b
  refine nQ (zT (wR (zr (Value.agg #[(I3 0), (I3 0)]) (zD (qQ [(I3 0), (I3 0)] a ?_)))))
  intro u j
  have a := j.here
  refine zH (nQ (zR (zG (yM [.cell 2 32, .tmp 3] [(Value.agg #[(I3 0), (I3 0)]), (I6 ((hexF ((Lib.cut s ([46, 46] : List UInt8)).1)).2))] rfl rfl ⟨⟨⟨n, 0, none⟩, zk, yH [(I3 0), (I3 0)] zk zk (yE a)⟩, zk, trivial⟩ ?_))))
  have e := ((e.tr c).tr b).trans (j.below f)
  exact ⟨yV (by (rw [uP, if_pos zo]; done)) (e6 (by (rw [uP, if_pos zo]; done))), e⟩
 intro t
 refine nQ (zF (zK (zB (yA (wR (zD (L_not ((Lib.cut s ([46, 46] : List UInt8)).2.2) zk (nQ ?_))))))))
 rcases Bool.eq_false_or_eq_true (!((Lib.cut s ([46, 46] : List UInt8)).2.2)) with g | g
 ·skip
  have a := zC (zC a c) b
  refine W_ifT g zk (wR (zD (zD (zr (Value.agg #[(I3 ((hexF ((Lib.cut s ([46, 46] : List UInt8)).1)).1)), (I3 ((hexF ((Lib.cut s ([46, 46] : List UInt8)).1)).1))]) (qQ [(I3 ((hexF ((Lib.cut s ([46, 46] : List UInt8)).1)).1)), (I3 ((hexF ((Lib.cut s ([46, 46] : List UInt8)).1)).1))] a ?_)))))
  intro ad l
  have a := l.here
  refine zH (nQ (zR (zG (yM [.cell 2 32, .tmp 3] [(Value.agg #[(I3 ((hexF ((Lib.cut s ([46, 46] : List UInt8)).1)).1)), (I3 ((hexF ((Lib.cut s ([46, 46] : List UInt8)).1)).1))]), (I6 0)] rfl rfl ⟨⟨⟨n, 0, none⟩, zk, yH [(I3 ((hexF ((Lib.cut s ([46, 46] : List UInt8)).1)).1)), (I3 ((hexF ((Lib.cut s ([46, 46] : List UInt8)).1)).1))] zk zk (yE a)⟩, zk, trivial⟩ ?_))))
  have e := ((e.tr c).tr b).trans (l.below f)
  exact ⟨yV (by (rw [uP, if_neg zo, if_pos (nt za)]; done)) (e6 (by (rw [uP, if_neg zo, if_pos (nt za)]; done))), e⟩
 skip
 refine W_ifF g zk (zK (zB (wR (zD (zc (c_points_Hex ((Lib.cut s ([46, 46] : List UInt8)).2.1) _ zo) ?_)))))
 rintro _ y ⟨rfl, d⟩
 refine zD (zr (I3 ((hexF ((Lib.cut s ([46, 46] : List UInt8)).2.1)).1)) (zr (I6 ((hexF ((Lib.cut s ([46, 46] : List UInt8)).2.1)).2)) (zH (zH (nW (wR (zD (zNe .i64 ((hexF ((Lib.cut s ([46, 46] : List UInt8)).2.1)).2) 0 ?_ ?_))))))))
 ·intro q
  have a := zC (zC (zC a c) b) d
  refine nQ (zT (wR (zr (Value.agg #[(I3 0), (I3 0)]) (zD (qQ [(I3 0), (I3 0)] a ?_)))))
  intro ab k
  have a := k.here
  refine zH (nQ (zR (zG (yM [.cell 2 32, .tmp 3] [(Value.agg #[(I3 0), (I3 0)]), (I6 ((hexF ((Lib.cut s ([46, 46] : List UInt8)).2.1)).2))] rfl rfl ⟨⟨⟨n, 0, none⟩, zk, yH [(I3 0), (I3 0)] zk zk (yE a)⟩, zk, trivial⟩ ?_))))
  have e := (((e.tr c).tr b).tr d).trans (k.below f)
  exact ⟨yV (by (rw [uP, if_neg zo, if_neg (nf za), if_pos zo]; done)) (e6 (by (rw [uP, if_neg zo, if_neg (nf za), if_pos zo]; done))), e⟩
 intro r
 refine nQ (zF (zK (zB (yA (wR (zD (zD (zGt .i32 ((hexF ((Lib.cut s ([46, 46] : List UInt8)).1)).1) ((hexF ((Lib.cut s ([46, 46] : List UInt8)).2.1)).1) ?_ ?_))))))))
 ·intro ac
  have a := zC (zC (zC a c) b) d
  refine nQ (zT (wR (zr (Value.agg #[(I3 0), (I3 0)]) (qQ [(I3 0), (I3 0)] a ?_))))
  intro aa i
  have a := i.here
  refine zH (nQ (zR (zG (yM [.cell 2 32, .tmp 3] [(Value.agg #[(I3 0), (I3 0)]), (I6 41)] rfl rfl ⟨⟨⟨n, 0, none⟩, zk, yH [(I3 0), (I3 0)] zk zk (yE a)⟩, zk, trivial⟩ ?_))))
  have e := (((e.tr c).tr b).tr d).trans (i.below f)
  exact ⟨yV (by (rw [uP, if_neg zo, if_neg (nf za), if_neg zo, if_pos zo]; done)) (e6 (by (rw [uP, if_neg zo, if_neg (nf za), if_neg zo, if_pos zo]; done))), e⟩
 intro p
 have a := zC (zC (zC a c) b) d
 refine nQ (zF (zK (zB (wR (zD (zD (zr (Value.agg #[(I3 ((hexF ((Lib.cut s ([46, 46] : List UInt8)).1)).1)), (I3 ((hexF ((Lib.cut s ([46, 46] : List UInt8)).2.1)).1))]) (qQ [(I3 ((hexF ((Lib.cut s ([46, 46] : List UInt8)).1)).1)), (I3 ((hexF ((Lib.cut s ([46, 46] : List UInt8)).2.1)).1))] a ?_))))))))
 intro o h
 have a := h.here
 refine zH (nQ (zR (yM [.cell 2 32, .tmp 3] [(Value.agg #[(I3 ((hexF ((Lib.cut s ([46, 46] : List UInt8)).1)).1)), (I3 ((hexF ((Lib.cut s ([46, 46] : List UInt8)).2.1)).1))]), (I6 0)] rfl rfl ⟨⟨⟨n, 0, none⟩, zk, yH [(I3 ((hexF ((Lib.cut s ([46, 46] : List UInt8)).1)).1)), (I3 ((hexF ((Lib.cut s ([46, 46] : List UInt8)).2.1)).1))] zk zk (yE a)⟩, zk, trivial⟩ ?_)))
 have e := (((e.tr c).tr b).tr d).trans (h.below f)
 exact ⟨yV (by (rw [uP, if_neg zo, if_neg (nf za), if_neg zo, if_neg zo]; done)) (e6 (by (rw [uP, if_neg zo, if_neg (nf za), if_neg zo, if_neg zo]; done))), e⟩
end Go.Proofs.YtkclikfejmeblaaGreatDoor
end

/- === FKad === -/
section
/- FKad: the cells of a row's block as they lie: slices of the block, copies into it. My own text. -/
namespace Go.FK
open Go Go.RowKit
def AtE {α : Type} (enc : α → List Value) (k : Nat) (cur : List Value) (a : Nat) (ys : List α) : Prop := (cur.drop (a * k)).take (ys.length * k) = ys.flatMap enc
def putAt (k : Nat) (cur : List Value) (a : Nat) (cs : List Value) : List Value := cur.take (a * k) ++ cs ++ cur.drop (a * k + cs.length)
structure Raw (w : World) (B E k g cap : Nat) (cur : List Value) : Prop where
  base : B ≤ g
  here : w.heap[g]? = some (.cells cur.toArray E (0, 0))
  capm : cap ≤ maxLen
  size : cur.length = cap * k
theorem putAt_len {k a : Nat} {cur cs : List Value} (h : a * k + cs.length ≤ cur.length) : (putAt k cur a cs).length = cur.length := by
 unfold putAt; rw [List.length_append, List.length_append, List.length_take, List.length_drop]; omega
section
variable {α : Type} {enc : α → List Value} {k : Nat} {cur cs : List Value}
theorem qN (hk : ∀ x, (enc x).length = k) (ys : List α) : (ys.flatMap enc).length = ys.length * k := flat_len enc k hk ys
theorem vJ {a : Nat} {ys : List α} (hk : ∀ x, (enc x).length = k) (h : a * k + ys.length * k ≤ cur.length) : AtE enc k (putAt k cur a (ys.flatMap enc)) a ys := by
 have b := qN hk ys
 have c : (cur.take (a * k)).length = a * k := by rw [List.length_take]; omega
 unfold AtE putAt
 rw [List.append_assoc, List.drop_append_of_le_length (by omega), List.drop_of_length_le (l := cur.take (a * k)) (by omega), List.nil_append, List.take_append_of_le_length (by omega), ← b, List.take_length]
theorem vI {a b : Nat} {zs : List α} (h : AtE enc k cur b zs) (hb : b + zs.length ≤ a) (hl : a * k ≤ cur.length) : AtE enc k (putAt k cur a cs) b zs := by
 have d : b * k + zs.length * k ≤ a * k := by rw [← Nat.add_mul]; exact Nat.mul_le_mul_right _ hb
 have c : (cur.take (a * k)).length = a * k := by rw [List.length_take]; omega
 unfold AtE at h ⊢
 unfold putAt
 rw [List.append_assoc, List.drop_append_of_le_length (by omega), List.take_append_of_le_length (by rw [List.length_drop]; omega), List.drop_take, List.take_take, Nat.min_eq_left (by omega)]
 exact h
theorem at_hi {a b : Nat} {zs ys : List α} (hk : ∀ x, (enc x).length = k) (h : AtE enc k cur b zs) (hb : a + ys.length ≤ b) (hl : a * k + ys.length * k ≤ cur.length) : AtE enc k (putAt k cur a (ys.flatMap enc)) b zs := by
 have e : a * k + ys.length * k ≤ b * k := by rw [← Nat.add_mul]; exact Nat.mul_le_mul_right _ hb
 have d := qN hk ys
 have c : (cur.take (a * k)).length = a * k := by rw [List.length_take]; omega
 unfold AtE at h ⊢
 unfold putAt
 rw [List.drop_append, List.drop_of_length_le (by rw [List.length_append]; omega), List.nil_append, List.drop_drop, List.length_append, c, d]
 rw [show a * k + ys.length * k + (b * k - (a * k + ys.length * k)) = b * k by omega]
 exact h
theorem at_split {a : Nat} {xs ys : List α} (hk : ∀ x, (enc x).length = k) (h : AtE enc k cur a (xs ++ ys)) : AtE enc k cur a xs ∧ AtE enc k cur (a + xs.length) ys := by
 have b := qN hk xs
 have c := qN hk ys
 unfold AtE at h ⊢
 rw [List.length_append, Nat.add_mul, List.flatMap_append] at h
 constructor
 ·have := congrArg (List.take (xs.length * k)) h
  rw [List.take_take, Nat.min_eq_left (by omega), List.take_append_of_le_length (by omega), ← b, List.take_length] at this
  rw [← b]; exact this
 ·have := congrArg (List.drop (xs.length * k)) h
  rw [List.drop_take, List.drop_drop, List.drop_append_of_le_length (by omega), List.drop_of_length_le (l := xs.flatMap enc) (by omega), List.nil_append, Nat.add_sub_cancel_left] at this
  rw [Nat.add_mul]; exact this
theorem qC {a : Nat} {xs ys : List α} (hk : ∀ x, (enc x).length = k) (h1 : AtE enc k cur a xs) (h2 : AtE enc k cur (a + xs.length) ys) : AtE enc k cur a (xs ++ ys) := by
 have b := qN hk xs
 unfold AtE at h1 h2 ⊢
 rw [List.length_append, Nat.add_mul, List.flatMap_append, ← h1, ← h2, Nat.add_mul, ← List.drop_drop, List.take_add]
theorem at_mid {a : Nat} {xs : List α} (hk : ∀ x, (enc x).length = k) (h : AtE enc k cur a xs) (i : Nat) (hi : i ≤ xs.length) : AtE enc k cur a (xs.take i) ∧ AtE enc k cur (a + i) (xs.drop i) := by
 have c : AtE enc k cur a (xs.take i ++ xs.drop i) := by rw [List.take_append_drop]; exact h
 have b := at_split hk c
 rwa [List.length_take, Nat.min_eq_left hi] at b
theorem at_cells {a : Nat} {ys : List α} {w : World} {B E g cap : Nat} (hk : ∀ x, (enc x).length = k) (hr : Raw w B E k g cap cur) (h : AtE enc k cur a ys) : ∀ j u, (ys.flatMap enc)[j]? = some u → w.cell? ((⟨g, a * k, none⟩ : Addr).add j) = some u := by
 intro j u hu
 have hj : j < ys.length * k := by
  have := (List.getElem?_eq_some_iff.1 hu).1
  rwa [qN hk] at this
 rw [wL]
 refine yI hr.here ?_
 unfold AtE at h
 rw [← h, List.getElem?_take, if_pos hj, List.getElem?_drop] at hu
 simpa using hu
end
theorem Row.raw {α : Type} {enc : α → List Value} {w : World} {B E k : Nat} {v : Value} {xs : List α} (h : Row w B E k enc v xs) (hk : ∀ x, (enc x).length = k) (hn : 0 < xs.length) :
  ∃ g cap cur, v = .slice (some ⟨g, 0, none⟩) xs.length cap ∧ xs.length ≤ cap ∧ Raw w B E k g cap cur ∧ AtE enc k cur 0 xs := by
 rcases h.2 with ⟨_, a⟩ | ⟨g, cap, cur, hv, hg, hh, hnc, hcm, hcs, ht⟩
 ·omega
 ·refine ⟨g, cap, cur.toList, hv, hnc, ⟨hg, by simpa using hh, hcm, by simpa using hcs⟩, ?_⟩
  unfold AtE
  rw [Nat.zero_mul, List.drop_zero]; exact ht
theorem Raw.row {α : Type} {enc : α → List Value} {w : World} {B E k g cap : Nat} {cur : List Value} {zs : List α} (h : Raw w B E k g cap cur) (hk : ∀ x, (enc x).length = k) {N : Nat} (hN : N = zs.length) (hl : zs.length ≤ cap) (hz : AtE enc k cur 0 zs) :
  Row w B E k enc (.slice (some ⟨g, 0, none⟩) N cap) zs := by
 subst hN
 refine ⟨qN hk zs, .inr ⟨g, cap, cur.toArray, rfl, h.base, h.here, hl, h.capm, by simpa using h.size, ?_⟩⟩
 unfold AtE at hz
 rw [Nat.zero_mul, List.drop_zero] at hz; exact hz
theorem Raw.grown {w w' : World} {B E k g cap : Nat} {cur : List Value} {row : Option Nat} (h : Raw w B E k g cap cur) (hg : w.grownBy w' row) (hne : row ≠ some g) : Raw w' B E k g cap cur :=
 ⟨h.base, (hg.block g (yL h.here) (fun e => hne e.symm)).trans h.here, h.capm, h.size⟩
theorem xO {α : Type} {enc : α → List Value} {k : Nat} {cur : List Value} {a b : Nat} {ys : List α} (h : AtE enc k cur a ys) (e : a = b) : AtE enc k cur b ys := e ▸ h
theorem at_rd {α : Type} {enc : α → List Value} {w : World} {B E k g cap a c : Nat} {cur : List Value} {ys : List α} (hr : Raw w B E k g cap cur) (hk : ∀ x, (enc x).length = k) (h : AtE enc k cur a ys) {N : Nat} (hN : N = ys.length) : Rd w enc (.slice (some ⟨g, a * k, none⟩) N c) ys := by
 subst hN
 refine ⟨_, c, rfl, .inr ⟨g, a * k, rfl, fun j u hu => ?_⟩⟩
 have := at_cells hk hr h j u hu
 rwa [wL] at this
theorem Row.mono0 {α : Type} {w : World} {B E k : Nat} {enc : α → List Value} {v : Value} {xs : List α} (h : Row w B E k enc v xs) : Row w 0 E k enc v xs := by
 refine ⟨h.1, ?_⟩
 rcases h.2 with a | ⟨g, cap, cur, hv, hg, r⟩
 ·exact .inl a
 ·exact .inr ⟨g, cap, cur, hv, Nat.zero_le _, r⟩
theorem samecap_val {α : Type} {w : World} {B E k g N cap : Nat} {enc : α → List Value} {v p : Value} {ys : List α} (h : SameCap v p) (hv : v = .slice (some ⟨g, 0, none⟩) N cap) (hp : Row w B E k enc p ys) : (∃ a, p = .slice a ys.length cap) ∧ ys.length ≤ cap := by
 subst hv
 rcases h with ⟨c, _⟩ | ⟨j, f, e, l, c, rfl⟩
 ·cases c
 ·cases c
  rcases hp.2 with ⟨b, _⟩ | ⟨i, d, cur, b, _, _, hnc, _⟩
  ·cases b
  ·cases b
   exact ⟨⟨_, rfl⟩, hnc⟩
theorem yR {v : Value} {g N cap : Nat} (hv : v = .slice (some ⟨g, 0, none⟩) N cap) : Value.ownBlock v = some g := by rw [hv]; rfl
theorem Raw.shape {w : World} {B E k g cap : Nat} {cur : List Value} (h : Raw w B E k g cap cur) : w.shape? g = some (E, cur.length) := by unfold World.shape?; rw [h.here]; simp
theorem Raw.frozen {w : World} {B E k g cap : Nat} {cur : List Value} (h : Raw w B E k g cap cur) (j : Nat) : w.frozen? ⟨g, j, none⟩ = false := by unfold World.frozen?; rw [h.here]; simp
theorem grow_ne {w : World} {B E k g cap : Nat} {cur : List Value} {v : Value} (h : Raw w B E k g cap cur) (hn : v.ownBlock = some w.heap.size) : v.ownBlock ≠ some g := by
 rw [hn]; intro e
 have := yL h.here
 have a := Option.some.inj e
 omega
theorem Raw.le {w : World} {B E k g cap a : Nat} {cur : List Value} (h : Raw w B E k g cap cur) (ha : a ≤ cap) : a * k ≤ cur.length := by rw [h.size]; exact Nat.mul_le_mul_right _ ha
theorem Raw.le2 {w : World} {B E k g cap a c : Nat} {cur : List Value} (h : Raw w B E k g cap cur) (ha : a + c ≤ cap) : a * k + c * k ≤ cur.length := by rw [h.size, ← Nat.add_mul]; exact Nat.mul_le_mul_right _ ha
theorem zer_new {α : Type} {w : World} {B E k N : Nat} {enc : α → List Value} {v : Value} {xs : List α} (h : Row w B E k enc v xs) (how : v.ownBlock = (Value.slice none 0 0).ownBlock ∨ v.ownBlock = some N) (hn : 0 < xs.length) : v.ownBlock = some N := by
 rcases how with a | a
 ·rcases h.2 with ⟨rfl, b⟩ | ⟨g, cap, cur, rfl, _⟩
  ·omega
  ·cases a
 ·exact a
theorem rne_of {v u : Value} {g b n m c e : Nat} (hv : v = .slice (some ⟨g, 0, none⟩) n c) (hu : u = .slice (some ⟨b, 0, none⟩) m e) (h : v.ownBlock = none ∨ v.ownBlock ≠ u.ownBlock) : g ≠ b := by
 subst hv; subst hu
 rintro rfl
 rcases h with h | h
 ·cases h
 ·exact h rfl
theorem grown_w {w w' : World} {g : Nat} {o : Obj} (h : Wrote w w' g o) : w.grownBy w' (some g) := ⟨h.os, h.tape, h.output, Nat.le_of_eq h.size.symm, fun k _ hk => h.other k (fun e => hk (by rw [e]))⟩
section ops
variable {r : Option Nat} {P : Program} {n : Nat} {Q : Post} {s : Fm} {w : World} {ops : Array Oper} {rest : List Oper}
variable {d : Option Tmp} {ty : TypeId} {pos : String} {af : Array Edge}
theorem L_cap {ats : Array TypeId} {X : Operand} (t E c : Nat) (v : Value) (hat : ats[0]? = some t) (hu : P.underlying t = some (.slice E)) (hv : ∃ a m, v = .slice a m c) (hx : s.ev n X = v)
  (h : L r P n ops Q rest (s.put d (.int .i64 (c : Nat))) w) : L r P n ops Q (⟨d, .call ⟨.builtin .cap, #[X], ats⟩, ty, pos, af, none⟩ :: rest) s w := by
 obtain ⟨a, m, rfl⟩ := hv
 refine xP _ w (by simp) ?_ h
 simp [execOp, resolve, invoke, builtin, Builtin.cap_, hat, hx, run_underlying hu, goInt, Sem.run_pure, Sem.run_bind]
theorem L_slTot {X : Operand} {hi : Operand} {T E k bytes : Nat} (he : Elem P T E k bytes) (v : Value) (g N c tot : Nat) (hv : v = .slice (some ⟨g, 0, none⟩) N c) (hX : s.ev n X = v) (hhi : ∃ kk, s.ev n hi = .int kk tot) (h2 : tot ≤ c)
  (h : L r P n ops Q rest (s.put d (.slice (some ⟨g, 0, none⟩) tot c)) w) : L r P n ops Q (⟨d, .slice T X none (some hi) none, ty, pos, af, none⟩ :: rest) s w := by
 subst hv
 obtain ⟨kk, hhi⟩ := hhi
 have hb := sliceB (P := P) (w := w) (len := N) (cap := c) (lo := none) (hi := some (.int kk (tot : Nat))) 0 tot rfl ⟨kk, rfl⟩ (Nat.zero_le _) h2 true
 refine xP _ w (by simp) ?_ h
 have e : (if c = 0 then some (⟨g, 0, none⟩ : Addr) else some ((⟨g, 0, none⟩ : Addr).add (0 * k))) = some ⟨g, 0, none⟩ := by
  split
  ·rfl
  ·rw [wL, Nat.zero_mul]
 simp only [execOp, hX, hhi, Instr.sliceAt, Instr.slice, Sem.run_bind, Sem.run_pure, Result.andThen_ok, run_underlying he.ht, hb, wM he, Option.map_none, Option.map_some, e, Nat.sub_zero]
theorem vX {X : Operand} {lo hi : Option Operand} {T E k bytes : Nat} (he : Elem P T E k bytes) (v : Value) (g o N c l hh : Nat) (hv : v = .slice (some ⟨g, o * k, none⟩) N c) (hX : s.ev n X = v)
  (hlo : match lo with | none => l = 0 | some x => ∃ kk, s.ev n x = .int kk l) (hhi : match hi with | none => hh = N | some x => ∃ kk, s.ev n x = .int kk hh) (h1 : l ≤ hh) (h2 : hh ≤ c) (h3 : l < c)
  (h : L r P n ops Q rest (s.put d (.slice (some ⟨g, (o + l) * k, none⟩) (hh - l) (c - l))) w) : L r P n ops Q (⟨d, .slice T X lo hi none, ty, pos, af, none⟩ :: rest) s w := by
 subst hv
 have hb := sliceB (P := P) (w := w) (len := N) (cap := c) (lo := lo.map (s.ev n)) (hi := hi.map (s.ev n)) l hh (by cases lo <;> exact hlo) (by cases hi <;> exact hhi) h1 h2 true
 refine xP _ w (by simp) ?_ h
 have e : (if c = l then some (⟨g, o * k, none⟩ : Addr) else some ((⟨g, o * k, none⟩ : Addr).add (l * k))) = some ⟨g, (o + l) * k, none⟩ := by
  rw [if_neg (by omega), wL, Nat.add_mul]
 simp only [execOp, hX, Instr.sliceAt, Instr.slice, Sem.run_bind, Sem.run_pure, Result.andThen_ok, run_underlying he.ht, hb, wM he, Option.map_none, Option.map_some, e]
theorem run_copyCells (T elem ty : TypeId) {k : Nat} (hu : P.underlying T = some (.slice elem)) (hz : ∀ w, (sizeOf elem).run P w = .ok k w) (g a p c1 : Nat) (A : Addr) (q c2 : Nat) (cur cs : List Value) (E : TypeId)
  (hg : w.heap[g]? = some (.cells cur.toArray E (0, 0))) (c : Nat) (hc : c = Nat.min q p) (hn : cs.length = c * k) (hsrc : ∀ j v, cs[j]? = some v → w.cell? (A.add j) = some v) (hfit : a * k + cs.length ≤ cur.length) (h1 : ∀ v ∈ cs, v.oneCell' = true) :
  (Builtin.copy_ #[T, T] ty #[.slice (some ⟨g, a * k, none⟩) p c1, .slice (some A) q c2]).run P w = .ok (goInt c) (w.setRow g (putAt k cur a cs).toArray) := by
 have hl := run_loadCells_list (P := P) w A cs hsrc
 have hst := run_storeCells_at P g (a * k) E cs 0 cur.toArray w hg (by simpa using hfit) h1
 rw [hn] at hl
 simp only [Nat.add_zero] at hst
 simp [Builtin.copy_, run_underlying hu, Builtin.lenOf, Builtin.firstCells, hz, ← hc, hl, hst, putAt]
theorem wrote_set {g : Nat} {cur : Array Value} {E : TypeId} {x : Array Value} (hg : w.heap[g]? = some (.cells cur E (0, 0))) : Wrote w (w.setRow g x) g (.cells x E (0, 0)) :=
 ⟨rfl, rfl, rfl, by simp [World.setRow], setRow_heap w g cur _ E (0, 0) hg, fun k' hk' => by simp only [World.setRow, Array.getElem?_modify]; rw [if_neg (fun e => hk' e.symm)]⟩
theorem Raw.put {B E k g cap a : Nat} {cur cs : List Value} (h : Raw w B E k g cap cur) (hf : a * k + cs.length ≤ cur.length) : Raw (w.setRow g (putAt k cur a cs).toArray) B E k g cap (putAt k cur a cs) :=
 ⟨h.base, setRow_heap w g _ _ E (0, 0) h.here, h.capm, by rw [putAt_len hf]; exact h.size⟩
theorem vA {α : Type} {enc : α → List Value} {X Y : Operand} {T E k bytes B g cap a p c1 : Nat} {cur : List Value} (he : Elem P T E k bytes) (vy : Value) (ys : List α) (hraw : Raw w B E k g cap cur) (hrd : Rd w enc vy ys) (hk : ∀ x, (enc x).length = k) (h1 : ∀ x, (enc x).all (·.oneCell') = true)
  (hX : s.ev n X = .slice (some ⟨g, a * k, none⟩) p c1) (hY : s.ev n Y = vy) (hq : ys.length ≤ p) (hfit : a + ys.length ≤ cap)
  (h : ∀ w', Raw w' B E k g cap (putAt k cur a (ys.flatMap enc)) → w.grownBy w' (some g) → L r P n ops Q rest (s.put d (.int .i64 (ys.length : Nat))) w') :
  L r P n ops Q (⟨d, .call ⟨.builtin .copy, #[X, Y], #[T, T]⟩, ty, pos, af, none⟩ :: rest) s w := by
 have hfl := qN hk ys
 have b : a * k + (ys.flatMap enc).length ≤ cur.length := by rw [hfl, hraw.size, ← Nat.add_mul]; exact Nat.mul_le_mul_right _ hfit
 obtain ⟨A, f, rfl, c⟩ := hrd
 have fin : ∀ w', (Builtin.copy_ #[T, T] ty #[.slice (some ⟨g, a * k, none⟩) p c1, .slice A ys.length f]).run P w = .ok (goInt ys.length) w' → Raw w' B E k g cap (putAt k cur a (ys.flatMap enc)) → w.grownBy w' (some g) →
   L r P n ops Q (⟨d, .call ⟨.builtin .copy, #[X, Y], #[T, T]⟩, ty, pos, af, none⟩ :: rest) s w := fun w' hrun hr hg => by
  refine xP (goInt ys.length) w' (by simp) ?_ (h w' hr hg)
  simp only [execOp, resolve, invoke, builtin, Sem.run_bind, Sem.run_pure, Result.andThen_ok, List.map_toArray, List.map_cons, List.map_nil, hX, hY, hrun]
 rcases c with i | ⟨gy, off, rfl, hc⟩
 ·obtain rfl : ys = [] := List.eq_nil_of_length_eq_zero i
  refine fin w ?_ ?_ ⟨rfl, rfl, rfl, Nat.le_refl _, fun _ _ _ => rfl⟩
  ·cases A with
   | none => simp [Builtin.copy_, run_underlying he.ht, Builtin.lenOf, Builtin.firstCells, wM he, storeCells]
   | some A => simp [Builtin.copy_, run_underlying he.ht, Builtin.lenOf, Builtin.firstCells, wM he, loadCells, loadCellsFrom, storeCells]
  ·have e : putAt k cur a (([] : List α).flatMap enc) = cur := by simp [putAt]
   rw [e]; exact hraw
 ·refine fin _ (run_copyCells T E ty he.ht (fun _ => wM he) g a p c1 ⟨gy, off, none⟩ ys.length f cur _ E hraw.here ys.length (by show _ = min _ _; omega) hfl (fun j u hu => by rw [wL]; exact hc j u hu) b (enc_flat_one enc h1 ys)) (hraw.put b) (grown_w (wrote_set hraw.here))
theorem L_copySelf {α : Type} {enc : α → List Value} {X Y : Operand} {T E k bytes B g cap a p c1 b q c2 : Nat} {cur : List Value} (he : Elem P T E k bytes) (ys : List α) (hraw : Raw w B E k g cap cur) (hat : AtE enc k cur b ys) (hk : ∀ x, (enc x).length = k) (h1 : ∀ x, (enc x).all (·.oneCell') = true)
  (hX : s.ev n X = .slice (some ⟨g, a * k, none⟩) p c1) (hY : s.ev n Y = .slice (some ⟨g, b * k, none⟩) q c2) (hc : ys.length = min q p) (hfit : a + ys.length ≤ cap)
  (h : ∀ w', Raw w' B E k g cap (putAt k cur a (ys.flatMap enc)) → w.grownBy w' (some g) → L r P n ops Q rest (s.put d (.int .i64 (ys.length : Nat))) w') :
  L r P n ops Q (⟨d, .call ⟨.builtin .copy, #[X, Y], #[T, T]⟩, ty, pos, af, none⟩ :: rest) s w := by
 have hfl := qN hk ys
 have c : a * k + (ys.flatMap enc).length ≤ cur.length := by rw [hfl, hraw.size, ← Nat.add_mul]; exact Nat.mul_le_mul_right _ hfit
 have hrun := run_copyCells (w := w) T E ty he.ht (fun _ => wM he) g a p c1 ⟨g, b * k, none⟩ q c2 cur _ E hraw.here ys.length hc hfl (at_cells hk hraw hat) c (enc_flat_one enc h1 ys)
 refine xP (goInt ys.length) _ (by simp) ?_ (h _ (hraw.put c) (grown_w (wrote_set hraw.here)))
 simp only [execOp, resolve, invoke, builtin, Sem.run_bind, Sem.run_pure, Result.andThen_ok, List.map_toArray, List.map_cons, List.map_nil, hX, hY, hrun]
theorem zero_flat {α : Type} {enc : α → List Value} {k : Nat} (hk0 : 0 < k) (z0 : α) (zs : Array Value) (hz : zs.toList = enc z0) (hk : (enc z0).length = k) : ∀ c : Nat, (Builtin.zeroCells zs c).toList = (List.replicate c z0).flatMap enc := by
 have hsz : zs.size = k := by rw [← Array.length_toList, hz, hk]
 intro c
 induction c with
 | zero => simp [Builtin.zeroCells]
 | succ c ih =>
  rw [List.replicate_succ', List.flatMap_append, ← ih]
  unfold Builtin.zeroCells
  simp only [Array.toList_map, Array.toList_range, hsz]
  rw [show (c + 1) * k = c * k + k by rw [Nat.succ_mul], List.range_add, List.map_append, List.map_map]
  congr 1
  apply List.ext_getElem?
  intro j
  simp only [List.getElem?_map, List.flatMap_cons, List.flatMap_nil, List.append_nil]
  by_cases hj : j < k
  ·rw [List.getElem?_range hj]
   simp only [Option.map_some, Function.comp]
   rw [Nat.mul_comm c k, Nat.mul_add_mod, Nat.mod_eq_of_lt hj, getElem!_pos zs _ (by omega), ← hz]
   simp [hsz, hj]
  ·rw [List.getElem?_eq_none (by simp; omega), List.getElem?_eq_none (by omega)]; rfl
theorem L_appZeros {α : Type} {enc : α → List Value} {A X : Operand} {T tn E k bytes : Nat} {kn kq : IntKind} (he : Elem P T E k bytes) (htn : P.underlying tn = some (.int kn)) (z0 : α) (hz0 : ((P.info? E).bind (·.zero)).map (·.cells.toList) = some (enc z0)) (B : Nat) (v : Value) (xs : List α) (c cap : Nat)
  (hB : B ≤ w.heap.size) (hrow : Row w B E k enc v xs) (hk : ∀ x, (enc x).length = k) (hv : ∃ a, v = .slice a xs.length cap) (hc : 0 < c) (hg : cap < xs.length + c) (hm : (xs.length + c) * bytes ≤ 140737488355328) (hcap : xs.length ≤ cap) (hby : Nat.blt 0 bytes = true)
  (hA : s.ev n A = v) (hX : s.ev n X = .int kq c)
  (h : ∀ v' w', Row w' B E k enc v' (xs ++ List.replicate c z0) → w.grownBy w' (Value.slice none 0 0).ownBlock → (v'.ownBlock = (Value.slice none 0 0).ownBlock ∨ v'.ownBlock = some w.heap.size) → L r P n ops Q rest (s.put d v') w') :
  L r P n ops Q (⟨d, .call ⟨.builtin .append, #[A, X], #[T, tn]⟩, ty, pos, af, none⟩ :: rest) s w := by
 obtain ⟨i, hq, hks, hbys, z, hzz, hzs, hzc⟩ : ∃ i, P.info? E = some i ∧ i.size = k ∧ i.bytes = bytes ∧ ∃ z, i.zero = some z ∧ z.cells.size = k ∧ z.cells.toList = enc z0 := by
  have h := he.hi
  cases hq : P.info? E with
  | none => rw [hq] at h; cases h
  | some i =>
   rw [hq] at h hz0
   simp only [Option.map_some, Option.some.injEq, Prod.mk.injEq] at h
   obtain ⟨b, l, f⟩ := h
   cases hz : i.zero with
   | none => rw [hz] at b; cases b
   | some z =>
    rw [hz] at b
    simp only [Option.bind_some, hz, Option.map_some, Option.some.injEq] at hz0
    exact ⟨i, rfl, l, f, z, hz, by simpa using b, hz0⟩
 have hkp : 0 < k := by have := he.hk; simpa using this
 have hbp : 0 < bytes := by simpa using hby
 obtain ⟨a, rfl⟩ := hv
 have hN : (xs.length + c) * 1 ≤ (xs.length + c) * bytes := Nat.mul_le_mul_left _ hbp
 have hcells : (Builtin.firstCells k xs.length (.slice a xs.length cap)).run P w.drew = .ok (xs.flatMap enc).toArray w.drew := by
  rcases hrow.2 with ⟨b, f⟩ | ⟨g, cap', cur, b, hg', hh, hnc, hcm, hcs, ht⟩
  ·injection b with e1 e2 e3
   subst e1
   obtain rfl : xs = [] := List.eq_nil_of_length_eq_zero f
   simp [Builtin.firstCells, Sem.run_pure]
  ·injection b with e1 e2 e3
   subst e1; subst e3
   have hsrc : ∀ j u, (xs.flatMap enc)[j]? = some u → w.drew.cell? ((⟨g, 0, none⟩ : Addr).add j) = some u := fun j u hu => hrow.cells (g := g) rfl j u hu
   have := run_loadCells_list (P := P) w.drew ⟨g, 0, none⟩ (xs.flatMap enc) hsrc
   rw [qN hk] at this
   exact this
 have hgc := grownCap_ge w (xs.length + c) cap E
 have hgm := grownCap_le_maxLen w (xs.length + c) cap E (by unfold maxLen; omega)
 have hrun := Lib.run_append_grow_zeros (P := P) w T tn ty E i z kq kn he.ht htn hq hzz a xs.length cap (xs.flatMap enc) (by rw [hks]; exact hcells) c hc (by omega) hg (by omega)
  (by rw [hbys]; have : c * bytes ≤ (xs.length + c) * bytes := Nat.mul_le_mul_right _ (by omega); omega) (growslice_fits (by omega) (by rw [hbys]; exact hm))
 refine xP _ _ (by simp) ?_ (h (.slice (some ⟨w.heap.size, 0, none⟩) (xs.length + c) (grownCap w (xs.length + c) cap E)) (w.drew.alloc (.cells ((xs.flatMap enc).toArray ++ Builtin.zeroCells z.cells c ++ Builtin.zeroCells z.cells (grownCap w (xs.length + c) cap E - (xs.length + c))) E)) ?_ ⟨rfl, rfl, rfl, by simp, fun k hk _ => Below.heap_alloc w.drew _ k hk⟩ (.inr rfl))
 ·simp only [execOp, resolve, invoke, builtin, Sem.run_bind, Sem.run_pure, Result.andThen_ok, List.map_toArray, List.map_cons, List.map_nil, hA, hX, hrun]
 ·have hfl := qN hk xs
  refine ⟨by rw [qN hk], .inr ⟨w.heap.size, _, _, by simp, hB, heap_alloc_new w.drew _, by simpa using hgc, hgm, ?_, ?_⟩⟩
  ·simp only [Array.size_append, List.size_toArray, size_zeroCells, hzs, hfl, ← Nat.add_mul]
   congr 1
   omega
  ·have e : (Builtin.zeroCells z.cells c).toList = (List.replicate c z0).flatMap enc := zero_flat hkp z0 z.cells hzc (hk z0) c
   simp only [Array.toList_append, e]
   rw [← List.flatMap_append, ← qN hk (xs ++ List.replicate c z0), List.take_left]
theorem L_clearRaw {α : Type} {enc : α → List Value} {X : Operand} {T E k bytes B g cap m lo : Nat} {cur : List Value} (he : Elem P T E k bytes) (v tail : Value) (hv : v = .slice (some ⟨g, 0, none⟩) m cap) (hT : TailOf k m lo v tail) (hraw : Raw w B E k g cap cur) (hlo : lo ≤ m) (hmc : m ≤ cap)
  (hz1 : ∀ z, (P.info? E).bind (·.zero) = some z → ∀ u ∈ z.cells.toList, u.oneCell' = true) (hX : s.ev n X = tail)
  (h : ∀ w' cur', Raw w' B E k g cap cur' → (∀ (a : Nat) (zs : List α), a + zs.length ≤ lo → AtE enc k cur a zs → AtE enc k cur' a zs) → w.grownBy w' (some g) → L r P n ops Q rest (s.put d (.tuple #[])) w') :
  L r P n ops Q (⟨d, .call ⟨.builtin .clear, #[X], #[T]⟩, ty, pos, af, none⟩ :: rest) s w := by
 obtain ⟨i, hq, hks, z, hzz, hzs⟩ : ∃ i, P.info? E = some i ∧ i.size = k ∧ ∃ z, i.zero = some z ∧ z.cells.size = k := by
  have h := he.hi
  cases hq : P.info? E with
  | none => rw [hq] at h; cases h
  | some i =>
   rw [hq] at h
   simp only [Option.map_some, Option.some.injEq, Prod.mk.injEq] at h
   obtain ⟨b, c, f⟩ := h
   cases hz : i.zero with
   | none => rw [hz] at b; cases b
   | some z => rw [hz] at b; exact ⟨i, rfl, c, z, hz, by simpa using b⟩
 have hkp : 0 < k := by have := he.hk; simpa using this
 have fin : ∀ w', (Builtin.clear_ #[T] ty #[tail]).run P w = .ok (.tuple #[]) w' → ∀ cur', Raw w' B E k g cap cur' → (∀ (a : Nat) (zs : List α), a + zs.length ≤ lo → AtE enc k cur a zs → AtE enc k cur' a zs) → w.grownBy w' (some g) →
   L r P n ops Q (⟨d, .call ⟨.builtin .clear, #[X], #[T]⟩, ty, pos, af, none⟩ :: rest) s w := fun w' hrun cur' b c f => by
  refine xP (.tuple #[]) w' (by simp) ?_ (h w' cur' b c f)
  simp only [execOp, resolve, invoke, builtin, Sem.run_bind, Sem.run_pure, Result.andThen_ok, List.map_toArray, List.map_cons, List.map_nil, hX, hrun]
 subst hv
 rcases hT with ⟨_, c, _⟩ | ⟨g', cap', b, rfl⟩
 ·cases c
 ·cases b
  by_cases hml : m = lo
  ·refine fin w ?_ cur hraw (fun _ _ _ h => h) ⟨rfl, rfl, rfl, Nat.le_refl _, fun _ _ _ => rfl⟩
   rw [hml, Nat.sub_self]
   split <;> simp [Builtin.clear_, run_underlying he.ht]
  ·rw [if_neg (by omega)] at fin
   have hlen : (Builtin.zeroCells z.cells (m - lo)).toList.length = (m - lo) * k := by rw [Array.length_toList, size_zeroCells, hzs]
   have hf : lo * k + (Builtin.zeroCells z.cells (m - lo)).toList.length ≤ cur.length := by rw [hlen, hraw.size, ← Nat.add_mul]; exact Nat.mul_le_mul_right _ (by omega)
   have hone : ∀ u ∈ (Builtin.zeroCells z.cells (m - lo)).toList, u.oneCell' = true := by
    intro u hu
    have := hz1 z (by rw [hq]; exact hzz)
    simp only [Builtin.zeroCells, Array.toList_map, List.mem_map] at hu
    obtain ⟨j, _, rfl⟩ := hu
    have e : j % z.cells.size < z.cells.size := Nat.mod_lt _ (by omega)
    rw [getElem!_pos z.cells _ e]
    exact this _ (by simp)
   have hst := run_storeCells_at (P := P) g (lo * k) E (Builtin.zeroCells z.cells (m - lo)).toList 0 cur.toArray w hraw.here (by simpa using hf) hone
   simp only [Nat.add_zero] at hst
   have hrun : (Builtin.clear_ #[T] ty #[.slice (some ⟨g, lo * k, none⟩) (m - lo) (cap - lo)]).run P w = .ok (.tuple #[]) (w.setRow g (putAt k cur lo (Builtin.zeroCells z.cells (m - lo)).toList).toArray) := by
    obtain ⟨j, hj⟩ : ∃ j, m - lo = j + 1 := ⟨m - lo - 1, by omega⟩
    rw [hj] at hst ⊢
    simp [Builtin.clear_, run_underlying he.ht, zeroValue, typeInfo, hq, hzz, hst, putAt]
   exact fin _ hrun _ (hraw.put hf) (fun a zs hb hz => vI hz hb (by omega)) (grown_w (wrote_set hraw.here))
theorem Raw.below {w w' : World} {B E k g cap : Nat} {cur : List Value} (h : Raw w B E k g cap cur) (hB : Below w.heap.size w w') : Raw w' B E k g cap cur :=
 ⟨h.base, zC h.here hB, h.capm, h.size⟩
theorem Lq_slTot {K : Fm → Prop} {X : Operand} {hi : Operand} {T E k bytes : Nat} (he : Elem P T E k bytes) (v : Value) (g N c tot : Nat) (hv : v = .slice (some ⟨g, 0, none⟩) N c) (hX : s.ev n X = v) (hhi : ∃ kk, s.ev n hi = .int kk tot) (h2 : tot ≤ c)
  (h : Lq P n ops w K rest (s.put d (.slice (some ⟨g, 0, none⟩) tot c))) : Lq P n ops w K (⟨d, .slice T X none (some hi) none, ty, pos, af, none⟩ :: rest) s := by
 subst hv
 obtain ⟨kk, hhi⟩ := hhi
 refine uA _ (fun w' _ => ?_) h
 have hb := sliceB (P := P) (w := w') (len := N) (cap := c) (lo := none) (hi := some (.int kk (tot : Nat))) 0 tot rfl ⟨kk, rfl⟩ (Nat.zero_le _) h2 true
 have e : (if c = 0 then some (⟨g, 0, none⟩ : Addr) else some ((⟨g, 0, none⟩ : Addr).add (0 * k))) = some ⟨g, 0, none⟩ := by
  split
  ·rfl
  ·rw [wL, Nat.zero_mul]
 simp only [execOp, hX, hhi, Instr.sliceAt, Instr.slice, Sem.run_bind, Sem.run_pure, Result.andThen_ok, run_underlying he.ht, hb, wM he, Option.map_none, Option.map_some, e, Nat.sub_zero]
theorem wC {K : Fm → Prop} {X : Operand} {lo hi : Option Operand} {T E k bytes : Nat} (he : Elem P T E k bytes) (v : Value) (g o N c l hh : Nat) (hv : v = .slice (some ⟨g, o * k, none⟩) N c) (hX : s.ev n X = v)
  (hlo : match lo with | none => l = 0 | some x => ∃ kk, s.ev n x = .int kk l) (hhi : match hi with | none => hh = N | some x => ∃ kk, s.ev n x = .int kk hh) (h1 : l ≤ hh) (h2 : hh ≤ c) (h3 : l < c)
  (h : Lq P n ops w K rest (s.put d (.slice (some ⟨g, (o + l) * k, none⟩) (hh - l) (c - l)))) : Lq P n ops w K (⟨d, .slice T X lo hi none, ty, pos, af, none⟩ :: rest) s := by
 subst hv
 refine uA _ (fun w' _ => ?_) h
 have hb := sliceB (P := P) (w := w') (len := N) (cap := c) (lo := lo.map (s.ev n)) (hi := hi.map (s.ev n)) l hh (by cases lo <;> exact hlo) (by cases hi <;> exact hhi) h1 h2 true
 have e : (if c = l then some (⟨g, o * k, none⟩ : Addr) else some ((⟨g, o * k, none⟩ : Addr).add (l * k))) = some ⟨g, (o + l) * k, none⟩ := by
  rw [if_neg (by omega), wL, Nat.add_mul]
 simp only [execOp, hX, Instr.sliceAt, Instr.slice, Sem.run_bind, Sem.run_pure, Result.andThen_ok, run_underlying he.ht, hb, wM he, Option.map_none, Option.map_some, e]
theorem Lq_aggne {K : Fm → Prop} {t yt : TypeId} {X Y : Operand} (xs ys : List Value) (b : Bool) (hx : s.ev n X = .agg xs.toArray) (hy : s.ev n Y = .agg ys.toArray) (hm : P.eqGuardType P.depth t = false)
  (hq : ∀ w, (Op.equalIn 10000 t (.agg xs.toArray) (.agg ys.toArray)).run P w = .ok b w)
  (ht : b = false → Lq P n ops w K rest (s.put d (.bool true))) (hf : b = true → Lq P n ops w K rest (s.put d (.bool false))) : Lq P n ops w K (⟨d, .binOp .neq t X Y yt, ty, pos, af, none⟩ :: rest) s := by
 have hg : ∀ w, (eqGuard .neq t X Y (.agg xs.toArray) (.agg ys.toArray)).run P w = .ok () w := fun w => run_eqGuard_agg (P := P) w .neq t X Y xs.toArray ys.toArray hm
 have hb : ∀ w, (binOp .neq t (.agg xs.toArray) (.agg ys.toArray)).run P w = .ok (.bool (!b)) w := fun w => by
  have hb := run_neq_struct (P := P) w t xs.toArray ys.toArray
  rw [hq, Result.andThen_ok] at hb
  exact hb
 refine Lq_bin _ _ _ hx hy hg hb ?_
 cases b with
 | true => exact hf rfl
 | false => exact ht rfl
theorem Lq_bNe {K : Fm → Prop} {t yt : TypeId} {X Y : Operand} (a b : Bool) (hX : s.ev n X = .bool a) (hY : s.ev n Y = .bool b) (hr : ∀ (c e : Bool) (w : World), (binOp .neq t (.bool c) (.bool e)).run P w = .ok (.bool (!decide (c = e))) w)
  (ht : a ≠ b → Lq P n ops w K rest (s.put d (.bool true))) (hf : a = b → Lq P n ops w K rest (s.put d (.bool false))) : Lq P n ops w K (⟨d, .binOp .neq t X Y yt, ty, pos, af, none⟩ :: rest) s := by
 refine Lq_bin _ _ _ hX hY (fun _ => by unfold eqGuard; cases a <;> rfl) (hr a b) ?_
 by_cases h : a = b
 ·rw [decide_eq_true h]; exact hf h
 ·rw [decide_eq_false h]; exact ht h
theorem L_overlaps {X Y : Operand} {ats : Array TypeId} {T R E k bytes f : Nat} {fn : Func} (he : Elem P T E k bytes) (hf : P.funcs[f]? = some fn) (hname : (fn.name == "runtime.NumGoroutine") = false) (hb : fn.body.isNone = true) (hn : Extern.findNext fn = none) (hfind : Extern.find fn = some (Extern.SlicesOverlaps.overlaps #[T, T] #[R]))
  {ga gb Ea Eb ka kb Ba Bb capa capb : Nat} {cura curb : List Value} (oa la ca ob lb cb : Nat) (ha : Raw w Ba Ea ka ga capa cura) (hbr : Raw w Bb Eb kb gb capb curb) (hne : ga ≠ gb) (hpos : 0 < curb.length)
  (hX : s.ev n X = .slice (some ⟨ga, oa, none⟩) la ca) (hY : s.ev n Y = .slice (some ⟨gb, ob, none⟩) lb cb)
  (h : L r P n ops Q rest (s.put d (.bool false)) w) : L r P n ops Q (⟨d, .call ⟨.value (.func f), #[X, Y], ats⟩, ty, pos, af, none⟩ :: rest) s w := by
 have hrun := Lib.run_overlaps_apart (P := P) w T R E he.ht k (fun _ => wM he) ⟨ga, oa, none⟩ ⟨gb, ob, none⟩ la ca lb cb hne Ea Eb cura.length curb.length ha.shape hbr.shape (by omega) (ha.frozen _) (ha.frozen _)
 refine xP (.bool false) w (by simp) ?_ h
 have a : s.ev n (.func f) = .func (.func f) #[] #[] := rfl
 simp [execOp, resolve, invoke, a, hX, hY, Deferred.ofValue, run_callFunc_extern hf hname hb hn hfind, hrun]
end ops
end Go.FK
end

/- === FKae === -/
section
/- FKae: a region that draws its order, of which the first operations only read and must all come before one that changes memory: they may be walked in the order of the text. My own text. -/
namespace Go.FK
open Go Go.RowKit
def onB (o : Oper) (i : Nat) : Bool := o.after.any fun e => Region.binds .any e && Nat.beq e.on i
def preOk (ops : Array Oper) (k : Nat) : Bool :=
  ((List.range k).all fun i => match ops[i]? with
    | some o => (o.after.all fun e => !Region.binds .any e || decide (e.on < i)) && (match o.guard with | none => true | some g => decide (g.1 < k))
    | none => false) &&
  ((List.range k).all fun i => (List.range (k + 1)).any fun j => decide (i < j) && (match ops[j]? with | some o => onB o i | none => false)) &&
  ((List.range ops.size).all fun j => decide (j ≤ k) || (match ops[j]? with | some o => o.after.any fun e => Region.binds .any e && decide (k ≤ e.on) | none => false))
def preL (k N : Nat) : Array Bool := ((List.range N).map fun j => decide (j < k)).toArray
section
variable {ops : Array Oper} {k : Nat} {L : Array Bool}
structure PreI (ops : Array Oper) (k : Nat) (L : Array Bool) : Prop where
  size : L.size = ops.size
  high : ∀ j, k ≤ j → j < ops.size → L.getD j true = false
  down : ∀ i o, i < k → ops[i]? = some o → L.getD i true = true → ∀ e ∈ o.after, Region.binds .any e = true → L.getD e.on false = true
theorem pre_back (h : preOk ops k = true) {i : Nat} (hi : i < k) : ∃ o, ops[i]? = some o ∧ (∀ e ∈ o.after, Region.binds .any e = true → e.on < i) ∧ (∀ g, o.guard = some g → g.1 < k) := by
 unfold preOk at h
 simp only [Bool.and_eq_true, List.all_eq_true, List.mem_range] at h
 have a := h.1.1 i hi
 cases ho : ops[i]? with
 | none => rw [ho] at a; cases a
 | some o =>
  rw [ho] at a
  simp only [Bool.and_eq_true] at a
  refine ⟨o, rfl, fun e he hb => ?_, fun g hg => ?_⟩
  ·have := Array.all_eq_true'.1 a.1 e he
   simpa [hb] using this
  ·have b := a.2; rw [hg] at b; simpa using b
theorem pre_used (h : preOk ops k = true) {i : Nat} (hi : i < k) : ∃ j o, i < j ∧ j ≤ k ∧ ops[j]? = some o ∧ ∃ e ∈ o.after, Region.binds .any e = true ∧ e.on = i := by
 unfold preOk at h
 simp only [Bool.and_eq_true, List.all_eq_true, List.mem_range, List.any_eq_true] at h
 obtain ⟨j, hj, b, a⟩ := h.1.2 i hi
 cases ho : ops[j]? with
 | none => rw [ho] at a; cases a
 | some o =>
  rw [ho] at a
  simp only [onB] at a
  obtain ⟨e, he, hb⟩ := Array.any_eq_true'.1 a
  simp only [Bool.and_eq_true] at hb
  exact ⟨j, o, by simpa using b, by omega, ho, e, he, hb.1, Nat.eq_of_beq_eq_true hb.2⟩
theorem pre_rest (h : preOk ops k = true) {j : Nat} (hj : k < j) {o : Oper} (ho : ops[j]? = some o) : ∃ e ∈ o.after, Region.binds .any e = true ∧ k ≤ e.on := by
 unfold preOk at h
 simp only [Bool.and_eq_true, List.all_eq_true, List.mem_range] at h
 have hlt : j < ops.size := (Array.getElem?_eq_some_iff.1 ho).1
 have a := h.2 j hlt
 rw [ho] at a
 simp only [Bool.or_eq_true] at a
 rcases a with a | a
 ·have := of_decide_eq_true a; omega
 ·obtain ⟨e, he, hb⟩ := Array.any_eq_true'.1 a
  simp only [Bool.and_eq_true] at hb
  exact ⟨e, he, hb.1, of_decide_eq_true hb.2⟩
theorem getD_tf {L : Array Bool} {i : Nat} (h : i < L.size) : L.getD i false = L.getD i true := by simp [h]
theorem pre_low (h : preOk ops k = true) (hI : PreI ops k L) (hk : k ≤ ops.size) {i : Nat} (hi : i < k) (hu : L.getD i true = false) {j : Nat} (hj : j ∈ Region.ready .any ops L) : j < k := by
 rcases Nat.lt_or_ge j k with hlt | hge
 ·exact hlt
 exfalso
 obtain ⟨c, o, ho, hall⟩ := mem_ready.1 hj
 rcases Nat.lt_or_ge k j with hlt | hle
 ·obtain ⟨e, he, hb, hke⟩ := pre_rest h hlt ho
  have a := hall e he hb
  rcases Nat.lt_or_ge e.on ops.size with hs | hs
  ·rw [getD_tf (by rw [hI.size]; exact hs), hI.high _ hke hs] at a; cases a
  ·rw [Array.getD_eq_getD_getElem?, Array.getElem?_eq_none (by rw [hI.size]; exact hs)] at a; cases a
 ·obtain rfl : j = k := by omega
  -- all of the k first are listed
  have key : ∀ m i, j - i ≤ m → i < j → L.getD i true = true := by
   intro m
   induction m with
   | zero => intro i a b; omega
   | succ m ih =>
    intro i a b
    obtain ⟨j', o', hij, hjk, ho', e, he, hb, heq⟩ := pre_used h b
    rw [← heq]
    rw [← getD_tf (by rw [hI.size]; omega)]
    rcases Nat.lt_or_ge j' j with hl | hg
    ·exact hI.down j' o' hl ho' (ih j' (by omega) hl) e he hb
    ·obtain rfl : j' = j := by omega
     rw [ho] at ho'; cases ho'
     exact hall e he hb
  have := key j i (by omega) hi
  rw [hu] at this; cases this
theorem pre_ready (h : preOk ops k = true) (hI : PreI ops k L) : ∀ i, i < k → L.getD i true = false → ∃ j, j < k ∧ j ∈ Region.ready .any ops L := by
 intro i
 induction i using Nat.strongRecOn with
 | ind i ih =>
  intro hi hu
  obtain ⟨o, ho, hb, _⟩ := pre_back h hi
  by_cases hx : ∃ m, m < i ∧ L.getD m true = false
  ·obtain ⟨m, hm, hmu⟩ := hx
   exact ih m hm (by omega) hmu
  ·refine ⟨i, hi, mem_ready.2 ⟨hu, o, ho, fun e he hbi => ?_⟩⟩
   have hlt := hb e he hbi
   have his : i < ops.size := (Array.getElem?_eq_some_iff.1 ho).1
   rw [getD_tf (by rw [hI.size]; omega)]
   cases hc : L.getD e.on true with
   | true => rfl
   | false => exact absurd ⟨_, hlt, hc⟩ hx
theorem PreI.set (hI : PreI ops k L) {i : Nat} (hi : i < k) (hr : i ∈ Region.ready .any ops L) : PreI ops k (L.setIfInBounds i true) := by
 obtain ⟨a, o, ho, hall⟩ := mem_ready.1 hr
 refine ⟨by rw [Array.size_setIfInBounds]; exact hI.size, fun j hj hs => by rw [getD_set_ne true (by omega)]; exact hI.high j hj hs, fun j o' hj ho' hl e he hb => ?_⟩
 by_cases hij : i = j
 ·subst hij
  rw [ho] at ho'; cases ho'
  exact getD_set_true (hall e he hb)
 ·rw [getD_set_ne true hij] at hl
  exact getD_set_true (hI.down j o' hj ho' hl e he hb)
def unl (L : Array Bool) : Nat → Nat
  | 0 => 0
  | k + 1 => (if L.getD k true = false then 1 else 0) + unl L k
theorem unl_far {i : Nat} : ∀ k, k ≤ i → unl (L.setIfInBounds i true) k = unl L k
 | 0, _ => rfl
 | k + 1, h => by unfold unl; rw [getD_set_ne true (by omega), unl_far k (by omega)]
theorem unl_set {i : Nat} (hs : i < L.size) (hu : L.getD i true = false) : ∀ k, i < k → unl (L.setIfInBounds i true) k + 1 = unl L k
 | 0, h => by omega
 | k + 1, h => by
  unfold unl
  by_cases hik : i = k
  ·subst hik
   rw [unl_far i (Nat.le_refl _), if_pos hu, if_neg (by simp [hs])]; omega
  ·rw [getD_set_ne true hik, ← unl_set hs hu k (by omega)]; omega
theorem unl_zero : ∀ k, unl L k = 0 → ∀ i, i < k → L.getD i true = true
 | 0, _, i, h => by omega
 | k + 1, h, i, hi => by
  unfold unl at h
  rcases Nat.lt_or_ge i k with hl | hg
  ·exact unl_zero k (by omega) i hl
  ·obtain rfl : i = k := by omega
   cases hc : L.getD i true with
   | true => rfl
   | false => rw [if_pos hc] at h; omega
theorem unl_some : ∀ k, unl L k ≠ 0 → ∃ i, i < k ∧ L.getD i true = false
 | 0, h => absurd rfl h
 | k + 1, h => by
  unfold unl at h
  by_cases hc : L.getD k true = false
  ·exact ⟨k, by omega, hc⟩
  ·rw [if_neg hc] at h
   obtain ⟨i, hi, hu⟩ := unl_some k (by omega)
   exact ⟨i, by omega, hu⟩
theorem unl_all {N : Nat} : ∀ k, k ≤ N → unl (Array.replicate N false) k = k
 | 0, _ => rfl
 | k + 1, h => by unfold unl; rw [if_pos (by simp [show k < N by omega]), unl_all k (by omega)]; omega
theorem preL_eq (hI : PreI ops k L) (hk : k ≤ ops.size) (h0 : unl L k = 0) : L = preL k ops.size := by
 refine Array.ext (by rw [hI.size]; simp [preL]) fun i h1 h2 => ?_
 have hs : i < ops.size := by rw [← hI.size]; exact h1
 have e : L.getD i true = L[i] := by simp [h1]
 rw [← e]
 have a : (preL k ops.size)[i] = decide (i < k) := by simp [preL]
 rw [a]
 rcases Nat.lt_or_ge i k with hl | hg
 ·rw [unl_zero k h0 i hl, decide_eq_true hl]
 ·rw [hI.high i hg hs, decide_eq_false (by omega)]
theorem ready_take (hI : PreI ops k L) (hk : k ≤ ops.size) {j : Nat} (hj : j < k) : j ∈ Region.ready .any ops L ↔ j ∈ Region.ready .any (ops.toList.take k).toArray L := by
 rw [mem_ready, mem_ready]
 have e : (ops.toList.take k).toArray[j]? = ops[j]? := by
  rw [List.getElem?_toArray, List.getElem?_take, if_pos hj, Array.getElem?_toList]
 rw [e]
theorem take_atE {j : Nat} (hj : j < k) : (ops.toList.take k).toArray[j]? = ops[j]? := by
 rw [List.getElem?_toArray, List.getElem?_take, if_pos hj, Array.getElem?_toList]
theorem yielded_take {j : Nat} (hj : j < k) (t : Array Value) : yielded (ops.toList.take k).toArray t j = yielded ops t j := by
 unfold yielded; rw [take_atE hj]
theorem wanted_take {o : Oper} (ho : ∀ g, o.guard = some g → g.1 < k) (t : Array Value) : Region.wanted o (yielded (ops.toList.take k).toArray t) = Region.wanted o (yielded ops t) := by
 unfold Region.wanted
 cases hg : o.guard with
 | none => rfl
 | some g =>
  obtain ⟨j, b⟩ := g
  simp only
  rw [yielded_take (ho _ hg)]
end
section
variable {P : Program} {n : Nat} {ops : Array Oper} {k fuel : Nat} {C : World → Prop} {K : Act → Prop} {Q' : Exit → Act → World → Prop}
theorem pre_any (h : preOk ops k = true) (hk : k ≤ ops.size) (hd : noDefers ops = true)
  (H : ∀ a w, C w → K a → wpAnyIn (Fw none) 0 P .any ops Q' fuel (preL k ops.size) a w) : ∀ (m : Nat) (L : Array Bool) (a : Act) (w : World), PreI ops k L → unl L k = m → C w →
  wpAnyQ P .any (ops.toList.take k).toArray C K m L a → wpAnyIn (Fw none) 0 P .any ops Q' (m + fuel) L a w
 | 0, L, a, w, hI, hu, hw, hq => by
  rw [Nat.zero_add, preL_eq hI hk hu]
  exact H a w hw hq.2
 | m + 1, L, a, w, hI, hu, hw, hq => by
  obtain ⟨f, d, c⟩ := unl_some k (by omega : unl L k ≠ 0)
  rw [show m + 1 + fuel = m + fuel + 1 by omega]
  refine ⟨fun he => ?_, fun i hi => ?_⟩
  ·obtain ⟨j, _, hj⟩ := pre_ready h hI f d c
   rw [he] at hj; cases hj
  ·have hik := pre_low h hI hk d c hi
   have b := hq.2 i ((ready_take hI hk hik).1 hi)
   obtain ⟨o, ho, _, hg⟩ := pre_back h hik
   have hs : i < L.size := by rw [hI.size]; omega
   have hun := (mem_ready.1 hi).1
   have hset := unl_set hs hun k hik
   have e : qOp P ops C i (wpAnyQ P .any (ops.toList.take k).toArray C K m (L.setIfInBounds i true)) a := by
    unfold qOp at b ⊢
    rw [take_atE hik, ho] at b
    rw [ho]
    simp only at b ⊢
    rw [wanted_take hg] at b
    exact b
   exact opIn_quiet hd hw (fun a' w' hw' hK => pre_any h hk hd H m _ a' w' (hI.set hik hi) (by omega) hw' hK) e
end
theorem PreI.zero {ops : Array Oper} {k : Nat} : PreI ops k (Array.replicate ops.size false) := by
 refine ⟨by simp, fun j _ hs => by simp [hs], fun i o hi ho hl e he hb => ?_⟩
 have hs : i < ops.size := (Array.getElem?_eq_some_iff.1 ho).1
 simp [hs] at hl
section
variable {P : Program} {n : Nat} {Q : Post} {s : Fm} {w : World}
theorem W_pre {r : Option Nat} {id : Nat} {l : List Oper} (k N m : Nat) (hN : Nat.beq l.length N = true) (hm : P.follows .mixedOrders = true) (hd : noDefers l.toArray = true) (hp : preOk l.toArray k = true)
  (hs : Region.noSelect (l.take k).toArray = true) (hB : Region.lexFrom .any (l.take k).toArray (l.take k).length 0 (Array.replicate N false) = true) (hk : Nat.beq (k + m) N = true)
  (h : Lq P n (l.take k).toArray w (fun s' => ∀ w', Below w.heap.size w w' → Li P n l.toArray Q m (preL k N) s' w') (l.take k) s) : W r P n (.region id l.toArray true) Q s w := by
 refine wD N hN hm hd fun w' hw' => ?_
 obtain rfl := Nat.eq_of_beq_eq_true hN
 have hk := Nat.eq_of_beq_eq_true hk
 have hl : (l.take k).length = k := by rw [List.length_take]; omega
 have key := pre_any (P := P) (Q' := upQ n Q) (C := fun w' => Below w.heap.size w w') (K := fun a => ∃ s, a = Fm.act n s ∧ ∀ w', Below w.heap.size w w' → Li P n l.toArray Q m (preL k l.length) s w') (fuel := m) hp (by simp; omega) hd (by
  rintro a d b ⟨e, rfl, hK⟩
  have := hK d b
  unfold Li at this
  simpa using this) k (Array.replicate l.length false) (s.act n) w' (by have := PreI.zero (ops := l.toArray) (k := k); simpa using this) (unl_all k (by omega)) hw' ?_
 ·unfold Li
  rw [hk] at key
  exact key
 ·unfold Lq at h
  have c := wpAnyQ_lex (md := .any) hs (l.take k) 0 (Array.replicate l.length false) (s.act n) (fun j => by simp) hB h
  rw [hl] at c
  simpa using c
end
end Go.FK
end

/- === WcmI === -/
section
/- Walks, written by my program walk.py out of the specification cmI.py: each theorem says what one function returns and that it leaves memory as it was. -/
namespace Go.Proofs.YtkclikfejmeblaaGreatDoor
open Go Go.RowKit Go.FK _root_.Go.Proofs.Tryz
set_option maxHeartbeats 4000000
set_option maxRecDepth 100000
theorem xK : Elem Tryz.prog 116 131 3 16 := ⟨underlying116, zk, rfl⟩
theorem c_new_I (w : World) :
  Calls Tryz.prog 29 #[] w (Ret fun v w' => ∃ (cb0 : Nat), v = (pt cb0 0) ∧ w'.heap[cb0]? = some (.cells [(.slice none 0 0), (.bool true)].toArray 118 (0, 0)) ∧ w.heap.size ≤ cb0 ∧ Below w.heap.size w w') := by
 refine wJ 3 func29 rfl ?_
 have d := Below.refl w.heap.size w
 refine wR (zH (nR (zr (Value.agg #[(.slice none 0 0), (.bool true)]) (zN [(.slice none 0 0), (.bool true)] 118 ?_))))
 intro e f a
 have b := a.ge d.size
 have c := a.here
 have d := d.tr a.below
 exact zH (nQ (zR (zZ [(pt e 0)] ⟨e, rfl, c, b, d⟩)))
theorem c_none_I (a : Nat) (b : Value) (xs : List (Int × Int × Int)) (w : World) (c : w.heap[a]? = some (.cells [b, (.bool true)].toArray 118 (0, 0))) (d : Rd w encSpanI b xs) :
  Calls Tryz.prog 72 #[(pt a 0)] w (Ret fun v w' => v = (.bool false) ∧ Below w.heap.size w w') := by
 refine wJ 12 func72 rfl ?_
 have e := Below.refl w.heap.size w
 exact wR (zH (nR (zD (zr (.bool false) (zD (zw (zD (zw (zr (pt a 0) (zw (zr (pt a 1) (zw (zO 1 c rfl (zw (qO true (xF (zH (nQ (zR (zZ [(.bool false)] ⟨rfl, e⟩))))))))))))))))))))
theorem c_cmp_I (lo : Int) (hi : Int) (val : Int) (x : Int) (w : World) (h1 : -2147483648 ≤ hi ∧ hi ≤ 2147483647) (h2 : -2147483648 ≤ x ∧ x ≤ 2147483647) :
  Calls Tryz.prog 111 #[(Value.agg #[(I3 lo), (I3 hi), (I6 val)]), (I3 x)] w (Ret fun v w' => v = (I6 (hi - x)) ∧ Below w.heap.size w w') := by
 refine wJ 11 func111 rfl ?_
 have c := Below.refl w.heap.size w
 refine wR (zN [(I3 lo), (I3 hi), (I6 val)] 131 ?_)
 intro e f a
 have d := a.ge c.size
 have b := a.here
 have c := c.tr a.below
 exact zH (nR (wB 1 b rfl (wU (k := .i32) hi hi zk underlying3 zk (yK _ zo zo) (zD (wU (k := .i32) x x zk underlying3 zk (yK _ zo zo) (yY hi x (hi - x) rfl zk zk (yK _ zh zh) (zH (nQ (zR (zZ [(I6 (hi - x))] ⟨rfl, c⟩))))))))))
theorem c_bsf_I (b : Value) (xs : List (Int × Int × Int)) (x : Int) (w : World) (a : Rd w encSpanI b xs) (hr : RiseG 0 xs) (hx : -2147483648 ≤ x ∧ x ≤ 2147483647) :
  Calls Tryz.prog 110 #[b, (I3 x), (.func (.func 111) #[] #[])] w (Ret fun v w' => v = (.tuple #[(N6 (fromG xs x)), (.bool (foundG xs x))]) ∧ Below w.heap.size w w') := by
 refine wJ 49 func110 rfl ?_
 have c := Below.refl w.heap.size w
 have ak := hr.len
 refine wR (zH (zH (nR (zD (vY underlying116 (a).len (zH (nR (zD (zH (zH (nW (zW (xA (fun m s0 w0 => ∃ (i : Nat) (j : Nat), (m = j - i) ∧ (s0.ds = []) ∧ ([0, 1, 2, 6, 7, 8, 9, 10].map s0.f = [b, (I3 x), (.func (.func 111) #[] #[]), (I6 0), (.bool false), (N6 ((xs).length)), (N6 i), (N6 j)]) ∧ (Rd w0 encSpanI b xs) ∧ (Below w.heap.size w w0) ∧ (i ≤ j) ∧ (j ≤ xs.length) ∧ (lowG xs x i) ∧ (highG xs x j)) _ ⟨0, ((xs).length), rfl, zk, zk, a, c, by omega, by omega, lowG_zero xs x, highG_end xs x⟩ ?_)))))))))))))
 rintro m1 s2 w3 ⟨i, j, hm, h, ab, a, c, s, r, p, o⟩
 refine yX ab (yA (wR (zD (zD (nLt i j ?_ ?_)))))
 ·intro h4
  refine nQ (zT (zK (zB (zW (wR (zD (zD (xN i j (wU (k := .i64) (((i + j) : Nat) : Int) (((i + j) : Nat) : Int) zk underlying187 zk (wrap_u64 _ zo zo) (L_shr (k := .u64) (yk := .u64) (((i + j) : Nat) : Int) 1 2 rfl zk zk zk (wU (k := .u64) ((((i + j) / 2) : Nat) : Int) ((((i + j) / 2) : Nat) : Int) zk underlying3 zk (yK _ zo zo) (zH (nR (zD (zD (zD ?_))))))))))))))))
  have y := zX xs ((i + j) / 2) zo; obtain ⟨q, u⟩ := y
  have ac := hr.at u
  refine zEA a xK ((i + j) / 2) u [(I3 q.1), (I3 q.2.1), (I6 q.2.2)] rfl fun _ => (zD (zc (c_cmp_I q.1 q.2.1 q.2.2 x _ zo zo) ?_))
  rintro _ aj ⟨rfl, e⟩
  refine zLt .i64 (q.2.1 - x) 0 ?_ ?_
  ·intro am
   refine nQ (zT (zP (zD (xN ((i + j) / 2) 1 (zH (zQ (zJ ?_)))))))
   have c := c.tr e
   have a := a.below e
   refine zB ⟨_, zo, (((i + j) / 2) + 1), j, rfl, h, zk, a, c, zo, zo, ?_, ?_⟩
   ·exact lowG_step hr za zo
   exact o
  intro ag
  refine nQ (zF (zP (zD (zH (zQ (zJ ?_))))))
  have c := c.tr e
  have a := a.below e
  refine zB ⟨_, zo, i, ((i + j) / 2), rfl, h, zk, a, c, zo, zo, ?_, ?_⟩
  ·exact p
  exact highG_step za zo
 intro al
 refine nQ (zF (yU (zS (zS (yF (zB (wR (zD (zD (zD (nLt i ((xs).length) ?_ ?_)))))))))))
 ·intro ai
  refine zD (zw (zD (zw (zD (zw (zD (zw ?_)))))))
  have y := zX xs i zo; obtain ⟨d, l⟩ := y
  have y := (a).at (k := 3) zj l
  obtain ⟨t, g, aa, z⟩ := y
  have ac := hr.at l
  refine yS (k := .i64) b i _ t g xK aa zo zk zk (zw (xB t (g + i * 3) [(I3 d.1), (I3 d.2.1), (I6 d.2.2)] zk zk zk z (zw (zD (zw (zc (c_cmp_I d.1 d.2.1 d.2.2 x _ zo zo) ?_))))))
  rintro _ ad ⟨rfl, n⟩
  refine zw (qX .i64 (d.2.1 - x) 0 ?_ ?_)
  ·intro ae
   have c := c.tr n
   exact xJ (zH (zH (nQ (zR (zZ [(N6 i), (.bool true)] (hd := h) ⟨yV (congrArg (fun x : Nat => Value.int .i64 (x : Int)) (by exact (qE p o s zo r).symm)) (eb (by (rw [foundG_some (qE p o s zo r) za]; simp; omega))), c⟩)))))
  intro af
  have c := c.tr n
  exact xJ (zH (zH (nQ (zR (zZ [(N6 i), (.bool false)] (hd := h) ⟨yV (congrArg (fun x : Nat => Value.int .i64 (x : Int)) (by exact (qE p o s zo r).symm)) (eb (by (rw [foundG_some (qE p o s zo r) za]; simp; omega))), c⟩)))))
 intro ah
 exact zD (zs (zs (zs (zs (zs (zs (zs (zs (xF (zH (zH (nQ (zR (zZ [(N6 i), (.bool false)] (hd := h) ⟨yV (congrArg (fun x : Nat => Value.int .i64 (x : Int)) (by exact (qE p o s zo r).symm)) (eb (by (rw [foundG_none (qE p o s zo r) zo]; done))), c⟩))))))))))))))
theorem c_from_I (b : Nat) (a : Value) (xs : List (Int × Int × Int)) (x : Int) (w : World) (e : w.heap[b]? = some (.cells [a, (.bool true)].toArray 118 (0, 0))) (c : Rd w encSpanI a xs) (hr : RiseG 0 xs) (hx : -2147483648 ≤ x ∧ x ≤ 2147483647) :
  Calls Tryz.prog 73 #[(pt b 0), (I3 x)] w (Ret fun v w' => v = (N6 (fromG xs x)) ∧ Below w.heap.size w w') := by
 refine wJ 17 func73 rfl ?_
 have d := Below.refl w.heap.size w
 have g := hr.len
 refine wR (zH (nR (zD (zr (pt b 0) (wB 0 e rfl (zD (zc (c_bsf_I a xs x _ c (by exact hr) zo) ?_)))))))
 rintro _ h ⟨rfl, f⟩
 have d := d.tr f
 exact zD (zr (N6 (fromG xs x)) (zr (.bool (foundG xs x)) (zH (zH (nR (zD (zH (nQ (zR (zZ [(N6 (fromG xs x))] ⟨rfl, d⟩))))))))))
theorem c_at_I (c : Nat) (d : Value) (xs : List (Int × Int × Int)) (x : Int) (w : World) (b : w.heap[c]? = some (.cells [d, (.bool true)].toArray 118 (0, 0))) (a : Rd w encSpanI d xs) (hr : RiseG 0 xs) :
  Calls Tryz.prog 41 #[(pt c 0), (I3 x)] w (Ret fun v w' => v = (.tuple #[(I6 ((atM 0 xs x).1)), (.bool ((atM 0 xs x).2))]) ∧ Below w.heap.size w w') := by
 refine wJ 50 func41 rfl ?_
 have f := Below.refl w.heap.size w
 have r := hr.len
 refine wR (zH (zH (nR (zH (nW (wR (zD (zc (c_none_I c d xs _ b a) ?_))))))))
 rintro _ u ⟨rfl, e⟩
 refine zD (zw (zD (zw (zLt .i32 x 0 ?_ ?_))))
 ·intro h4
  have f := f.tr e
  exact xF (zD (zs (zs (xJ (nQ (zT (wR (zD (zH (zH (nQ (zR (zG (zZ [(I6 0), (.bool false)] ⟨yV (e6 (by (rw [atG_out zo]; done))) (eb (by (rw [atG_out zo]; done))), f⟩))))))))))))))
 intro h5
 refine xF (zD (zw (zD (zw (zGt .i32 x 1114111 ?_ ?_)))))
 ·intro h6
  have f := f.tr e
  exact xF (nQ (zT (wR (zD (zH (zH (nQ (zR (zG (zZ [(I6 0), (.bool false)] ⟨yV (e6 (by (rw [atG_out zo]; done))) (eb (by (rw [atG_out zo]; done))), f⟩))))))))))
 intro z
 have b := zC b e
 have a := a.below e
 refine xF (nQ (zF (zK (zB (yA (wR (zD (zD (zc (c_from_I c d xs x _ b a (by exact hr) zo) ?_)))))))))
 rintro _ y ⟨rfl, h⟩
 have := uC xs x
 have b := zC b h
 have a := a.below h
 refine zH (nR (zD (zD (zr (pt c 0) (wB 0 b rfl (vY underlying116 (a).len (nLt (fromG xs x) ((xs).length) ?_ ?_)))))))
 ·intro t
  refine zD (zw (zD (zw (zr (pt c 0) (zw (zr (pt c 0) (zw (zO 0 b rfl (zw (zD (zw ?_)))))))))))
  have o := zX xs (fromG xs x) zo; obtain ⟨l, i⟩ := o
  have o := (a).at (k := 3) zj i
  obtain ⟨j, g, m, n⟩ := o
  refine yS (k := .i64) d (fromG xs x) _ j g xK m zo zk zk (zw (zr (pt j (g + (fromG xs x) * 3)) (zw (qL j (g + (fromG xs x) * 3) (I3 l.1) zk zk (n 0 _ rfl) (zw (zD (zw (zLe .i32 l.1 x ?_ ?_))))))))
  ·intro q
   refine xJ (nQ (zT (wR (zD (zr (pt c 0) (wB 0 b rfl (zD ?_)))))))
   have f := (f.tr e).tr h
   exact zE a xK (fromG xs x) i 2 rfl fun _ _ => (zH (zH (nQ (zR (zG (zZ [(I6 l.2.2), (.bool true)] ⟨yV (e6 (by (rw [atG_in hr zo zo za zo]; done))) (eb (by (rw [atG_in hr zo zo za zo]; done))), f⟩))))))
  intro p
  have f := (f.tr e).tr h
  exact xJ (nQ (zF (zK (zB (wR (zD (zH (zH (nQ (zR (zZ [(I6 0), (.bool false)] ⟨yV (e6 (by (rw [atG_gap hr zo zo za zo]; done))) (eb (by (rw [atG_gap hr zo zo za zo]; done))), f⟩)))))))))))
 intro s
 have f := (f.tr e).tr h
 exact zD (zs (zs (zs (zs (zs (zs (zs (zs (zs (zs (xF (nQ (zF (zK (zB (wR (zD (zH (zH (nQ (zR (zZ [(I6 0), (.bool false)] ⟨yV (e6 (by (rw [atG_end zo zo zo]; done))) (eb (by (rw [atG_end zo zo zo]; done))), f⟩))))))))))))))))))))))
theorem c_meets_I (f : Nat) (c : Value) (xs : List (Int × Int × Int)) (lo : Int) (hi : Int) (w : World) (h : w.heap[f]? = some (.cells [c, (.bool true)].toArray 118 (0, 0))) (m : Rd w encSpanI c xs) (hr : RiseG 0 xs) (hlo : -2147483648 ≤ lo ∧ lo ≤ 2147483647) :
  Calls Tryz.prog 101 #[(pt f 0), (Value.agg #[(I3 lo), (I3 hi)])] w (Ret fun v w' => v = (.tuple #[(Value.agg #[(I3 ((metV 0 (metG xs lo hi)).1)), (I3 ((metV 0 (metG xs lo hi)).2.1))]), (I6 ((metV 0 (metG xs lo hi)).2.2.1)), (.bool ((metV 0 (metG xs lo hi)).2.2.2))]) ∧ Below w.heap.size w w') := by
 refine wJ 69 func101 rfl ?_
 have i := Below.refl w.heap.size w
 have g := m
 have bg := hr.len
 refine wR (zN [(I3 lo), (I3 hi)] 32 ?_)
 intro b1 w2 af
 have a6 := af.ge i.size
 have j := af.here
 refine zN [(I3 0), (I3 0)] 32 ?_
 intro b4 w5 z
 have i := i.tr af.below
 have n := z.ge i.size
 have b := z.here
 have i := i.tr z.below
 have h := zC (zC h af.below) z.below
 have m := g.below i
 refine zH (zH (nR (zH (nW (wR (zD (zc (c_none_I f c xs _ h m) ?_)))))))
 rintro _ w7 ⟨rfl, s⟩
 have j := zC (zC j z.below) s
 refine zD (zw (vT j (zw (zc (qK lo hi _ ) ?_))))
 rintro _ bd ⟨rfl, l⟩
 refine yT (mayF lo hi) ?_ ?_
 ·intro bf
  have i := (i.tr s).tr l
  have h := zC (zC h s) l
  have j := zC j l
  have m := g.below i
  refine zw (qO true (xF (nQ (zF (zK (zB (yA (wR (zD (wB 0 j rfl (zc (c_from_I f c xs lo _ h m (by exact hr) zo) ?_)))))))))))
  rintro _ a9 ⟨rfl, o⟩
  have := uC xs lo
  have i := i.tr o
  have h := zC h o
  have m := g.below i
  refine zH (nW (xX zk zk (zV (zV (yB (pt f 0) zf (yB (pt f 0) zf (yD f 0 c zk zf (yI h rfl) (vV 116 131 (xs).length c rfl underlying116 (m).len zk (xV .i64 (((fromG xs lo) : Nat) : Int) (((xs).length : Nat) : Int) ((fromG xs lo) < (xs).length) rfl (cmpN_lt (fromG xs lo) ((xs).length)) zk zk ?_ ?_)))))))))
  ·intro a1
   replace a1 : (fromG xs lo) < (xs).length := by omega
   refine zV (qw (zV (qw (yB (pt f 0) zf (qw (yB (pt f 0) zf (qw (yD f 0 c zk zf (yI h rfl) (qw (zV (qw ?_)))))))))))
   have hz := zX xs (fromG xs lo) zo; obtain ⟨d, y⟩ := hz
   have hz := (m).at (k := 3) zj y
   obtain ⟨ao, t, a0, az⟩ := hz
   have j := zC j o
   refine yN (k := .i64) c (fromG xs lo) _ ao t xK a0 zo zk zk (qw (yB (pt ao (t + (fromG xs lo) * 3)) zf (qw (yD ao (t + (fromG xs lo) * 3) (I3 d.1) zk zf (az 0 _ rfl) (qw (yB (pt b1 1) zf (qw (yD b1 1 (I3 hi) zk zf (yI j rfl) (qw (xV .i32 d.1 hi (d.1 ≤ hi) rfl (cmp_le d.1 hi) zk zk ?_ ?_))))))))))
   ·intro a4
    replace a4 : d.1 ≤ hi := by omega
    refine qT (yQ ?_)
    intro bi ab
    refine zB (zT (yA (W_held 28 zk zk ?_)))
    intro aq aa
    refine ⟨fun w2 => Ch (fun k => k = b4) aq w2, ?_⟩
    have a : Ch (fun k => k = b4) aq aq := Ch.refl _ _
    refine hp 0 rfl (pt f 0) a (hp 1 rfl (pt f 0) a (hp 2 rfl (pt f 0) a ?_))
    have h := zC (zC h ab) aa
    have b := zC (zC (zC (zC (zC b s) l) o) ab) aa
    refine ht 3 rfl c a (R_load f 0 c zk zf (fun w2 h2 => yI (yG h h2 (zU h b zi)) rfl)) ?_
    refine hp 4 rfl (N6 (fromG xs lo)) a ?_
    have hz := (g).at (k := 3) zj y
    obtain ⟨ae, r, aw, ay⟩ := hz
    refine ht 5 rfl (pt ae (r + (fromG xs lo) * 3)) a (R_ixaddr (k := .i64) c (fromG xs lo) _ ae r xK aw zo zk zk) (hp 6 rfl (pt ae (r + (fromG xs lo) * 3)) a ?_)
    have i := (i.tr ab).tr aa
    refine ht 7 rfl (I3 d.1) a (R_load ae (r + (fromG xs lo) * 3) (I3 d.1) zk zf (fun w2 h2 => cell_old (ay 0 _ rfl) i h2 (fun k e => e ▸ n))) ?_
    refine hp 8 rfl (pt f 0) a (hp 9 rfl (pt f 0) a (hp 10 rfl (pt f 0) a (ht 11 rfl c a (R_load f 0 c zk zf (fun w2 h2 => yI (yG h h2 (zU h b zi)) rfl)) ?_)))
    refine hp 12 rfl (N6 (fromG xs lo)) a ?_
    have hz := (g).at (k := 3) zj y
    obtain ⟨ac, q, ar, av⟩ := hz
    refine ht 13 rfl (pt ac (q + (fromG xs lo) * 3)) a (R_ixaddr (k := .i64) c (fromG xs lo) _ ac q xK ar zo zk zk) (hp 14 rfl (pt ac ((q + (fromG xs lo) * 3) + 1)) a (ht 15 rfl (I3 d.2.1) a (R_load ac ((q + (fromG xs lo) * 3) + 1) (I3 d.2.1) zk zf (fun w2 h2 => cell_old (av 1 _ rfl) i h2 (fun k e => e ▸ n))) ?_))
    refine hp 16 rfl (Value.agg #[(I3 d.1), (I3 d.2.1)]) a (hp 17 rfl (pt f 0) a (hp 18 rfl (pt f 0) a (hp 19 rfl (pt f 0) a (ht 20 rfl c a (R_load f 0 c zk zf (fun w2 h2 => yI (yG h h2 (zU h b zi)) rfl)) ?_))))
    refine hp 21 rfl (N6 (fromG xs lo)) a ?_
    have hz := (g).at (k := 3) zj y
    obtain ⟨ag, p, au, ax⟩ := hz
    refine ht 22 rfl (pt ag (p + (fromG xs lo) * 3)) a (R_ixaddr (k := .i64) c (fromG xs lo) _ ag p xK au zo zk zk) (hp 23 rfl (pt ag ((p + (fromG xs lo) * 3) + 2)) a (ht 24 rfl (I6 d.2.2) a (R_load ag ((p + (fromG xs lo) * 3) + 2) (I6 d.2.2) zk zf (fun w2 h2 => cell_old (ax 2 _ rfl) i h2 (fun k e => e ▸ n))) ?_))
    refine H_storeA 25 b4 0 [(I3 d.1), (I3 d.2.1)] [(I3 0), (I3 0)] [(I3 d.1), (I3 d.2.1)] 32 rfl zk zk zk rfl zk b zk rfl ?_
    intro bb u
    refine ⟨a.trans (Ch.of_wrote u), ?_⟩
    have b := u.here
    have am := a.trans (Ch.of_wrote u)
    refine hp 26 rfl (I6 d.2.2) am (hp 27 rfl (.bool true) am (H_done zk (zB (zR (zG (yM [.cell 4 32, .tmp 5, .tmp 6] [(Value.agg #[(I3 d.1), (I3 d.2.1)]), (I6 d.2.2), (.bool true)] rfl rfl ⟨⟨⟨b4, 0, none⟩, zk, yH [(I3 d.1), (I3 d.2.1)] zk zk (yE b)⟩, zk, zk, trivial⟩ ?_))))))
    have i := i.trans (u.below n)
    exact ⟨Zj (by (rw [metG_yes za za zo]; rfl)) (e6 (by (rw [metG_yes za za zo]; rfl))) (eb (by (rw [metG_yes za za zo]; rfl))), i⟩
   intro a2
   replace a2 : hi < d.1 := by omega
   refine qT (yQ ?_)
   intro bc ai
   have b := zC (zC (zC (zC b s) l) o) ai
   refine zB (zF (zK (zB (wR (zr (Value.agg #[(I3 0), (I3 0)]) (zD (qQ [(I3 0), (I3 0)] b ?_)))))))
   intro bh al
   have b := al.here
   refine zH (zH (nQ (zR (yM [.cell 4 32, .tmp 5, .tmp 6] [(Value.agg #[(I3 0), (I3 0)]), (I6 0), (.bool false)] rfl rfl ⟨⟨⟨b4, 0, none⟩, zk, yH [(I3 0), (I3 0)] zk zk (yE b)⟩, zk, zk, trivial⟩ ?_))))
   have i := (i.tr ai).trans (al.below n)
   exact ⟨Zj (by (rw [metG_no za za zo]; rfl)) (e6 (by (rw [metG_no za za zo]; rfl))) (eb (by (rw [metG_no za za zo]; rfl))), i⟩
  intro a3
  replace a3 : (xs).length ≤ (fromG xs lo) := by omega
  refine zV (qs (qs (qs (qs (qs (qs (qs (qs (qs (qs (qs (qF (yQ ?_)))))))))))))
  intro a7 ak
  have b := zC (zC (zC (zC b s) l) o) ak
  refine zB (zF (zK (zB (wR (zr (Value.agg #[(I3 0), (I3 0)]) (zD (qQ [(I3 0), (I3 0)] b ?_)))))))
  intro be ah
  have b := ah.here
  refine zH (zH (nQ (zR (yM [.cell 4 32, .tmp 5, .tmp 6] [(Value.agg #[(I3 0), (I3 0)]), (I6 0), (.bool false)] rfl rfl ⟨⟨⟨b4, 0, none⟩, zk, yH [(I3 0), (I3 0)] zk zk (yE b)⟩, zk, zk, trivial⟩ ?_))))
  have i := (i.tr ak).trans (ah.below n)
  exact ⟨Zj (by (rw [metG_end za zo]; rfl)) (e6 (by (rw [metG_end za zo]; rfl))) (eb (by (rw [metG_end za zo]; rfl))), i⟩
 intro a8
 have b := zC (zC b s) l
 refine zw (qO false (xF (nQ (zT (wR (zr (Value.agg #[(I3 0), (I3 0)]) (zD (qQ [(I3 0), (I3 0)] b ?_))))))))
 intro ba aj
 have b := aj.here
 refine zH (zH (nQ (zR (zG (yM [.cell 4 32, .tmp 5, .tmp 6] [(Value.agg #[(I3 0), (I3 0)]), (I6 0), (.bool false)] rfl rfl ⟨⟨⟨b4, 0, none⟩, zk, yH [(I3 0), (I3 0)] zk zk (yE b)⟩, zk, zk, trivial⟩ ?_)))))
 have i := ((i.tr s).tr l).trans (aj.below n)
 exact ⟨Zj (by (rw [metG_may za]; rfl)) (e6 (by (rw [metG_may za]; rfl))) (eb (by (rw [metG_may za]; rfl))), i⟩
theorem c_insert_I (B_ : Nat) (o : Value) (s : List (Int × Int × Int)) (i : Nat) (z : Value) (vs : List (Int × Int × Int)) (w : World) (hs0 : B_ ≤ w.heap.size) (ag : Row w B_ 131 3 encSpanI o s) (r : Row w 0 131 3 encSpanI z vs) (f : Value.ownBlock z = none ∨ Value.ownBlock z ≠ Value.ownBlock o) (hi : i ≤ s.length) (hl : s.length ≤ 4194304) (hv : vs.length ≤ 4194304) :
  Calls Tryz.prog 153 #[o, (N6 i), z] w (Ret fun v w' => ∃ q0 : Value, v = q0 ∧ Row w' B_ 131 3 encSpanI q0 (List.take i s ++ vs ++ List.drop i s) ∧ (∀ g, Value.ownBlock q0 = some g → w.heap.size ≤ g ∨ Value.ownBlock o = some g) ∧ Ch (fun k => Value.ownBlock o = some k) w w') := by
 refine wJ 95 func153 rfl ?_
 have hb := Below.refl B_ w
 have hs : B_ ≤ (World.heap w).size := hs0
 have hc := Ch.refl (fun k => Value.ownBlock o = some k) w
 have l : ∀ g, Value.ownBlock o = some g → (World.heap w).size ≤ g ∨ (fun k => Value.ownBlock o = some k) g := fun g h => .inr h
 refine wR (zH (nR (zD (zD (L_slfrom xK o ((s).length) i (ag.shape) zo zk ⟨.i64, zk⟩ ?_)))))
 intro co cp
 refine nR (zD (vY underlying116 (r.rd).len (zH (nW (wR (zD (nEq ((vs).length) 0 ?_ ?_)))))))
 ·intro h3
  refine nQ (zT (wR (zD (zH (nQ (zR (zG (zZ [o] ?_))))))))
  have e0 : s = (List.take i s ++ vs ++ List.drop i s) := by exact gep_same rfl zo
  exact ⟨_, rfl, ag.cast e0, l, hc⟩
 intro h4
 refine nQ (zF (zK (zB (wR (zD (vY underlying116 (ag.rd).len (zH (nW (wR (zD (zD (nEq i ((s).length) ?_ ?_))))))))))))
 ·intro h5
  refine nQ (zT (wR (zD (zD (xM xK B_ o z s vs hs ag r.rd zo zj zj zk zk zk ?_)))))
  intro v6 w7 cb bl a0 
  have a3 := uZ (D := (fun k => Value.ownBlock o = some k)) a0 (by have h0 := hc.size; omega : (World.heap w).size ≤ (World.heap w).size) l
  have aw := xD r a0 f
  have hb := hb.tg hs bl ag
  replace hs := Nat.le_trans hs (bl.size)
  have ag := cb
  replace hc := hc.trans2 (Ch.of_grown bl) (fun k e => l k e)
  have l := a3; clear a3
  refine zH (nQ (zR (zG (zZ [v6] ?_))))
  have e0 : (s ++ vs) = (List.take i s ++ vs ++ List.drop i s) := by exact gep_end zo
  exact ⟨_, rfl, ag.cast e0, l, hc⟩
 intro cq
 refine nQ (zF (zK (zB (yA (wR (zD (zD (xN ((s).length) ((vs).length) (zD ?_)))))))))
 have j : ∀ x, (encSpanI x).length = 3 := fun _ => rfl
 have hz := Row.raw ag j zo
 obtain ⟨ab, c, b9, t, ca, d, a6⟩ := hz
 have b8 := ag.shape
 have be := (at_mid j a6 i zo).1
 have a1 := xO (at_mid j a6 i zo).2 (Nat.zero_add _)
 refine L_cap 116 131 c o rfl underlying116 ⟨_, _, t⟩ zk (nGt ((s).length + (vs).length) c ?_ ?_)
 ·intro cr
  refine nQ (zT (wR (zD (zD (L_sltoR xK o s i ag zj zo zk ⟨.i64, zk⟩ ?_)))))
  intro az ak ar
  have bh : ∀ g, Value.ownBlock az = some g → (World.heap w).size ≤ g ∨ (fun k => Value.ownBlock o = some k) g := by rw [ar.own]; exact l
  have ae := (by rw [ar.own]; exact f : Value.ownBlock z = none ∨ Value.ownBlock z ≠ Value.ownBlock az); have ax := yW ae
  refine zD (zD (xN ((s).length) ((vs).length) (zD (zsb ((s).length + (vs).length) i ?_))))
  have b6 := samecap_val ar t ak
  refine L_appZeros (kq := .i64) (kn := .i64) xK underlying3 ((0, 0, 0) : SpI) zk B_ az (List.take i s) (((s).length + (vs).length) - i) c hs ak zj b6.1 zo zl zo b6.2 zk zk zk ?_
  intro a2 ci a7 an af 
  have a3 := uZ (D := (fun k => Value.ownBlock o = some k)) af (by have h0 := hc.size; omega : (World.heap w).size ≤ (World.heap w).size) (dr_nil _)
  have a5 := grow_ne d (zer_new a7 af zl)
  replace d := Raw.grown d an (by simp [Value.ownBlock])
  have b1 := xD ag af (qI _)
  have aw := xD r af (qI _)
  have a9 := xD ak af (qI _)
  have hb := hb.grown an hs (fun k hk => by simp [Value.ownBlock] at hk)
  replace hc := hc.trans2 (Ch.of_grown an) (fun k e => by simp [Value.ownBlock] at e)
  replace hs := Nat.le_trans hs (an.size)
  have r := r.grown an (by cases h : Value.ownBlock _ <;> simp [Value.ownBlock])
  have a4 := a7
  have ac := a3; clear a3
  have j : ∀ x, (encSpanI x).length = 3 := fun _ => rfl
  have hz := Row.raw a4 j zl
  obtain ⟨bc, al, cc, u, bk, av, bz⟩ := hz
  have bn := a4.shape
  have au := bk; simp only [List.length_append, List.length_take, List.length_replicate] at au
  have bb := (at_split j bz).1
  have n : bc ≠ ab := fun e => a5 (by rw [yR u, e])
  have ay := n.symm
  refine zH (nR (zD (zD (vX xK a2 bc 0 ((((List.take i s) ++ (List.replicate (((s).length + (vs).length) - i) ((0, 0, 0) : SpI)))).length) al i ((((List.take i s) ++ (List.replicate (((s).length + (vs).length) - i) ((0, 0, 0) : SpI)))).length) (by rw [Nat.zero_mul]; exact u) zk ⟨.i64, zk⟩ rfl zl zo zo (zD (vA (a := (0 + i)) (p := ((((List.take i s) ++ (List.replicate (((s).length + (vs).length) - i) ((0, 0, 0) : SpI)))).length - i)) (c1 := (al - i)) xK z vs av r.rd j zj zk zk zl zo ?_))))))
  intro ch ah br
  have bd := vI (a := (0 + i)) (cs := List.flatMap encSpanI vs) bb zl (Raw.le av zo)
  have bp := vJ (a := (0 + i)) (ys := vs) j (Raw.le2 av zo)
  have m : World.grownBy ci ch (Value.ownBlock a2) := by rw [yR u]; exact br
  have hb := hb.grown m hs (fun k hk => by rw [yR u] at hk; cases hk; exact av.base)
  replace hs := Nat.le_trans hs m.size
  replace d := d.grown m (by rw [yR u]; exact fun e => n (Option.some.inj e))
  replace hc := hc.trans2 (Ch.of_grown m) (fun k e => ac k e)
  clear m
  refine nW (W_pre 8 9 1 zk zk zk zk zk zk zk (zV (zV (zV (wW i ((vs).length) zo zk zk (wC xK a2 bc 0 ((((List.take i s) ++ (List.replicate (((s).length + (vs).length) - i) ((0, 0, 0) : SpI)))).length) al (i + (vs).length) ((((List.take i s) ++ (List.replicate (((s).length + (vs).length) - i) ((0, 0, 0) : SpI)))).length) (by rw [Nat.zero_mul]; exact u) zk ⟨.i64, zk⟩ rfl zl zo zo (zV (zV (wC xK o ab 0 ((s).length) c i ((s).length) (by rw [Nat.zero_mul]; exact t) zk ⟨.i64, zk⟩ rfl zo zo zo (yQ ?_))))))))))
  intro cg ap
  have hb := hb.trans (ap.mono hs)
  replace hs := Nat.le_trans hs (ap.size)
  refine yC 8 zk (yO 8 rfl ?_ rfl)
  replace d := Raw.below d ap
  replace ah := Raw.below ah ap
  refine vA (a := (0 + (i + (vs).length))) (p := ((((List.take i s) ++ (List.replicate (((s).length + (vs).length) - i) ((0, 0, 0) : SpI)))).length - (i + (vs).length))) (c1 := (al - (i + (vs).length))) xK (.slice (some ⟨ab, (0 + i) * 3, none⟩) ((s).length - i) (c - i)) (List.drop i s) ah (at_rd d j (xO a1 zo) zl) j zj zk zk zl zl ?_
  intro cj bw bs
  have ba := vI (a := (0 + (i + (vs).length))) (cs := List.flatMap encSpanI (List.drop i s)) bd zl (Raw.le ah zo)
  have bt := vI (a := (0 + (i + (vs).length))) (cs := List.flatMap encSpanI (List.drop i s)) bp zo (Raw.le ah zo)
  have b3 := vJ (a := (0 + (i + (vs).length))) (ys := (List.drop i s)) j (Raw.le2 ah zl)
  have m : World.grownBy cg cj (Value.ownBlock a2) := by rw [yR u]; exact bs
  have hb := hb.grown m hs (fun k hk => by rw [yR u] at hk; cases hk; exact ah.base)
  replace hs := Nat.le_trans hs m.size
  replace d := d.grown m (by rw [yR u]; exact fun e => n (Option.some.inj e))
  replace hc := (hc.trans2 (Ch.of_below ap) (fun _ h => h.elim)).trans2 (Ch.of_grown m) (fun k e => ac k e)
  clear m
  refine zQ ?_
  refine ⟨rfl, yJ zk (zB (wR (zD (zH (nQ (zR (zG (zZ [a2] ?_))))))))⟩
  have bg := qC j (qC j ba (xO bt zl)) (xO b3 zl)
  have bm := Raw.row bw j (N := ((((List.take i s) ++ (List.replicate (((s).length + (vs).length) - i) ((0, 0, 0) : SpI)))).length)) zl zl bg
  exact ⟨_, u, bm, (fun g e => ac g (by rw [yR u]; exact e)), hc⟩
 intro ct
 refine nQ (zF (zK (zB (wR (zD (zD (zD (xN ((s).length) ((vs).length) (L_slTot xK o ab ((s).length) c ((s).length + (vs).length) t zk ⟨.i64, zk⟩ zo (zH (nW (wR (zD (zD (zD (zD (xN i ((vs).length) (vX xK (.slice (some ⟨ab, 0, none⟩) ((s).length + (vs).length) c) ab 0 ((s).length + (vs).length) c (i + (vs).length) ((s).length + (vs).length) (by rw [Nat.zero_mul]) zk ⟨.i64, zk⟩ rfl zo zo zo ?_))))))))))))))))))
 have j : ∀ x, (encSpanI x).length = 3 := fun _ => rfl
 have hz := Row.raw r j zo
 obtain ⟨bq, bf, ck, a8, cl, ai, cm⟩ := hz
 have bu := r.shape
 have aa : bq ≠ ab := rne_of a8 t f
 have y := aa.symm
 refine L_overlaps xK (ga := bq) (gb := ab) (R := 4) func154 zk zk zk zk 0 ((vs).length) bf ((0 + (i + (vs).length)) * 3) (((s).length + (vs).length) - (i + (vs).length)) (c - (i + (vs).length)) ai d aa (by rw [d.size]; exact Nat.mul_pos zo (by decide)) ((zk : _ = z).trans a8) zk (qO false (nQ (zT (yA (W_pre 8 9 1 zk zk zk zk zk zk zk (zV (zV (zV (wW i ((vs).length) zo zk zk (wC xK (.slice (some ⟨ab, 0, none⟩) ((s).length + (vs).length) c) ab 0 ((s).length + (vs).length) c (i + (vs).length) ((s).length + (vs).length) (by rw [Nat.zero_mul]) zk ⟨.i64, zk⟩ rfl zo zo zo (zV (zV (wC xK (.slice (some ⟨ab, 0, none⟩) ((s).length + (vs).length) c) ab 0 ((s).length + (vs).length) c i ((s).length + (vs).length) (by rw [Nat.zero_mul]) zk ⟨.i64, zk⟩ rfl zo zo zo (yQ ?_))))))))))))))
 intro cf aj
 have hb := hb.trans (aj.mono hs)
 replace hs := Nat.le_trans hs (aj.size)
 refine yC 8 zk (yO 8 rfl ?_ rfl)
 replace d := Raw.below d aj
 refine L_copySelf (a := (0 + (i + (vs).length))) (p := (((s).length + (vs).length) - (i + (vs).length))) (c1 := (c - (i + (vs).length))) (b := (0 + i)) (q := (((s).length + (vs).length) - i)) (c2 := (c - i)) xK (List.drop i s) d (xO a1 zo) j zj zk zk zl zl ?_
 intro b4 ao bv
 have bi := vI (a := (0 + (i + (vs).length))) (cs := List.flatMap encSpanI (List.drop i s)) be zl (Raw.le d zo)
 have b5 := vJ (a := (0 + (i + (vs).length))) (ys := (List.drop i s)) j (Raw.le2 d zl)
 have m : World.grownBy cf b4 (Value.ownBlock o) := by rw [yR t]; exact bv
 have hb := hb.grown m hs (fun k hk => by rw [yR t] at hk; cases hk; exact d.base)
 replace hs := Nat.le_trans hs m.size
 replace ai := Raw.below ai aj
 replace ai := ai.grown m (by rw [yR t]; exact fun e => y (Option.some.inj e))
 replace hc := (hc.trans2 (Ch.of_below aj) (fun _ h => h.elim)).trans2 (Ch.of_grown m) (fun k e => l k e)
 have r := (r.below aj).grown m f
 clear m
 refine zQ ?_
 refine ⟨rfl, yJ zk (zB (wR (zD (zD (vX xK (.slice (some ⟨ab, 0, none⟩) ((s).length + (vs).length) c) ab 0 ((s).length + (vs).length) c i ((s).length + (vs).length) (by rw [Nat.zero_mul]) zk ⟨.i64, zk⟩ rfl zo zo zo (zD (vA (a := (0 + i)) (p := (((s).length + (vs).length) - i)) (c1 := (c - i)) xK z vs ao r.rd j zj zk zk zo zo ?_)))))))⟩
 intro cd bx b2
 have bj := vI (a := (0 + i)) (cs := List.flatMap encSpanI vs) bi zl (Raw.le ao zo)
 have bo := at_hi (a := (0 + i)) (ys := vs) j b5 zo (Raw.le2 ao zo)
 have b7 := vJ (a := (0 + i)) (ys := vs) j (Raw.le2 ao zo)
 have m : World.grownBy b4 cd (Value.ownBlock o) := by rw [yR t]; exact b2
 have hb := hb.grown m hs (fun k hk => by rw [yR t] at hk; cases hk; exact ao.base)
 replace hs := Nat.le_trans hs m.size
 replace ai := ai.grown m (by rw [yR t]; exact fun e => y (Option.some.inj e))
 replace hc := hc.trans2 (Ch.of_grown m) (fun k e => l k e)
 clear m
 refine nR (zD (zH (nQ (zR (zG (zZ [(.slice (some ⟨ab, 0, none⟩) ((s).length + (vs).length) c)] ?_))))))
 have bg := qC j (qC j bj (xO b7 zl)) (xO bo zl)
 have bm := Raw.row bx j (N := ((s).length + (vs).length)) zl zl bg
 exact ⟨_, rfl, bm, (fun g e => l g (by rw [yR t]; exact e)), hc⟩
theorem c_replace_I (B_ : Nat) (r : Value) (s : List (Int × Int × Int)) (i : Nat) (j : Nat) (u : Value) (vs : List (Int × Int × Int)) (w : World) (hs0 : B_ ≤ w.heap.size) (an : Row w B_ 131 3 encSpanI r s) (f : Row w 0 131 3 encSpanI u vs) (n : Value.ownBlock u = none ∨ Value.ownBlock u ≠ Value.ownBlock r) (hij : i ≤ j) (hj : j ≤ s.length) (hl : s.length ≤ 4194304) (hv : vs.length ≤ 4194304) :
  Calls Tryz.prog 135 #[r, (N6 i), (N6 j), u] w (Ret fun v w' => ∃ q0 : Value, v = q0 ∧ Row w' B_ 131 3 encSpanI q0 (List.take i s ++ vs ++ List.drop j s) ∧ (∀ g, Value.ownBlock q0 = some g → w.heap.size ≤ g ∨ Value.ownBlock r = some g) ∧ Ch (fun k => Value.ownBlock r = some k) w w') := by
 refine wJ 224 func135 rfl ?_
 have hb := Below.refl B_ w
 have hs : B_ ≤ (World.heap w).size := hs0
 have hc := Ch.refl (fun k => Value.ownBlock r = some k) w
 have t : ∀ g, Value.ownBlock r = some g → (World.heap w).size ≤ g ∨ (fun k => Value.ownBlock r = some k) g := fun g h => .inr h
 refine wR (zH (nR (zD (zD (zD (L_slmid xK r ((s).length) i j (an.shape) zo zo zk ⟨.i64, zk⟩ ⟨.i64, zk⟩ ?_))))))
 intro d3
 refine nW (wR (zD (zD (nEq i j ?_ ?_))))
 ·intro h2
  refine nQ (zT (wR (zD (zD (zD (zc (c_insert_I B_ r s i u vs _ hs an f.mono0 n zo zo zo) ?_))))))
  rintro q3 w4 ⟨_, rfl, cr, dn, ce⟩
  have bd := dr_call hc dn t
  have hb := ce.below hb hs (fun k e => (World.ownsRow.lt an k e).1)
  replace hs := Nat.le_trans hs ce.size
  refine zH (nQ (zR (zG (zZ [q3] ?_))))
  have e0 : (List.take i s ++ vs ++ List.drop i s) = (List.take i s ++ vs ++ List.drop j s) := by (subst j; rfl)
  replace hc := hc.trans2 ce (fun k e => t k e)
  exact ⟨_, rfl, cr.cast e0, bd, hc⟩
 intro h7
 refine nQ (zF (zK (zB (yA (wR (zD (zD (vY underlying116 (an.rd).len (nEq j ((s).length) ?_ ?_)))))))))
 ·intro h8
  refine nQ (zT (wR (zD (zD (L_sltoR xK r s i an zj zo zk ⟨.i64, zk⟩ ?_)))))
  intro b2 y a6
  have ab : ∀ g, Value.ownBlock b2 = some g → (World.heap w).size ≤ g ∨ (fun k => Value.ownBlock r = some k) g := by rw [a6.own]; exact t
  have af := (by rw [a6.own]; exact n : Value.ownBlock u = none ∨ Value.ownBlock u ≠ Value.ownBlock b2); have bb := yW af
  refine zD (L_appPre xK B_ b2 u (List.take i s) vs hs y f.rd (by (simp only [List.length_append, List.length_take]; omega)) zj zj zk zk zk ?_)
  have ak := an.shape
  intro b9 d7 bx bg bk cg
  have ba := room_app an a6 bx cg
  have bm := uZ (D := (fun k => Value.ownBlock r = some k)) bk (by have h0 := hc.size; omega : (World.heap w).size ≤ (World.heap w).size) ab
  have ay := xD f bk af
  have hb := hb.tg hs bg y
  replace hs := Nat.le_trans hs (bg.size)
  have y := bx
  replace hc := hc.trans2 (Ch.of_grown bg) (fun k e => ab k e)
  have ab := bm; clear bm
  refine zH (nW (wR (zD (vY underlying116 (y.rd).len (zD (vY underlying116 ak.len (nLt ((((List.take i s) ++ vs)).length) ((s).length) ?_ ?_)))))))
  ·intro d1
   refine nQ (zT (zP (zD (zD (vY underlying116 (y.rd).len (L_slfrom xK r ((s).length) ((((List.take i s) ++ vs)).length) ak zo zk ⟨.i64, zk⟩ ?_))))))
   intro cw c3
   refine L_clearTail xK r b9 cw ((List.take i s) ++ vs) c3 ba y zo zo ak (fun z hz => by cases hz; decide) zk ?_
   intro ea c6 bs
   have y := c6
   replace hs := Nat.le_trans hs bs.size
   refine nR (zD (zH (nQ (zR (zG (zZ [b9] ?_))))))
   have e0 : ((List.take i s) ++ vs) = (List.take i s ++ vs ++ List.drop j s) := by exact gep_tail zo
   replace hc := hc.trans2 (Ch.of_grown bs) (fun k e => t k e)
   exact ⟨_, rfl, y.cast e0, ab, hc⟩
  intro d8
  refine nQ (zF (zK (zB (wR (zD (zH (nQ (zR (zG (zZ [b9] ?_))))))))))
  have e0 : ((List.take i s) ++ vs) = (List.take i s ++ vs ++ List.drop j s) := by exact gep_tail zo
  exact ⟨_, rfl, y.cast e0, ab, hc⟩
 intro d4
 refine nQ (zF (zK (zB (yA ?_))))
 have o : ∀ x, (encSpanI x).length = 3 := fun _ => rfl
 have hz := Row.raw an o zo
 obtain ⟨aa, c, ds, m, ch, d, bz⟩ := hz
 have ak := an.shape
 have be := (at_mid o bz i zo).1
 have a7 := xO (at_mid o bz j zo).2 (Nat.zero_add _)
 refine xX zk zk (zV (zV (Lq_slTot xK r aa ((s).length) c i m zk ⟨.i64, zk⟩ zo (vV 116 131 i (.slice (some ⟨aa, 0, none⟩) i c) rfl underlying116 ⟨_, _, rfl⟩ zk (zV (vV 116 131 (vs).length u rfl underlying116 (f.rd).len zk (wW i ((vs).length) zo zk zk (zV (zV (wC xK r aa 0 ((s).length) c j ((s).length) (by rw [Nat.zero_mul]; exact m) zk ⟨.i64, zk⟩ rfl zo zo zo (vV 116 131 ((s).length - j) (.slice (some ⟨aa, (0 + j) * 3, none⟩) ((s).length - j) (c - j)) rfl underlying116 ⟨_, _, rfl⟩ zk (wW (i + (vs).length) ((s).length - j) zo zk zk (qZ (yQ ?_))))))))))))))
 intro dd ag
 have hb := hb.trans (ag.mono hs)
 replace hs := Nat.le_trans hs (ag.size)
 refine zB (yA (wR (zD (zD (L_cap 116 131 c r rfl underlying116 ⟨_, _, m⟩ zk (nGt ((i + (vs).length) + ((s).length - j)) c ?_ ?_))))))
 ·intro d6
  have an := an.below ag
  refine nQ (zT (wR (zD (zD (L_sltoR xK r s i an zj zo zk ⟨.i64, zk⟩ ?_)))))
  intro bf a0 a5
  have b1 : ∀ g, Value.ownBlock bf = some g → (World.heap w).size ≤ g ∨ (fun k => Value.ownBlock r = some k) g := by rw [a5.own]; exact t
  have ap := (by rw [a5.own]; exact n : Value.ownBlock u = none ∨ Value.ownBlock u ≠ Value.ownBlock bf); have bc := yW ap
  refine zD (zD (zsb ((i + (vs).length) + ((s).length - j)) i ?_))
  have di := samecap_val a5 m a0
  refine L_appZeros (kq := .i64) (kn := .i64) xK underlying3 ((0, 0, 0) : SpI) zk B_ bf (List.take i s) (((i + (vs).length) + ((s).length - j)) - i) c hs a0 zj di.1 zo zl zo di.2 zk zk zk ?_
  intro bl d0 bw a1 au 
  replace hc := hc.trans2 (Ch.of_below ag) (fun _ h => h.elim)
  have bm := uZ (D := (fun k => Value.ownBlock r = some k)) au (by have h0 := hc.size; omega : (World.heap w).size ≤ (World.heap dd).size) (dr_nil _)
  replace d := Raw.below d ag
  have bo := grow_ne d (zer_new bw au zl)
  replace d := Raw.grown d a1 (by simp [Value.ownBlock])
  have c8 := xD an au (qI _)
  have f := f.below ag
  have ay := xD f au (qI _)
  have b0 := xD a0 au (qI _)
  have hb := hb.grown a1 hs (fun k hk => by simp [Value.ownBlock] at hk)
  replace hc := hc.trans2 (Ch.of_grown a1) (fun k e => by simp [Value.ownBlock] at e)
  replace hs := Nat.le_trans hs (a1.size)
  have f := f.grown a1 (by cases h : Value.ownBlock _ <;> simp [Value.ownBlock])
  have aq := ay
  have bi := bw
  have am := bm; clear bm
  have o : ∀ x, (encSpanI x).length = 3 := fun _ => rfl
  have hz := Row.raw bi o zl
  obtain ⟨cl, az, du, ai, cd, a8, db⟩ := hz
  have cn := bi.shape
  have a4 := cd; simp only [List.length_append, List.length_take, List.length_replicate] at a4
  have ca := (at_split o db).1
  have ac : cl ≠ aa := fun e => bo (by rw [yR ai, e])
  have bj := ac.symm
  refine zH (nR (zD (zD (vX xK bl cl 0 ((((List.take i s) ++ (List.replicate (((i + (vs).length) + ((s).length - j)) - i) ((0, 0, 0) : SpI)))).length) az i ((((List.take i s) ++ (List.replicate (((i + (vs).length) + ((s).length - j)) - i) ((0, 0, 0) : SpI)))).length) (by rw [Nat.zero_mul]; exact ai) zk ⟨.i64, zk⟩ rfl zl zo zo (zD (vA (a := (0 + i)) (p := ((((List.take i s) ++ (List.replicate (((i + (vs).length) + ((s).length - j)) - i) ((0, 0, 0) : SpI)))).length - i)) (c1 := (az - i)) xK u vs a8 f.rd o zj zk zk zl zo ?_))))))
  intro dq ar cy
  have b4 := vI (a := (0 + i)) (cs := List.flatMap encSpanI vs) ca zl (Raw.le a8 zo)
  have cp := vJ (a := (0 + i)) (ys := vs) o (Raw.le2 a8 zo)
  have l : World.grownBy d0 dq (Value.ownBlock bl) := by rw [yR ai]; exact cy
  have hb := hb.grown l hs (fun k hk => by rw [yR ai] at hk; cases hk; exact a8.base)
  replace hs := Nat.le_trans hs l.size
  replace d := d.grown l (by rw [yR ai]; exact fun e => ac (Option.some.inj e))
  replace hc := hc.trans2 (Ch.of_grown l) (fun k e => am k e)
  have f := f.grown l aq
  clear l
  refine nW (W_pre 9 10 1 zk zk zk zk zk zk zk (zV (zV (zV (vV 116 131 (vs).length u rfl underlying116 (f.rd).len zk (wW i ((vs).length) zo zk zk (wC xK bl cl 0 ((((List.take i s) ++ (List.replicate (((i + (vs).length) + ((s).length - j)) - i) ((0, 0, 0) : SpI)))).length) az (i + (vs).length) ((((List.take i s) ++ (List.replicate (((i + (vs).length) + ((s).length - j)) - i) ((0, 0, 0) : SpI)))).length) (by rw [Nat.zero_mul]; exact ai) zk ⟨.i64, zk⟩ rfl zl zo zo (zV (zV (wC xK r aa 0 ((s).length) c j ((s).length) (by rw [Nat.zero_mul]; exact m) zk ⟨.i64, zk⟩ rfl zo zo zo (yQ ?_)))))))))))
  intro dv a2
  have hb := hb.trans (a2.mono hs)
  replace hs := Nat.le_trans hs (a2.size)
  refine yC 9 zk (yO 9 rfl ?_ rfl)
  replace d := Raw.below d a2
  replace ar := Raw.below ar a2
  refine vA (a := (0 + (i + (vs).length))) (p := ((((List.take i s) ++ (List.replicate (((i + (vs).length) + ((s).length - j)) - i) ((0, 0, 0) : SpI)))).length - (i + (vs).length))) (c1 := (az - (i + (vs).length))) xK (.slice (some ⟨aa, (0 + j) * 3, none⟩) ((s).length - j) (c - j)) (List.drop j s) ar (at_rd d o (xO a7 zo) zl) o zj zk zk zl zl ?_
  intro dt c7 df
  have ci := vI (a := (0 + (i + (vs).length))) (cs := List.flatMap encSpanI (List.drop j s)) b4 zl (Raw.le ar zo)
  have dk := vI (a := (0 + (i + (vs).length))) (cs := List.flatMap encSpanI (List.drop j s)) cp zo (Raw.le ar zo)
  have cz := vJ (a := (0 + (i + (vs).length))) (ys := (List.drop j s)) o (Raw.le2 ar zl)
  have l : World.grownBy dv dt (Value.ownBlock bl) := by rw [yR ai]; exact df
  have hb := hb.grown l hs (fun k hk => by rw [yR ai] at hk; cases hk; exact ar.base)
  replace hs := Nat.le_trans hs l.size
  replace d := d.grown l (by rw [yR ai]; exact fun e => ac (Option.some.inj e))
  replace hc := (hc.trans2 (Ch.of_below a2) (fun _ h => h.elim)).trans2 (Ch.of_grown l) (fun k e => am k e)
  clear l
  refine zQ ?_
  refine ⟨rfl, yJ zk (zB (wR (zD (zH (nQ (zR (zG (zZ [bl] ?_))))))))⟩
  have bh := qC o (qC o ci (xO dk zl)) (xO cz zl)
  have bn := Raw.row c7 o (N := ((((List.take i s) ++ (List.replicate (((i + (vs).length) + ((s).length - j)) - i) ((0, 0, 0) : SpI)))).length)) zl zl bh
  exact ⟨_, ai, bn, (fun g e => am g (by rw [yR ai]; exact e)), hc⟩
 intro ec
 have f := f.below ag
 refine nQ (zF (zK (zB (wR (zD (zD (L_slTot xK r aa ((s).length) c ((i + (vs).length) + ((s).length - j)) m zk ⟨.i64, zk⟩ zo (zH (nW (wR (zD (zD (vY underlying116 (f.rd).len (xN i ((vs).length) (zD (nLe (i + (vs).length) j ?_ ?_))))))))))))))))
 ·intro d5
  replace d := Raw.below d ag
  refine nQ (zT (wR (zD (zD (vX xK (.slice (some ⟨aa, 0, none⟩) ((i + (vs).length) + ((s).length - j)) c) aa 0 ((i + (vs).length) + ((s).length - j)) c i ((i + (vs).length) + ((s).length - j)) (by rw [Nat.zero_mul]) zk ⟨.i64, zk⟩ rfl zo zo zo (zD (vA (a := (0 + i)) (p := (((i + (vs).length) + ((s).length - j)) - i)) (c1 := (c - i)) xK u vs d f.rd o zj zk zk zo zo ?_)))))))
  intro dy aw dc
  have cf := vI (a := (0 + i)) (cs := List.flatMap encSpanI vs) be zl (Raw.le d zo)
  have ck := at_hi (a := (0 + i)) (ys := vs) o a7 zo (Raw.le2 d zo)
  have c9 := vJ (a := (0 + i)) (ys := vs) o (Raw.le2 d zo)
  have l : World.grownBy dd dy (Value.ownBlock r) := by rw [yR m]; exact dc
  have hb := hb.grown l hs (fun k hk => by rw [yR m] at hk; cases hk; exact d.base)
  replace hs := Nat.le_trans hs l.size
  replace hc := (hc.trans2 (Ch.of_below ag) (fun _ h => h.elim)).trans2 (Ch.of_grown l) (fun k e => t k e)
  have f := f.grown l n
  clear l
  refine nW (W_pre 9 10 1 zk zk zk zk zk zk zk (zV (zV (zV (vV 116 131 (vs).length u rfl underlying116 (f.rd).len zk (wW i ((vs).length) zo zk zk (wC xK (.slice (some ⟨aa, 0, none⟩) ((i + (vs).length) + ((s).length - j)) c) aa 0 ((i + (vs).length) + ((s).length - j)) c (i + (vs).length) ((i + (vs).length) + ((s).length - j)) (by rw [Nat.zero_mul]) zk ⟨.i64, zk⟩ rfl zo zo zo (zV (zV (wC xK r aa 0 ((s).length) c j ((s).length) (by rw [Nat.zero_mul]; exact m) zk ⟨.i64, zk⟩ rfl zo zo zo (yQ ?_)))))))))))
  intro dz a9
  have hb := hb.trans (a9.mono hs)
  replace hs := Nat.le_trans hs (a9.size)
  refine yC 9 zk (yO 9 rfl ?_ rfl)
  replace aw := Raw.below aw a9
  refine L_copySelf (a := (0 + (i + (vs).length))) (p := (((i + (vs).length) + ((s).length - j)) - (i + (vs).length))) (c1 := (c - (i + (vs).length))) (b := (0 + j)) (q := ((s).length - j)) (c2 := (c - j)) xK (List.drop j s) aw (xO ck zo) o zj zk zk zl zl ?_
  intro dj bu dg
  have cb := vI (a := (0 + (i + (vs).length))) (cs := List.flatMap encSpanI (List.drop j s)) cf zl (Raw.le aw zo)
  have da := vI (a := (0 + (i + (vs).length))) (cs := List.flatMap encSpanI (List.drop j s)) c9 zo (Raw.le aw zo)
  have dh := vJ (a := (0 + (i + (vs).length))) (ys := (List.drop j s)) o (Raw.le2 aw zl)
  have l : World.grownBy dz dj (Value.ownBlock r) := by rw [yR m]; exact dg
  have hb := hb.grown l hs (fun k hk => by rw [yR m] at hk; cases hk; exact aw.base)
  replace hs := Nat.le_trans hs l.size
  replace hc := (hc.trans2 (Ch.of_below a9) (fun _ h => h.elim)).trans2 (Ch.of_grown l) (fun k e => t k e)
  clear l
  refine zQ ?_
  refine ⟨rfl, yJ zk (zB (wR (zD (zD (L_slfrom xK r ((s).length) ((i + (vs).length) + ((s).length - j)) ak zo zk ⟨.i64, zk⟩ ?_)))))⟩
  intro co c5
  refine L_clearRaw (α := Int × Int × Int) (enc := encSpanI) (lo := ((i + (vs).length) + ((s).length - j))) xK r co m c5 bu zo ch (fun z hz => by cases hz; decide) zk ?_
  intro dr dp de a3 cx
  have b7 := a3 _ _ zl cb
  have ct := a3 _ _ zo da
  have cu := a3 _ _ zl dh
  have l : World.grownBy dj dr (Value.ownBlock r) := by rw [yR m]; exact cx
  have hb := hb.grown l hs (fun k hk => by rw [yR m] at hk; cases hk; exact bu.base)
  replace hs := Nat.le_trans hs l.size
  replace hc := hc.trans2 (Ch.of_grown l) (fun k e => t k e)
  clear l
  refine nR (zD (zH (nQ (zR (zG (zZ [(.slice (some ⟨aa, 0, none⟩) ((i + (vs).length) + ((s).length - j)) c)] ?_))))))
  have bh := qC o (qC o b7 (xO ct zl)) (xO cu zl)
  have bn := Raw.row de o (N := ((i + (vs).length) + ((s).length - j))) zl zl bh
  exact ⟨_, rfl, bn, (fun g e => t g (by rw [yR m]; exact e)), hc⟩
 intro d9
 refine nQ (zF (zK (zB (yA (wR (zD (zD (zD (vY underlying116 (f.rd).len (xN i ((vs).length) (vX xK (.slice (some ⟨aa, 0, none⟩) ((i + (vs).length) + ((s).length - j)) c) aa 0 ((i + (vs).length) + ((s).length - j)) c (i + (vs).length) ((i + (vs).length) + ((s).length - j)) (by rw [Nat.zero_mul]) zk ⟨.i64, zk⟩ rfl zo zo zo (zD ?_))))))))))))
 have o : ∀ x, (encSpanI x).length = 3 := fun _ => rfl
 have hz := Row.raw f o zo
 obtain ⟨cq, b8, dw, bt, dx, ah, dm⟩ := hz
 have cv := f.shape
 have ax : cq ≠ aa := rne_of bt m n
 have ae := ax.symm
 replace d := Raw.below d ag
 refine L_overlaps xK (ga := aa) (gb := cq) (R := 4) func154 zk zk zk zk ((0 + (i + (vs).length)) * 3) (((i + (vs).length) + ((s).length - j)) - (i + (vs).length)) (c - (i + (vs).length)) 0 ((vs).length) b8 d ah ae (by rw [ah.size]; exact Nat.mul_pos zo (by decide)) zk ((zk : _ = u).trans bt) (qO false (nQ (zT (yA (W_pre 9 10 1 zk zk zk zk zk zk zk (zV (zV (zV (vV 116 131 (vs).length u rfl underlying116 (f.rd).len zk (wW i ((vs).length) zo zk zk (wC xK (.slice (some ⟨aa, 0, none⟩) ((i + (vs).length) + ((s).length - j)) c) aa 0 ((i + (vs).length) + ((s).length - j)) c (i + (vs).length) ((i + (vs).length) + ((s).length - j)) (by rw [Nat.zero_mul]) zk ⟨.i64, zk⟩ rfl zo zo zo (zV (zV (wC xK r aa 0 ((s).length) c j ((s).length) (by rw [Nat.zero_mul]; exact m) zk ⟨.i64, zk⟩ rfl zo zo zo (yQ ?_)))))))))))))))
 intro dl ao
 have hb := hb.trans (ao.mono hs)
 replace hs := Nat.le_trans hs (ao.size)
 refine yC 9 zk (yO 9 rfl ?_ rfl)
 replace d := Raw.below d ao
 refine L_copySelf (a := (0 + (i + (vs).length))) (p := (((i + (vs).length) + ((s).length - j)) - (i + (vs).length))) (c1 := (c - (i + (vs).length))) (b := (0 + j)) (q := ((s).length - j)) (c2 := (c - j)) xK (List.drop j s) d (xO a7 zo) o zj zk zk zl zl ?_
 intro bv av b3
 have br := vI (a := (0 + (i + (vs).length))) (cs := List.flatMap encSpanI (List.drop j s)) be zl (Raw.le d zo)
 have b6 := vJ (a := (0 + (i + (vs).length))) (ys := (List.drop j s)) o (Raw.le2 d zl)
 have l : World.grownBy dl bv (Value.ownBlock r) := by rw [yR m]; exact b3
 have hb := hb.grown l hs (fun k hk => by rw [yR m] at hk; cases hk; exact d.base)
 replace hs := Nat.le_trans hs l.size
 replace ah := Raw.below ah ao
 replace ah := ah.grown l (by rw [yR m]; exact fun e => ae (Option.some.inj e))
 replace hc := ((hc.trans2 (Ch.of_below ag) (fun _ h => h.elim)).trans2 (Ch.of_below ao) (fun _ h => h.elim)).trans2 (Ch.of_grown l) (fun k e => t k e)
 have f := (f.below ao).grown l n
 clear l
 refine zQ ?_
 refine ⟨rfl, yJ zk (zB (wR (zD (zD (vX xK (.slice (some ⟨aa, 0, none⟩) ((i + (vs).length) + ((s).length - j)) c) aa 0 ((i + (vs).length) + ((s).length - j)) c i ((i + (vs).length) + ((s).length - j)) (by rw [Nat.zero_mul]) zk ⟨.i64, zk⟩ rfl zo zo zo (zD (vA (a := (0 + i)) (p := (((i + (vs).length) + ((s).length - j)) - i)) (c1 := (c - i)) xK u vs av f.rd o zj zk zk zo zo ?_)))))))⟩
 intro c4 cm cc
 have bq := vI (a := (0 + i)) (cs := List.flatMap encSpanI vs) br zl (Raw.le av zo)
 have b5 := at_hi (a := (0 + i)) (ys := vs) o b6 zo (Raw.le2 av zo)
 have cj := vJ (a := (0 + i)) (ys := vs) o (Raw.le2 av zo)
 have l : World.grownBy bv c4 (Value.ownBlock r) := by rw [yR m]; exact cc
 have hb := hb.grown l hs (fun k hk => by rw [yR m] at hk; cases hk; exact av.base)
 replace hs := Nat.le_trans hs l.size
 replace ah := ah.grown l (by rw [yR m]; exact fun e => ae (Option.some.inj e))
 replace hc := hc.trans2 (Ch.of_grown l) (fun k e => t k e)
 clear l
 refine nR (zD (zH (nQ (zR (zG (zZ [(.slice (some ⟨aa, 0, none⟩) ((i + (vs).length) + ((s).length - j)) c)] ?_))))))
 have bh := qC o (qC o bq (xO cj zl)) (xO b5 zl)
 have bn := Raw.row cm o (N := ((i + (vs).length) + ((s).length - j))) zl zl bh
 exact ⟨_, rfl, bn, (fun g e => t g (by rw [yR m]; exact e)), hc⟩
end Go.Proofs.YtkclikfejmeblaaGreatDoor
end
