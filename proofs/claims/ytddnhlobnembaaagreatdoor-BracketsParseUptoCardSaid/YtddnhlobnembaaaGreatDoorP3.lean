/- Joined by my program pack2.py out of my own texts: Wccor Wlref FKl FKi FKab FKad FKae FKan FKao FKaf FKag FKah FKap FKbc FKbd FKai Wcb1 Wcb2. -/
import Derived.Test.YtddnhlobnembaaaGreatDoorProg
import Derived.Tactics2
import Derived.Shelf.Strings.BuilderK
import Derived.Lib.OthersKept
import Derived.Lib.FrozenHead2
import Derived.Lib.Builder
import Derived.Laws.CopyRow
import Derived.Lib.Overlaps
import Derived.Lib.AppendZerosOnto
import Derived.OrdersHeld
import Derived.OrdersIn
import Derived.Shelf.SlMaps.Clone
import Derived.RangeFuncBound
import Derived.Test.YtddnhlobnembaaaGreatDoorP1
import Derived.Test.YtddnhlobnembaaaGreatDoorP2
set_option linter.unusedVariables false
set_option linter.unusedSimpArgs false
/- === Wccor === -/
section
/- Walks, written by my program walk.py out of the specification ccor.py: each theorem says what one function returns and that it leaves memory as it was. -/
namespace Go.Proofs.YtddnhlobnembaaaGreatDoor
open Go Go.RowKit Go.FK _root_.Go.Proofs.Tryz
set_option maxHeartbeats 4000000
set_option maxRecDepth 100000
def laysRev_ren : Go.Shelf.Ren := ⟨fun | 35 => 77 | n => n, fun | 22 => 97 | 23 => 5 | n => n, fun | n => n⟩
theorem laysRev : Go.Proofs.SlLaysE.n35 Tryz.prog laysRev_ren := {
 mixed := by kernel_rfl
 f35 := ⟨Tryz.f77.name, zk, func77.trans (congrArg some zk)⟩
 t0 := underlying0
 a0 := Tryz.isAgg0
 z0 := Tryz.sizeOf0
 v0 := Tryz.zeroValue0
 t3 := underlying3
 a3 := Tryz.isAgg3
 z3 := Tryz.sizeOf3
 v3 := Tryz.zeroValue3
 t4 := underlying4
 a4 := Tryz.isAgg4
 z4 := Tryz.sizeOf4
 v4 := Tryz.zeroValue4
 t22 := underlying97
 a22 := Tryz.isAgg97
 z22 := Tryz.sizeOf97
 v22 := Tryz.zeroValue97
 a23 := Tryz.isAgg5
 z23 := Tryz.sizeOf5 }
theorem yX : Elem Tryz.prog 23 21 1 4 := ⟨underlying23, zk, rfl⟩
theorem el97 : Elem Tryz.prog 97 5 1 1 := ⟨underlying97, zk, rfl⟩
theorem c_words_Blank (r : Int) (w : World) :
  Calls Tryz.prog 147 #[(I3 r)] w (Ret fun v w' => v = (.bool (blankB r)) ∧ Below w.heap.size w w') := by
 refine wI 23 func147 rfl ?_
 have a := Below.refl w.heap.size w
 refine wR (zG (nW (wR (zD (nQ (zX (zY (wR (qA .i32 r 9 ?_ ?_)))))))))
 ·intro h1
  exact zG (nQ (zT (zK (zB (zT (wR (zG (nQ (zS (zP (zH (yC [(.bool true)] ⟨eb (by simp only [blankB]; simp [*] <;> omega), a⟩))))))))))))
 intro y
 refine zG (nQ (zF (wR (qA .i32 r 11 ?_ ?_))))
 ·intro h3
  exact zG (nQ (zT (zK (zB (zT (wR (zG (nQ (zS (zP (zH (yC [(.bool true)] ⟨eb (by simp only [blankB]; simp [*] <;> omega), a⟩))))))))))))
 intro h4
 refine zG (nQ (zF (wR (qA .i32 r 12 ?_ ?_))))
 ·intro h5
  exact zG (nQ (zT (zK (zB (zT (wR (zG (nQ (zS (zP (zH (yC [(.bool true)] ⟨eb (by simp only [blankB]; simp [*] <;> omega), a⟩))))))))))))
 intro z
 refine zG (nQ (zF (wR (qA .i32 r 32 ?_ ?_))))
 ·intro h7
  exact zG (nQ (zT (zK (zB (zT (wR (zG (nQ (zS (zP (zH (yC [(.bool true)] ⟨eb (by simp only [blankB]; simp [*] <;> omega), a⟩))))))))))))
 intro h8
 refine zG (nQ (zF (wR (qA .i32 r 133 ?_ ?_))))
 ·intro h9
  exact zG (nQ (zT (zK (zB (zT (wR (zG (nQ (zS (zP (zH (yC [(.bool true)] ⟨eb (by simp only [blankB]; simp [*] <;> omega), a⟩))))))))))))
 intro q
 refine zG (nQ (zF (wR (qA .i32 r 160 ?_ ?_))))
 ·intro m
  exact zG (nQ (zT (zK (zB (zT (wR (zG (nQ (zS (zP (zH (yC [(.bool true)] ⟨eb (by simp only [blankB]; simp [*] <;> omega), a⟩))))))))))))
 intro n
 refine zG (nQ (zF (wR (qA .i32 r 5760 ?_ ?_))))
 ·intro p
  exact zG (nQ (zT (zK (zB (zT (wR (zG (nQ (zS (zP (zH (yC [(.bool true)] ⟨eb (by simp only [blankB]; simp [*] <;> omega), a⟩))))))))))))
 intro u
 refine zG (nQ (zF (wR (qA .i32 r 8232 ?_ ?_))))
 ·intro t
  exact zG (nQ (zT (zK (zB (zT (wR (zG (nQ (zS (zP (zH (yC [(.bool true)] ⟨eb (by simp only [blankB]; simp [*] <;> omega), a⟩))))))))))))
 intro k
 refine zG (nQ (zF (wR (qA .i32 r 8233 ?_ ?_))))
 ·intro d
  exact zG (nQ (zT (zK (zB (zT (wR (zG (nQ (zS (zP (zH (yC [(.bool true)] ⟨eb (by simp only [blankB]; simp [*] <;> omega), a⟩))))))))))))
 intro s
 refine zG (nQ (zF (wR (qA .i32 r 8239 ?_ ?_))))
 ·intro i
  exact zG (nQ (zT (zK (zB (zT (wR (zG (nQ (zS (zP (zH (yC [(.bool true)] ⟨eb (by simp only [blankB]; simp [*] <;> omega), a⟩))))))))))))
 intro f
 refine zG (nQ (zF (wR (qA .i32 r 8287 ?_ ?_))))
 ·intro c
  exact zG (nQ (zT (zK (zB (zT (wR (zG (nQ (zS (zP (zH (yC [(.bool true)] ⟨eb (by simp only [blankB]; simp [*] <;> omega), a⟩))))))))))))
 intro b
 refine zG (nQ (zF (zQ (qA .i32 r 12288 ?_ ?_))))
 ·intro o
  exact zG (nQ (zT (wR (zG (nQ (zS (zP (zH (yC [(.bool true)] ⟨eb (by simp only [blankB]; simp [*] <;> omega), a⟩)))))))))
 intro e
 refine zG (nQ (zF (zK (zI (zB (wR (zD (zGe .i32 r 8192 ?_ ?_))))))))
 ·intro l
  refine zD (zw (zD (zw (zLe .i32 r 8202 ?_ ?_))))
  ·intro h
   exact xG (zG (nQ (zS (yC [(.bool true)] ⟨eb (by simp only [blankB]; simp [*] <;> omega), a⟩))))
  intro g
  exact xG (zG (nQ (zS (yC [(.bool false)] ⟨eb (by simp only [blankB]; simp [*] <;> omega), a⟩))))
 intro j
 exact zD (zs (zs (xF (zG (nQ (zS (yC [(.bool false)] ⟨eb (by simp only [blankB]; simp [*] <;> omega), a⟩)))))))
theorem c_utf_Encode (a : Value) (l : List (Int)) (w : World) (b : Rd w encI32 a l) :
  Calls Tryz.prog 148 #[a] w (Ret fun v w' => v = (S (encL l)) ∧ Below w.heap.size w w') := by
 refine wI 5 func148 rfl ?_
 have c := Below.refl w.heap.size w
 exact wR (zG (nR (zD (L_runesStr a l underlying23 underlying21 underlying9 zk b (zG (nQ (zS (yC [(S (encL l))] ⟨congrArg S (by first | rfl | (simp_all; done) | omega), c⟩))))))))
theorem c_words_Loose (s : List UInt8) (w : World) (hs : s.length ≤ 1073741824) :
  Calls Tryz.prog 124 #[(S s)] w (Ret fun v w' => v = (S (looseS s)) ∧ Below w.heap.size w w') := by
 refine wI 35 func124 rfl ?_
 have h := Below.refl w.heap.size w
 refine wR (zG (nR (zG (nW (wR (zD (L_range s underlying9 zk ?_)))))))
 intro b1 w2 u
 have j := u.ge h.size
 have a := u.here
 refine nQ (zX ?_)
 replace h := h.tr u.below
 refine yZ (fun m s0 w0 => ∃ (pos : Nat) (i : List Int) (k : Value), (m = s.length - pos) ∧ (s0.ds = []) ∧ ([2, 7, 3].map s0.f = [(S []), (pt b1 0), k]) ∧ (Row w0 w.heap.size 21 1 encI32 k i) ∧ (w0.heap[b1]? = some (.stringIter ⟨(s).toArray⟩ pos)) ∧ (Below w.heap.size w w0) ∧ (pos ≤ s.length) ∧ (i.length ≤ pos) ∧ (i ++ looseL (runesFrom s pos) = looseL (runesFrom s 0))) _ ⟨0, [], (.slice none 0 0), rfl, zk, zk, Row.nil _ _ _ _ _, a, h, by omega, by simp, by simp⟩ ?_
 rintro m4 s5 w6 ⟨pos, i, k, hm, n, af, c, a, h, i1, i2, t⟩
 refine yS af (wR ?_)
 rcases Nat.lt_or_ge pos (s).length with g | o
 ·refine L_next s b1 pos zk a g ?_
  intro b w7 d l
  replace c := c.wrote l (c.ne a zi)
  replace a := l.here
  have := dec_pos s pos; have := dec_fits s pos g; have := dec_le s pos
  have ab : 0 ≤ b := by omega
  have aa : b ≤ 2147483647 := by omega
  refine zr (.bool true) (nW (zT (zK (zB (zX (wR (zr (I3 b) (zG (nW (wR (zD (zc (c_words_Blank b _ ) ?_))))))))))))
  rintro _ w9 ⟨rfl, e⟩
  refine yK (blankB b) ?_ ?_
  ·intro aw
   refine zD (zs (zs (xG (zD (zs (zs (xG (nQ (zT (yH (zL (yB ?_))))))))))))
   replace h := (h.trans (l.below j)).tr e
   replace a := zA a e
   replace c := c.below e
   refine zB ⟨_, zo, (pos + (dec s pos).2), i, k, rfl, n, zk, c, a, h, zo, ?_, ?_⟩
   ·(try simp only [List.length_append, List.length_cons, List.length_nil]); omega
   rw [← t, qH g, ← d, wD]; clear d; simp [dropW, *]; try (unfold lowerI; split <;> omega)
  intro ay
  refine zD (zw (zD (zw (qA .i32 b 95 ?_ ?_))))
  ·intro a0
   refine xF (zD (zs (zs (xG (nQ (zT (yH (zL (yB ?_)))))))))
   replace h := (h.trans (l.below j)).tr e
   replace a := zA a e
   replace c := c.below e
   refine zB ⟨_, zo, (pos + (dec s pos).2), i, k, rfl, n, zk, c, a, h, zo, ?_, ?_⟩
   ·(try simp only [List.length_append, List.length_cons, List.length_nil]); omega
   rw [← t, qH g, ← d, wD]; clear d; simp [dropW, *]; try (unfold lowerI; split <;> omega)
  intro a1
  refine xF (zD (zw (zD (zw (qA .i32 b 45 ?_ ?_)))))
  ·intro ap
   refine xF (nQ (zT (yH (zL (yB ?_)))))
   replace h := (h.trans (l.below j)).tr e
   replace a := zA a e
   replace c := c.below e
   refine zB ⟨_, zo, (pos + (dec s pos).2), i, k, rfl, n, zk, c, a, h, zo, ?_, ?_⟩
   ·(try simp only [List.length_append, List.length_cons, List.length_nil]); omega
   rw [← t, qH g, ← d, wD]; clear d; simp [dropW, *]; try (unfold lowerI; split <;> omega)
  intro am
  refine xF (nQ (zF (zK (zB (zY (wR (zD (zGe .i32 b 65 ?_ ?_))))))))
  ·intro az
   refine zD (zw (zD (zw (zLe .i32 b 90 ?_ ?_))))
   ·intro an
    replace h := (h.trans (l.below j)).tr e
    replace c := c.below e
    refine xG (nQ (zT (zQ (zD (xQ b 32 (b + 32) rfl zk zk (qV _ zh zh) (zG (nQ (zQ (zD (zD (xW yX w.heap.size k i (b + 32) h.size c zo zk rfl rfl zk rfl zk zk ?_)))))))))))
    intro ag ao ac q aj
    replace h := h.tg h.size q c
    replace a := zA a e
    replace a := yG a q (c.ne a zi)
    replace c := ac
    refine zG (zR (zI (zB ⟨_, zo, (pos + (dec s pos).2), (i ++ [(b + 32)]), ag, rfl, n, zk, c, a, h, zo, ?_, ?_⟩)))
    ·(try simp only [List.length_append, List.length_cons, List.length_nil]); omega
    rw [← t, qH g, ← d, wD]; clear d; simp [dropW, *]; try (unfold lowerI; split <;> omega)
   intro aq
   replace h := (h.trans (l.below j)).tr e
   replace c := c.below e
   refine xG (nQ (zF (zK (zB (zQ (zD (zD (xW yX w.heap.size k i b h.size c zo zk rfl rfl zk rfl zk zk ?_))))))))
   intro ai ar ad p ak
   replace h := h.tg h.size p c
   replace a := zA a e
   replace a := yG a p (c.ne a zi)
   replace c := ad
   refine zG (zR (zI (zB ⟨_, zo, (pos + (dec s pos).2), (i ++ [b]), ai, rfl, n, zk, c, a, h, zo, ?_, ?_⟩)))
   ·(try simp only [List.length_append, List.length_cons, List.length_nil]); omega
   rw [← t, qH g, ← d, wD]; clear d; simp [dropW, *]; try (unfold lowerI; split <;> omega)
  intro ax
  replace h := (h.trans (l.below j)).tr e
  replace c := c.below e
  refine zD (zs (zs (xF (nQ (zF (zK (zB (zQ (zD (zD (xW yX w.heap.size k i b h.size c zo zk rfl rfl zk rfl zk zk ?_)))))))))))
  intro ah au y r al
  replace h := h.tg h.size r c
  replace a := zA a e
  replace a := yG a r (c.ne a zi)
  replace c := y
  refine zG (zR (zI (zB ⟨_, zo, (pos + (dec s pos).2), (i ++ [b]), ah, rfl, n, zk, c, a, h, zo, ?_, ?_⟩)))
  ·(try simp only [List.length_append, List.length_cons, List.length_nil]); omega
  rw [← t, qH g, ← d, wD]; clear d; simp [dropW, *]; try (unfold lowerI; split <;> omega)
 refine L_nextEnd s b1 pos zk a o (zr (.bool false) (nW (zF (yH (zL (zL (yB (zB (wR (zD (zc (c_utf_Encode k i _ c.rd) ?_)))))))))))
 rintro _ av ⟨rfl, z⟩
 replace h := h.tr z
 exact zG (nQ (zS (yC [(S (encL i))] (hd := n) ⟨congrArg S (by rw [looseS, ← t, runesFrom_end o]; simp [looseL]), h⟩)))
theorem c_words_Alike (a : List UInt8) (b : List UInt8) (w : World) (ha : a.length ≤ 1073741824) (hb_ : b.length ≤ 1073741824) :
  Calls Tryz.prog 104 #[(S a), (S b)] w (Ret fun v w' => v = (.bool (alikeB a b)) ∧ Below w.heap.size w w') := by
 refine wI 10 func104 rfl ?_
 have c := Below.refl w.heap.size w
 refine wR (zG (nR (zD (zc (c_words_Loose a _ zo) ?_))))
 rintro _ g ⟨rfl, e⟩
 refine zD (zc (c_words_Loose b _ zo) ?_)
 rintro _ i ⟨rfl, d⟩
 refine vD (looseS a) (looseS b) rfl zk zk ?_ ?_
 ·intro h
  replace c := (c.tr e).tr d
  exact zG (nQ (zS (yC [(.bool true)] ⟨eb (by simp [alikeB, *]), c⟩)))
 intro f
 replace c := (c.tr e).tr d
 exact zG (nQ (zS (yC [(.bool false)] ⟨eb (by simp [alikeB, *]), c⟩)))
theorem c_points_Hex (s : List UInt8) (w : World) (hs : s.length ≤ 1073741824) :
  Calls Tryz.prog 75 #[(S s)] w (Ret fun v w' => v = (.tuple #[(I3 ((hexF s).1)), (I6 ((hexF s).2))]) ∧ Below w.heap.size w w') := by
 refine wI 45 func75 rfl ?_
 have c := Below.refl w.heap.size w
 refine wR (zG (zG (nW (wR (zD (zsl 9 s (nLt ((s).length) 4 ?_ ?_)))))))
 ·intro h1
  exact zD (zs (zs (zs (xG (zD (zs (zs (zs (zs (zs (zs (zs (zs (xG (nQ (zT (wR (zG (zG (nQ (zS (zH (yC [(I3 0), (I6 40)] ⟨xE (e3 (by (rw [hexF_len zo]; done))) (e6 (by (rw [hexF_len zo]; done))), c⟩)))))))))))))))))))))))
 intro h2
 refine zD (zw (zD (zw (zsl 9 s (zw (nGt ((s).length) 6 ?_ ?_))))))
 ·intro h3
  exact xF (zD (zs (zs (zs (zs (zs (zs (zs (zs (xG (nQ (zT (wR (zG (zG (nQ (zS (zH (yC [(I3 0), (I6 40)] ⟨xE (e3 (by (rw [hexF_len zo]; done))) (e6 (by (rw [hexF_len zo]; done))), c⟩)))))))))))))))))))
 intro h4
 refine xF (zD (zw (zD (zw (zsl 9 s (zw (nGt ((s).length) 4 ?_ ?_)))))))
 ·intro h5
  refine zw (zD (zw (zD (zw ?_))))
  have q := zV s 0 zo; obtain ⟨h, ad⟩ := q
  have := h.toNat_lt
  have t := vK h.toNat
  have g := ibF_tab h
  refine xM (k := .i64) s 0 h underlying9 ad zk zk (zw (xJ .u8 ((h.toNat : Nat) : Int) ((48 : Nat) : Int) (h.toNat = 48) rfl (xK h.toNat 48) zk zk ?_ ?_))
  ·intro h8
   replace h8 : h.toNat = 48 := by omega
   exact zw (xG (xF (nQ (zT (wR (zG (zG (nQ (zS (zH (yC [(I3 0), (I6 40)] ⟨xE (e3 (by (rw [hexF_zero zo za zo]; done))) (e6 (by (rw [hexF_zero zo za zo]; done))), c⟩)))))))))))
  intro h9
  replace h9 : h.toNat ≠ 48 := by omega
  refine zw (xG (xF (nQ (zF (zK (zB (wR (zG (nW (wR (zD (zsl 9 s (zD (nQ (zX (yZ (fun m s0 w0 => ∃ (i : Nat) (n : Nat), (m = s.length - i) ∧ (s0.ds = []) ∧ ([0, 26, 4, 27].map s0.f = [(S s), (N6 ((s).length)), (I3 ((n : Nat) : Int)), (N6 i)]) ∧ (Below w.heap.size w w0) ∧ (i ≤ s.length) ∧ (n < 16 ^ i) ∧ (hexV (s.drop i) n = hexV s 0)) _ ⟨0, 0, rfl, zk, zk, c, by omega, by decide, rfl⟩ ?_))))))))))))))))
  rintro af a1 ax ⟨i, n, hm, d, o, c, i1, p, e⟩
  refine yS o ?_
  have ac : i ≤ 5 → n < 1048576 := pow16 p
  have aa : i ≤ 6 → n < 16777216 := pow166 p
  refine wR (nLt i ((s).length) ?_ ?_)
  ·intro ay
   refine nW (zT (zK (zB (zY (zX (wR (zD (zG (nR (zD (zD ?_)))))))))))
   have q := zV s i zo; obtain ⟨b, u⟩ := q
   have := b.toNat_lt
   have t := vK b.toNat
   have g := ibF_tab b
   refine xM (k := .i64) s i b underlying9 u zk zk (zc (qG ([48, 49, 50, 51, 52, 53, 54, 55, 56, 57, 65, 66, 67, 68, 69, 70] : List UInt8) ((b.toNat : Nat) : Int) _ ) ?_)
   rintro _ al ⟨rfl, l⟩
   have := ib_range ([48, 49, 50, 51, 52, 53, 54, 55, 56, 57, 65, 66, 67, 68, 69, 70] : List UInt8) ((b.toNat : Nat) : Int)
   refine zG (nW (wR (zD (zLt .i64 (ibF ([48, 49, 50, 51, 52, 53, 54, 55, 56, 57, 65, 66, 67, 68, 69, 70] : List UInt8) ((b.toNat : Nat) : Int)) 0 ?_ ?_))))
   ·intro ap
    have c := c.tr l
    exact nQ (zT (wR (zG (zG (nQ (zS (zH (zP (zH (zH (zP (zH (yC [(I3 0), (I6 40)] (hd := d) ⟨xE (e3 (by (rw [hexF_bad e za zo]; done))) (e6 (by (rw [hexF_bad e za zo]; done))), c⟩)))))))))))))
   intro an
   refine nQ (zF (zK (zB (zQ (zD (L_shl (k := .i32) (yk := .u64) ((n : Nat) : Int) (((16 * n) : Nat) : Int) 4 16 rfl zk zk zk (by rw [qV _ zo zo]; omega) (zD (vS (k := .i64) (ibF ([48, 49, 50, 51, 52, 53, 54, 55, 56, 57, 65, 66, 67, 68, 69, 70] : List UInt8) ((b.toNat : Nat) : Int)) (ibF ([48, 49, 50, 51, 52, 53, 54, 55, 56, 57, 65, 66, 67, 68, 69, 70] : List UInt8) ((b.toNat : Nat) : Int)) zk underlying21 zk (qV _ zo zo) (L_orD (((16 * n) : Nat) : Int) (ibF ([48, 49, 50, 51, 52, 53, 54, 55, 56, 57, 65, 66, 67, 68, 69, 70] : List UInt8) ((b.toNat : Nat) : Int)) n ((ibF ([48, 49, 50, 51, 52, 53, 54, 55, 56, 57, 65, 66, 67, 68, 69, 70] : List UInt8) ((b.toNat : Nat) : Int)).toNat) zo zo zk zk (zG (zR (zI (zB (zQ (xL i 1 (zD (zR ?_)))))))))))))))))
   have c := c.tr l
   refine zB ⟨_, zo, (i + 1), (16 * n + ((ibF ([48, 49, 50, 51, 52, 53, 54, 55, 56, 57, 65, 66, 67, 68, 69, 70] : List UInt8) ((b.toNat : Nat) : Int)).toNat)), rfl, d, zk, c, zo, ?_, ?_⟩
   ·rw [g]; exact pow16s p zo
   rw [g]; exact hexV_step e za zo
  intro ag
  refine nW (zF (yH (zL (zL (yB (zB (zY (wR (zD (xJ .i32 ((n : Nat) : Int) ((1114111 : Nat) : Int) (1114111 < n) rfl (cmpN_gt n 1114111) zk zk ?_ ?_))))))))))
  ·intro y
   replace y : 1114111 < n := by omega
   exact nQ (zT (wR (zG (zG (nQ (zS (zH (yC [(I3 0), (I6 40)] (hd := d) ⟨xE (e3 (by (rw [hexF_big (qS e zo) zo]; done))) (e6 (by (rw [hexF_big (qS e zo) zo]; done))), c⟩))))))))
  intro ae
  replace ae : n ≤ 1114111 := by omega
  exact nQ (zF (zK (zB (wR (zD (zG (zG (nQ (zS (yC [(I3 ((n : Nat) : Int)), (I6 0)] (hd := d) ⟨xE (e3 (by (rw [hexF_ok (qS e zo) zo zo zo (.inr ⟨_, by assumption, by omega⟩)]; done))) (e6 (by (rw [hexF_ok (qS e zo) zo zo zo (.inr ⟨_, by assumption, by omega⟩)]; done))), c⟩))))))))))
 intro am
 refine zw (zD (zs (zs (zs (zw (xF (xF (nQ (zF (zK (zB (wR (zG (nW (wR (zD (zsl 9 s (zD (nQ (zX (yZ (fun m s0 w0 => ∃ (i : Nat) (n : Nat), (m = s.length - i) ∧ (s0.ds = []) ∧ ([0, 26, 4, 27].map s0.f = [(S s), (N6 ((s).length)), (I3 ((n : Nat) : Int)), (N6 i)]) ∧ (Below w.heap.size w w0) ∧ (i ≤ s.length) ∧ (n < 16 ^ i) ∧ (hexV (s.drop i) n = hexV s 0)) _ ⟨0, 0, rfl, zk, zk, c, by omega, by decide, rfl⟩ ?_)))))))))))))))))))))
 rintro aw ao au ⟨i, n, hm, d, o, c, i1, p, e⟩
 refine yS o ?_
 have ac : i ≤ 5 → n < 1048576 := pow16 p
 have aa : i ≤ 6 → n < 16777216 := pow166 p
 refine wR (nLt i ((s).length) ?_ ?_)
 ·intro aq
  refine nW (zT (zK (zB (zY (zX (wR (zD (zG (nR (zD (zD ?_)))))))))))
  have q := zV s i zo; obtain ⟨a, r⟩ := q
  have := a.toNat_lt
  have t := vK a.toNat
  have g := ibF_tab a
  refine xM (k := .i64) s i a underlying9 r zk zk (zc (qG ([48, 49, 50, 51, 52, 53, 54, 55, 56, 57, 65, 66, 67, 68, 69, 70] : List UInt8) ((a.toNat : Nat) : Int) _ ) ?_)
  rintro _ ak ⟨rfl, j⟩
  have := ib_range ([48, 49, 50, 51, 52, 53, 54, 55, 56, 57, 65, 66, 67, 68, 69, 70] : List UInt8) ((a.toNat : Nat) : Int)
  refine zG (nW (wR (zD (zLt .i64 (ibF ([48, 49, 50, 51, 52, 53, 54, 55, 56, 57, 65, 66, 67, 68, 69, 70] : List UInt8) ((a.toNat : Nat) : Int)) 0 ?_ ?_))))
  ·intro aj
   have c := c.tr j
   exact nQ (zT (wR (zG (zG (nQ (zS (zH (zP (zH (zH (zP (zH (yC [(I3 0), (I6 40)] (hd := d) ⟨xE (e3 (by (rw [hexF_bad e za zo]; done))) (e6 (by (rw [hexF_bad e za zo]; done))), c⟩)))))))))))))
  intro ah
  refine nQ (zF (zK (zB (zQ (zD (L_shl (k := .i32) (yk := .u64) ((n : Nat) : Int) (((16 * n) : Nat) : Int) 4 16 rfl zk zk zk (by rw [qV _ zo zo]; omega) (zD (vS (k := .i64) (ibF ([48, 49, 50, 51, 52, 53, 54, 55, 56, 57, 65, 66, 67, 68, 69, 70] : List UInt8) ((a.toNat : Nat) : Int)) (ibF ([48, 49, 50, 51, 52, 53, 54, 55, 56, 57, 65, 66, 67, 68, 69, 70] : List UInt8) ((a.toNat : Nat) : Int)) zk underlying21 zk (qV _ zo zo) (L_orD (((16 * n) : Nat) : Int) (ibF ([48, 49, 50, 51, 52, 53, 54, 55, 56, 57, 65, 66, 67, 68, 69, 70] : List UInt8) ((a.toNat : Nat) : Int)) n ((ibF ([48, 49, 50, 51, 52, 53, 54, 55, 56, 57, 65, 66, 67, 68, 69, 70] : List UInt8) ((a.toNat : Nat) : Int)).toNat) zo zo zk zk (zG (zR (zI (zB (zQ (xL i 1 (zD (zR ?_)))))))))))))))))
  have c := c.tr j
  refine zB ⟨_, zo, (i + 1), (16 * n + ((ibF ([48, 49, 50, 51, 52, 53, 54, 55, 56, 57, 65, 66, 67, 68, 69, 70] : List UInt8) ((a.toNat : Nat) : Int)).toNat)), rfl, d, zk, c, zo, ?_, ?_⟩
  ·rw [g]; exact pow16s p zo
  rw [g]; exact hexV_step e za zo
 intro a0
 refine nW (zF (yH (zL (zL (yB (zB (zY (wR (zD (xJ .i32 ((n : Nat) : Int) ((1114111 : Nat) : Int) (1114111 < n) rfl (cmpN_gt n 1114111) zk zk ?_ ?_))))))))))
 ·intro ab
  replace ab : 1114111 < n := by omega
  exact nQ (zT (wR (zG (zG (nQ (zS (zH (yC [(I3 0), (I6 40)] (hd := d) ⟨xE (e3 (by (exfalso; omega))) (e6 (by (exfalso; omega))), c⟩))))))))
 intro z
 replace z : n ≤ 1114111 := by omega
 exact nQ (zF (zK (zB (wR (zD (zG (zG (nQ (zS (yC [(I3 ((n : Nat) : Int)), (I6 0)] (hd := d) ⟨xE (e3 (by (rw [hexF_ok (qS e zo) zo zo zo (.inl zo)]; done))) (e6 (by (rw [hexF_ok (qS e zo) zo zo zo (.inl zo)]; done))), c⟩))))))))))
theorem c_slices_Reverse {B_ E_ : Nat} (a : Value) (s : List (Int)) (w : World) (b : Row w B_ E_ 1 encU8 a s)  :
  Calls Tryz.prog 77 #[a] w (Ret fun v w' => v = (.tuple #[]) ∧ Row w' B_ E_ 1 encU8 a (List.reverse s) ∧ w.grownBy w' (Value.ownBlock a)) :=
 reverse_contract (fun x : Int => Value.int .u8 x) zj (AnyE.slices_Reverse_empty laysRev) (AnyE.slices_Reverse laysRev _ zj) a s w b
theorem c_points_Show (r : Int) (w : World) :
  Calls Tryz.prog 42 #[(I3 r)] w (Ret fun v w' => v = (.tuple #[(S ((showF r).1)), (I6 ((showF r).2))]) ∧ Below w.heap.size w w') := by
 refine wI 32 func42 rfl ?_
 have c := Below.refl w.heap.size w
 refine wR (zG (zG (nW (wR (zD (zLt .i32 r 0 ?_ ?_))))))
 ·intro h1
  exact zD (zs (zs (xG (nQ (zT (wR (zG (zG (nQ (zS (zH (yC [(S []), (I6 40)] ⟨xE (congrArg S (by (rw [uC zo]; done))) (e6 (by (rw [uC zo]; done))), c⟩))))))))))))
 intro h2
 refine zD (zw (zD (zw (zGt .i32 r 1114111 ?_ ?_))))
 ·intro h3
  exact xF (nQ (zT (wR (zG (zG (nQ (zS (zH (yC [(S []), (I6 40)] ⟨xE (congrArg S (by (rw [uC zo]; done))) (e6 (by (rw [uC zo]; done))), c⟩)))))))))
 intro h4
 refine xF (nQ (zF (zK (zB (wR (zG (nW (wR (zD (zG (nQ (zX (yZ (fun m s0 w0 => ∃ (a : List Int) (z : Int) (d : Value), (m = 10 - a.length) ∧ (s0.ds = []) ∧ ([2, 3, 4, 5].map s0.f = [(S []), (I6 0), d, (I3 z)]) ∧ (Row w0 w.heap.size 5 1 encU8 d a) ∧ (Below w.heap.size w w0) ∧ (a.length ≤ cntD r.toNat) ∧ (z = ((r.toNat / 16 ^ a.length : Nat) : Int)) ∧ (a = lowB (digsD r.toNat a.length))) _ ⟨[], r, (.slice none 0 0), rfl, zk, zk, Row.nil _ _ _ _ _, c, Nat.zero_le _, by simp; omega, rfl⟩ ?_)))))))))))))
 rintro m5 s6 w7 ⟨a, z, d, hm, g, ab, b, c, i1, h, i⟩
 refine yS ab ?_
 have ah := cntD_le r.toNat
 have an := show_factsR i1 h zo
 refine zY (wR (zD (zGt .i32 z 0 ?_ ?_)))
 ·intro h8
  refine zD (zs (zs (zs (xG (nQ (zT (zK (zB (zY (zX (zQ (zD (zD (L_and15 z z.toNat zo zk zk ?_))))))))))))))
  have y := zV ([48, 49, 50, 51, 52, 53, 54, 55, 56, 57, 65, 66, 67, 68, 69, 70] : List UInt8) (z.toNat % 16) (by (rw [show (([48, 49, 50, 51, 52, 53, 54, 55, 56, 57, 65, 66, 67, 68, 69, 70] : List UInt8)).length = 16 from rfl]; omega)); obtain ⟨u, o⟩ := y
  have := u.toNat_lt
  refine xM (k := .i32) ([48, 49, 50, 51, 52, 53, 54, 55, 56, 57, 65, 66, 67, 68, 69, 70] : List UInt8) (z.toNat % 16) u underlying9 o zk zk (xW el97 w.heap.size d a ((u.toNat : Nat) : Int) c.size b zo zk rfl rfl zk rfl zk zk ?_)
  intro af am q j ac
  have c := c.tg c.size j b
  have b := q
  refine zG (zR (zI (zB (zQ (zD (L_shr (k := .i32) (yk := .u64) z 4 16 rfl zk zk zk (zG (zR (zB ⟨_, ?_, (a ++ [((u.toNat : Nat) : Int)]), (z / 16), af, rfl, g, zk, b, c, ?_, ?_, ?_⟩)))))))))
  ·simp; omega
  ·simp; omega
  ·exact (show_stepR h i za).1
  exact (show_stepR h i za).2
 intro aj
 refine zD (zw (zD (zw (zln underlying97 (b.rd).len (zw (nLt ((a).length) 4 ?_ ?_))))))
 ·intro ag
  refine xF (nQ (zT (zK (zB (zY (zX (zQ (zD (zD (L_and15 z z.toNat zo zk zk ?_))))))))))
  have y := zV ([48, 49, 50, 51, 52, 53, 54, 55, 56, 57, 65, 66, 67, 68, 69, 70] : List UInt8) (z.toNat % 16) (by (rw [show (([48, 49, 50, 51, 52, 53, 54, 55, 56, 57, 65, 66, 67, 68, 69, 70] : List UInt8)).length = 16 from rfl]; omega)); obtain ⟨e, s⟩ := y
  have := e.toNat_lt
  refine xM (k := .i32) ([48, 49, 50, 51, 52, 53, 54, 55, 56, 57, 65, 66, 67, 68, 69, 70] : List UInt8) (z.toNat % 16) e underlying9 s zk zk (xW el97 w.heap.size d a ((e.toNat : Nat) : Int) c.size b zo zk rfl rfl zk rfl zk zk ?_)
  intro ad ai l p ae
  have c := c.tg c.size p b
  have b := l
  refine zG (zR (zI (zB (zQ (zD (L_shr (k := .i32) (yk := .u64) z 4 16 rfl zk zk zk (zG (zR (zB ⟨_, ?_, (a ++ [((e.toNat : Nat) : Int)]), (z / 16), ad, rfl, g, zk, b, c, ?_, ?_, ?_⟩)))))))))
  ·simp; omega
  ·simp; omega
  ·exact (show_stepR h i za).1
  exact (show_stepR h i za).2
 intro ak
 refine xF (nQ (zF (yH (zL (zL (yB (zB (wR (zD (zc (c_slices_Reverse d a _ b ) ?_))))))))))
 rintro _ al ⟨rfl, t, n⟩
 have c := c.tg c.size n b
 have b := t
 exact nR (zD (L_bytesStr d (List.reverse a) underlying97 underlying5 underlying9 zk b.rd (zG (zG (nQ (zS (yC [(S (bytesI (List.reverse a))), (I6 0)] (hd := g) ⟨xE (congrArg S (by (rw [showF_ok zo zo]; first | done | exact show_endR i1 h i zo zo))) (e6 (by (rw [showF_ok zo zo]; first | done | exact show_endR i1 h i zo zo))), c⟩)))))))
end Go.Proofs.YtddnhlobnembaaaGreatDoor
end

/- === Wlref === -/
section
/- Walks, written by my program walk.py out of the specification lref.py: each theorem says what one function returns and that it leaves memory as it was. -/
namespace Go.Proofs.YtddnhlobnembaaaGreatDoor
open Go Go.RowKit Go.FK _root_.Go.Proofs.Tryz
set_option maxHeartbeats 4000000
set_option maxRecDepth 100000
theorem vT : Elem Tryz.prog 174 177 4 24 := ⟨underlying174, zk, rfl⟩
theorem el105 : Elem Tryz.prog 105 110 3 24 := ⟨underlying105, zk, rfl⟩
theorem c_furrowref03_Chars (s : List UInt8) (w : World) (hs : s.length ≤ 1073741824) :
  Calls Tryz.prog 106 #[(S s)] w (Ret fun v w' => ∃ (q0 : Value), v = q0 ∧ Row w' w.heap.size 177 4 encChar q0 (chF s) ∧ Below w.heap.size w w') := by
 refine wI 69 func106 rfl ?_
 have l := Below.refl w.heap.size w
 refine wR (zG (nR (zG (nW (wR (zD (L_range s underlying9 zk ?_)))))))
 intro b1 w2 bu
 have bn := bu.ge l.size
 have c := bu.here
 refine nQ (zX ?_)
 have l := l.tr bu.below
 refine yZ (fun m s0 w0 => ∃ (pos : Nat) (e : List (Nat × Nat × Int × Bool)) (h : Value), (m = s.length - pos) ∧ (s0.ds = []) ∧ ([0, 2, 9, 3].map s0.f = [(S s), (.slice none 0 0), (pt b1 0), h]) ∧ (Row w0 w.heap.size 177 4 encChar h e) ∧ (w0.heap[b1]? = some (.stringIter ⟨(s).toArray⟩ pos)) ∧ (Below w.heap.size w w0) ∧ (pos ≤ s.length) ∧ (e.length ≤ pos) ∧ (e ++ (charsFrom s pos).map rawC = (charsFrom s 0).map rawC)) _ ⟨0, [], (.slice none 0 0), rfl, zk, zk, Row.nil _ _ _ _ _, c, l, by omega, Nat.le_refl _, rfl⟩ ?_
 rintro m4 s5 w6 ⟨pos, e, h, hm, q, bq, d, c, l, i1, i2, i3⟩
 refine yS bq (wR ?_)
 rcases Nat.lt_or_ge pos (s).length with t | ai
 ·refine L_next s b1 pos zk c t ?_
  intro p w7 ax bl
  have d := d.wrote bl (d.ne c zi)
  have c := bl.here
  have := dec_pos s pos; have := dec_fits s pos t; have := dec_le s pos
  have bz : 0 ≤ p := by omega
  have bw : p ≤ 2147483647 := by omega
  have l := l.trans (bl.below bn)
  refine zr (.bool true) (nW (zT (zK (zB (zX (wR (zr (N6 pos) (zr (I3 p) (zG (zG (nQ (zQ (zD (zD (zD (zr (Value.agg #[(N6 pos), (I6 0), (I3 p), (.bool false)]) (xW vT w.heap.size h e (pos, 0, p, false) l.size d zo zk rfl rfl zk rfl zk zk ?_)))))))))))))))))
  intro v9 dv b5 ba cq
  have l := l.tg l.size ba d
  have c := yG c ba (d.ne c zi)
  have d := b5
  refine zG (zR (zI (zB ⟨_, zo, (pos + (dec s pos).2), (e ++ [(pos, 0, p, false)]), v9, rfl, q, zk, d, c, l, zo, ?_, ?_⟩)))
  ·simp only [List.length_append, List.length_cons, List.length_nil]; omega
  exact raw_step t ax i3
 refine L_nextEnd s b1 pos zk c ai (zr (.bool false) (nW (zF (yH (zL (zL (yB (zB (zY (wR (zG (nQ (zX (yZ (fun m s0 w0 => ∃ (i : Nat) (e : List (Nat × Nat × Int × Bool)) (h : Value), (m = e.length - i) ∧ (s0.ds = []) ∧ ([0, 2, 3, 6].map s0.f = [(S s), (.slice none 0 0), h, (N6 i)]) ∧ (Row w0 w.heap.size 177 4 encChar h e) ∧ (w0.heap[b1]? = some (.stringIter ⟨(s).toArray⟩ pos)) ∧ (Below w.heap.size w w0) ∧ (i ≤ e.length) ∧ (e = ((charsFrom s 0).take i).map fulC ++ ((charsFrom s 0).drop i).map rawC)) _ ⟨0, e, h, rfl, q, zk, d, c, l, by omega, raw_end ai i3⟩ ?_))))))))))))))
 rintro dt de dc ⟨i, e, h, hm, q, bq, d, c, l, i1, i2⟩
 refine yS bq ?_
 have di := mix_len i2
 have dn := chars_len s
 refine zY (wR (zD (zD (zln underlying174 (d.rd).len (nLt i ((e).length) ?_ ?_)))))
 ·intro db
  refine nQ (zT (zK (zB (zY (zX (wR (zD (zsl 9 s (zG (nW (wR (zD (xL i 1 (zD (zln underlying174 (d.rd).len (nLt (i + 1) ((e).length) ?_ ?_))))))))))))))))
  ·intro dp
   refine nQ (zT (zQ (zD (zD (xL i 1 ?_)))))
   have o := zV e (i + 1) zo; obtain ⟨g, bc⟩ := o
   have o := mix_at i2 bc zo
   obtain ⟨cj, a0, cb, cg, cc⟩ := o
   have ay := chars_next a0
   (try (have b7 := ay.2.2.2.1 _ za))
   refine zE d.rd vT (i + 1) bc 0 rfl fun _ _ => (zG (nR (zD (zD (zD (zD (zD ?_)))))))
   have o := zV e i zo; obtain ⟨a, aa⟩ := o
   have o := mix_at i2 aa zo
   obtain ⟨co, az, cf, b9, b8⟩ := o
   have a2 := chars_next az
   (try (have cd := a2.2.2.2.1 _ za))
   refine zE d.rd vT i aa 0 rfl fun _ _ => (zsb g.1 a.1 ?_)
   have o := (d.rd).at (k := 4) zj aa
   obtain ⟨br, ac, bd, ct⟩ := o
   refine xY (k := .i64) h i _ br ac vT bd zo zk zk (zr (pt br ((ac + i * 4) + 1)) (yL i 1 br ac a (a.1, (g.1 - a.1), a.2.2.1, a.2.2.2) (N6 (g.1 - a.1)) d zj aa bd zk zk rfl zk zk rfl ?_))
   intro dd bx a4
   have l := l.tg l.size a4 d
   have c := yG c a4 (d.ne c zi)
   have d := bx
   have n : (List.set e i (a.1, (g.1 - a.1), a.2.2.1, a.2.2.2))[i]? = some (a.1, (g.1 - a.1), a.2.2.1, a.2.2.2) := yU aa
   refine nQ (zQ (zD (zD (zD (zD (zE d.rd vT i n 2 rfl fun _ _ => (zNe .i32 a.2.2.1 65533 ?_ ?_)))))))
   ·intro dw
    refine zD (zs (zs (zs (zs (zs (zs (xG ?_)))))))
    have o := (d.rd).at (k := 4) zj n
    obtain ⟨bj, ah, a9, c0⟩ := o
    refine xY (k := .i64) h i _ bj ah vT a9 (by (simp only [List.length_set]; omega)) zk zk (zr (pt bj ((ah + i * 4) + 3)) (yL i 3 bj ah (a.1, (g.1 - a.1), a.2.2.1, a.2.2.2) (a.1, (g.1 - a.1), a.2.2.1, true) (.bool true) d zj n a9 zk zk rfl zk zk rfl ?_))
    intro df bv a5
    have l := l.tg l.size a5 d
    have c := yG c a5 (d.ne c zi)
    have d := bv
    have c8 : (List.set (List.set e i (a.1, (g.1 - a.1), a.2.2.1, a.2.2.2)) i (a.1, (g.1 - a.1), a.2.2.1, true))[i]? = some (a.1, (g.1 - a.1), a.2.2.1, true) := yU n
    refine zR (zI (zB (zQ (zD (xL i 1 (zG (zR (zB ⟨_, ?_, (i + 1), (List.set (List.set e i (a.1, (g.1 - a.1), a.2.2.1, a.2.2.2)) i (a.1, (g.1 - a.1), a.2.2.1, true)), h, rfl, q, zk, d, c, l, ?_, ?_⟩))))))))
    ·(simp only [List.length_set]; omega)
    ·simp only [List.length_set]; omega
    exact mix_set3 i2 za (by exact .inl ⟨_, by assumption, rfl⟩) (by exact (decide_eq_true (.inl za)).symm)
   intro dj
   refine zD (zw (zD (zw (zD (zw ?_)))))
   have o := (d.rd).at (k := 4) zj n
   obtain ⟨bp, ad, b2, b4⟩ := o
   refine xY (k := .i64) h i _ bp ad vT b2 (by (simp only [List.length_set]; omega)) zk zk (zw (zr (pt bp ((ad + i * 4) + 1)) (zw (uK bp ((ad + i * 4) + 1) (N6 (g.1 - a.1)) zk zk (b4 1 _ rfl) (zw (nEq (g.1 - a.1) 3 ?_ ?_))))))
   ·intro dq
    refine xF ?_
    have o := (d.rd).at (k := 4) zj n
    obtain ⟨bo, ae, be, c9⟩ := o
    refine xY (k := .i64) h i _ bo ae vT be (by (simp only [List.length_set]; omega)) zk zk (zr (pt bo ((ae + i * 4) + 3)) (yL i 3 bo ae (a.1, (g.1 - a.1), a.2.2.1, a.2.2.2) (a.1, (g.1 - a.1), a.2.2.1, true) (.bool true) d zj n be zk zk rfl zk zk rfl ?_))
    intro dk b0 a8
    have l := l.tg l.size a8 d
    have c := yG c a8 (d.ne c zi)
    have d := b0
    have cy : (List.set (List.set e i (a.1, (g.1 - a.1), a.2.2.1, a.2.2.2)) i (a.1, (g.1 - a.1), a.2.2.1, true))[i]? = some (a.1, (g.1 - a.1), a.2.2.1, true) := yU n
    refine zR (zI (zB (zQ (zD (xL i 1 (zG (zR (zB ⟨_, ?_, (i + 1), (List.set (List.set e i (a.1, (g.1 - a.1), a.2.2.1, a.2.2.2)) i (a.1, (g.1 - a.1), a.2.2.1, true)), h, rfl, q, zk, d, c, l, ?_, ?_⟩))))))))
    ·(simp only [List.length_set]; omega)
    ·simp only [List.length_set]; omega
    exact mix_set3 i2 za (by exact .inl ⟨_, by assumption, rfl⟩) (by exact (decide_eq_true (.inr zo)).symm)
   intro dr
   refine xF ?_
   have o := (d.rd).at (k := 4) zj n
   obtain ⟨bk, ag, bb, cu⟩ := o
   refine xY (k := .i64) h i _ bk ag vT bb (by (simp only [List.length_set]; omega)) zk zk (zr (pt bk ((ag + i * 4) + 3)) (yL i 3 bk ag (a.1, (g.1 - a.1), a.2.2.1, a.2.2.2) (a.1, (g.1 - a.1), a.2.2.1, false) (.bool false) d zj n bb zk zk rfl zk zk rfl ?_))
   intro du b6 a6
   have l := l.tg l.size a6 d
   have c := yG c a6 (d.ne c zi)
   have d := b6
   have c6 : (List.set (List.set e i (a.1, (g.1 - a.1), a.2.2.1, a.2.2.2)) i (a.1, (g.1 - a.1), a.2.2.1, false))[i]? = some (a.1, (g.1 - a.1), a.2.2.1, false) := yU n
   refine zR (zI (zB (zQ (zD (xL i 1 (zG (zR (zB ⟨_, ?_, (i + 1), (List.set (List.set e i (a.1, (g.1 - a.1), a.2.2.1, a.2.2.2)) i (a.1, (g.1 - a.1), a.2.2.1, false)), h, rfl, q, zk, d, c, l, ?_, ?_⟩))))))))
   ·(simp only [List.length_set]; omega)
   ·simp only [List.length_set]; omega
   exact mix_set3 i2 za (by exact .inl ⟨_, by assumption, rfl⟩) (by exact (decide_eq_false zo).symm)
  intro dl
  refine nQ (zF (zK (zB (wR (zD (zD (zD (zD (zD ?_)))))))))
  have o := zV e i zo; obtain ⟨b, ab⟩ := o
  have o := mix_at i2 ab zo
  obtain ⟨cs, a1, ch, ce, ci⟩ := o
  have a3 := chars_next a1
  (try (have ca := a3.2.2.2.1 _ za))
  refine zE d.rd vT i ab 0 rfl fun _ _ => (zsb ((s).length) b.1 ?_)
  have o := (d.rd).at (k := 4) zj ab
  obtain ⟨bi, af, a7, c2⟩ := o
  refine xY (k := .i64) h i _ bi af vT a7 zo zk zk (zr (pt bi ((af + i * 4) + 1)) (yL i 1 bi af b (b.1, ((s).length - b.1), b.2.2.1, b.2.2.2) (N6 ((s).length - b.1)) d zj ab a7 zk zk rfl zk zk rfl ?_))
  intro c4 bm ao
  have l := l.tg l.size ao d
  have c := yG c ao (d.ne c zi)
  have d := bm
  have j : (List.set e i (b.1, ((s).length - b.1), b.2.2.1, b.2.2.2))[i]? = some (b.1, ((s).length - b.1), b.2.2.1, b.2.2.2) := yU ab
  refine nQ (zQ (zD (zD (zD (zD (zE d.rd vT i j 2 rfl fun _ _ => (zNe .i32 b.2.2.1 65533 ?_ ?_)))))))
  ·intro cv
   refine zD (zs (zs (zs (zs (zs (zs (xG ?_)))))))
   have o := (d.rd).at (k := 4) zj j
   obtain ⟨av, r, aq, cn⟩ := o
   refine xY (k := .i64) h i _ av r vT aq (by (simp only [List.length_set]; omega)) zk zk (zr (pt av ((r + i * 4) + 3)) (yL i 3 av r (b.1, ((s).length - b.1), b.2.2.1, b.2.2.2) (b.1, ((s).length - b.1), b.2.2.1, true) (.bool true) d zj j aq zk zk rfl zk zk rfl ?_))
   intro c1 bf am
   have l := l.tg l.size am d
   have c := yG c am (d.ne c zi)
   have d := bf
   have cp : (List.set (List.set e i (b.1, ((s).length - b.1), b.2.2.1, b.2.2.2)) i (b.1, ((s).length - b.1), b.2.2.1, true))[i]? = some (b.1, ((s).length - b.1), b.2.2.1, true) := yU j
   refine zR (zI (zB (zQ (zD (xL i 1 (zG (zR (zB ⟨_, ?_, (i + 1), (List.set (List.set e i (b.1, ((s).length - b.1), b.2.2.1, b.2.2.2)) i (b.1, ((s).length - b.1), b.2.2.1, true)), h, rfl, q, zk, d, c, l, ?_, ?_⟩))))))))
   ·(simp only [List.length_set]; omega)
   ·simp only [List.length_set]; omega
   exact mix_set3 i2 za (by exact .inr ⟨by omega, rfl⟩) (by exact (decide_eq_true (.inl za)).symm)
  intro da
  refine zD (zw (zD (zw (zD (zw ?_)))))
  have o := (d.rd).at (k := 4) zj j
  obtain ⟨aw, z, bt, bs⟩ := o
  refine xY (k := .i64) h i _ aw z vT bt (by (simp only [List.length_set]; omega)) zk zk (zw (zr (pt aw ((z + i * 4) + 1)) (zw (uK aw ((z + i * 4) + 1) (N6 ((s).length - b.1)) zk zk (bs 1 _ rfl) (zw (nEq ((s).length - b.1) 3 ?_ ?_))))))
  ·intro cw
   refine xF ?_
   have o := (d.rd).at (k := 4) zj j
   obtain ⟨an, u, ar, cl⟩ := o
   refine xY (k := .i64) h i _ an u vT ar (by (simp only [List.length_set]; omega)) zk zk (zr (pt an ((u + i * 4) + 3)) (yL i 3 an u (b.1, ((s).length - b.1), b.2.2.1, b.2.2.2) (b.1, ((s).length - b.1), b.2.2.1, true) (.bool true) d zj j ar zk zk rfl zk zk rfl ?_))
   intro cz bg al
   have l := l.tg l.size al d
   have c := yG c al (d.ne c zi)
   have d := bg
   have ck : (List.set (List.set e i (b.1, ((s).length - b.1), b.2.2.1, b.2.2.2)) i (b.1, ((s).length - b.1), b.2.2.1, true))[i]? = some (b.1, ((s).length - b.1), b.2.2.1, true) := yU j
   refine zR (zI (zB (zQ (zD (xL i 1 (zG (zR (zB ⟨_, ?_, (i + 1), (List.set (List.set e i (b.1, ((s).length - b.1), b.2.2.1, b.2.2.2)) i (b.1, ((s).length - b.1), b.2.2.1, true)), h, rfl, q, zk, d, c, l, ?_, ?_⟩))))))))
   ·(simp only [List.length_set]; omega)
   ·simp only [List.length_set]; omega
   exact mix_set3 i2 za (by exact .inr ⟨by omega, rfl⟩) (by exact (decide_eq_true (.inr zo)).symm)
  intro c3
  refine xF ?_
  have o := (d.rd).at (k := 4) zj j
  obtain ⟨ap, y, ak, cm⟩ := o
  refine xY (k := .i64) h i _ ap y vT ak (by (simp only [List.length_set]; omega)) zk zk (zr (pt ap ((y + i * 4) + 3)) (yL i 3 ap y (b.1, ((s).length - b.1), b.2.2.1, b.2.2.2) (b.1, ((s).length - b.1), b.2.2.1, false) (.bool false) d zj j ak zk zk rfl zk zk rfl ?_))
  intro c5 bh au
  have l := l.tg l.size au d
  have c := yG c au (d.ne c zi)
  have d := bh
  have cr : (List.set (List.set e i (b.1, ((s).length - b.1), b.2.2.1, b.2.2.2)) i (b.1, ((s).length - b.1), b.2.2.1, false))[i]? = some (b.1, ((s).length - b.1), b.2.2.1, false) := yU j
  refine zR (zI (zB (zQ (zD (xL i 1 (zG (zR (zB ⟨_, ?_, (i + 1), (List.set (List.set e i (b.1, ((s).length - b.1), b.2.2.1, b.2.2.2)) i (b.1, ((s).length - b.1), b.2.2.1, false)), h, rfl, q, zk, d, c, l, ?_, ?_⟩))))))))
  ·(simp only [List.length_set]; omega)
  ·simp only [List.length_set]; omega
  exact mix_set3 i2 za (by exact .inr ⟨by omega, rfl⟩) (by exact (decide_eq_false zo).symm)
 intro cx
 exact nQ (zF (yH (zL (zL (yB (zB (wR (zD (zG (nQ (zS (yC [h] (hd := q) ⟨h, rfl, d.cast (by first | exact mix_done i2 zo), l⟩))))))))))))
theorem c_furrowref03_Check (s : List UInt8) (w : World) (hs : s.length ≤ 1073741824) :
  Calls Tryz.prog 80 #[(S s)] w (Ret fun v w' => v = (.tuple #[(N6 ((chkF s).1)), (I6 ((chkF s).2))]) ∧ Below w.heap.size w w') := by
 refine wI 50 func80 rfl ?_
 have l := Below.refl w.heap.size w
 refine wR (zG (zG (nR (zD (zc (c_furrowref03_Chars s _ zo) ?_)))))
 rintro q1 w2 ⟨_, rfl, a, ae⟩
 have a := a.base l.size
 have := chF_len s
 have := chars_len s
 refine zG (nW (wR (zG (nQ (zX ?_)))))
 have l := l.tr ae
 refine yZ (fun m s0 w0 => ∃ (i : Nat), (m = (chF s).length - i) ∧ (s0.ds = []) ∧ ([4, 5].map s0.f = [q1, (N6 i)]) ∧ (Row w0 w.heap.size 177 4 encChar q1 (chF s)) ∧ (Below w.heap.size w w0) ∧ (i ≤ (chF s).length) ∧ (i ≤ 4096) ∧ (chkL ((charsFrom s 0).drop i) i = chkF s)) _ ⟨0, rfl, zk, zk, a, l, by omega, by omega, rfl⟩ ?_
 rintro m5 s6 w7 ⟨i, hm, d, af, a, l, i1, i4, j⟩
 refine yS af (zY (wR (zD (zD (zln underlying174 (a.rd).len (nLt i ((chF s).length) ?_ ?_))))))
 ·intro h8
  refine nQ (zT (zK (zB (zY (zX (zX (wR (zD (nEq i 4096 ?_ ?_)))))))))
  ·intro h9
   exact zG (nQ (zT (wR (zD (zG (zG (nQ (zS (zP (zP (zH (zH (zP (zH (yC [(N6 i), (I6 32)] (hd := d) ⟨xE (congrArg (fun x : Nat => Value.int .i64 (x : Int)) (by (rw [ck_wide2 zo za j]; (try first | rfl | (show i = 4096; assumption)); done))) (e6 (by (rw [ck_wide2 zo za j]; (try first | rfl | (show i = 4096; assumption)); done))), l⟩)))))))))))))))
  intro ap
  refine zG (nQ (zF (wR (zD (zD ?_)))))
  have o := zV (chF s) i zo; obtain ⟨b, c⟩ := o
  have ad : -2147483648 ≤ b.2.2.1 ∧ b.2.2.1 ≤ 2147483647 := chF_range c
  refine zE a.rd vT i c 3 rfl fun _ _ => (wW b.2.2.2 (zG (nQ ?_)))
  rcases Bool.eq_false_or_eq_true (!b.2.2.2) with n | n
  ·skip
   exact W_ifT n zk (wR (zD (zG (zG (nQ (zS (zP (zP (zH (zH (zP (zH (yC [(N6 i), (I6 30)] (hd := d) ⟨xE (congrArg (fun x : Nat => Value.int .i64 (x : Int)) (by (rw [ck_wrongX za za zo j]; done))) (e6 (by (rw [ck_wrongX za za zo j]; done))), l⟩)))))))))))))
  skip
  refine W_ifF n zk (wR (zD (zD (zE a.rd vT i c 2 rfl fun _ _ => (zLt .i32 b.2.2.1 32 ?_ ?_)))))
  ·intro ah
   refine zD (zw (zD (zw (zD (zw ?_)))))
   have o := (a.rd).at (k := 4) zj c
   obtain ⟨p, h, u, y⟩ := o
   refine xY (k := .i64) q1 i _ p h vT u zo zk zk (zw (zr (pt p ((h + i * 4) + 2)) (zw (uK p ((h + i * 4) + 2) (I3 b.2.2.1) zk zk (y 2 _ rfl) (zw (zNe .i32 b.2.2.1 9 ?_ ?_))))))
   ·intro an
    exact xG (zD (zs (zs (zs (zs (zs (zs (xG (zG (nQ (zT (wR (zD (zG (zG (nQ (zS (zP (zP (zH (zH (zP (zH (yC [(N6 i), (I6 31)] (hd := d) ⟨xE (congrArg (fun x : Nat => Value.int .i64 (x : Int)) (by (rw [ck_ctlX za za zo zo j]; done))) (e6 (by (rw [ck_ctlX za za zo zo j]; done))), l⟩))))))))))))))))))))))))
   intro aj
   refine xG (zD (zw (zD (zw (zD (zw ?_))))))
   have o := (a.rd).at (k := 4) zj c
   obtain ⟨r, g, t, z⟩ := o
   refine xY (k := .i64) q1 i _ r g vT t zo zk zk (zw (zr (pt r ((g + i * 4) + 2)) (zw (uK r ((g + i * 4) + 2) (I3 b.2.2.1) zk zk (z 2 _ rfl) (zw (qA .i32 b.2.2.1 127 ?_ ?_))))))
   ·intro al
    exact xF (zG (nQ (zT (wR (zD (zG (zG (nQ (zS (zP (zP (zH (zH (zP (zH (yC [(N6 i), (I6 31)] (hd := d) ⟨xE (congrArg (fun x : Nat => Value.int .i64 (x : Int)) (by (rw [ck_ctlX za za zo zo j]; done))) (e6 (by (rw [ck_ctlX za za zo zo j]; done))), l⟩))))))))))))))))
   intro ai
   refine xF (zG (nQ (zF (zK (zI (zI (zB (zQ (zD (xL i 1 (zG (zR (zB ⟨_, zo, (i + 1), rfl, d, zk, a, l, zo, zo, ?_⟩)))))))))))))
   exact ck_onX za za zo zo j
  intro ak
  refine zD (zs (zs (zs (zs (zs (zs (xF (zD (zw (zD (zw (zD (zw ?_)))))))))))))
  have o := (a.rd).at (k := 4) zj c
  obtain ⟨q, e, ab, aa⟩ := o
  refine xY (k := .i64) q1 i _ q e vT ab zo zk zk (zw (zr (pt q ((e + i * 4) + 2)) (zw (uK q ((e + i * 4) + 2) (I3 b.2.2.1) zk zk (aa 2 _ rfl) (zw (qA .i32 b.2.2.1 127 ?_ ?_))))))
  ·intro ao
   exact xF (zG (nQ (zT (wR (zD (zG (zG (nQ (zS (zP (zP (zH (zH (zP (zH (yC [(N6 i), (I6 31)] (hd := d) ⟨xE (congrArg (fun x : Nat => Value.int .i64 (x : Int)) (by (rw [ck_ctlX za za zo zo j]; done))) (e6 (by (rw [ck_ctlX za za zo zo j]; done))), l⟩))))))))))))))))
  intro ag
  refine xF (zG (nQ (zF (zK (zI (zI (zB (zQ (zD (xL i 1 (zG (zR (zB ⟨_, zo, (i + 1), rfl, d, zk, a, l, zo, zo, ?_⟩)))))))))))))
  exact ck_onX za za zo zo j
 intro am
 exact nQ (zF (yH (zL (zL (yB (zB (wR (zG (zG (nQ (zS (yC [(I6 0), (I6 0)] (hd := d) ⟨xE (congrArg (fun x : Nat => Value.int .i64 (x : Int)) (by (rw [← ck_end zo j]; done))) (e6 (by (rw [← ck_end zo j]; done))), l⟩))))))))))))
theorem c_furrowref03_Marked (s : List UInt8) (w : World) (hs : s.length ≤ 1073741824) :
  Calls Tryz.prog 79 #[(S s)] w (Ret fun v w' => v = (N6 (markN s)) ∧ Below w.heap.size w w') := by
 refine wI 21 func79 rfl ?_
 have d := Below.refl w.heap.size w
 refine wR (zG (nW (wR (zD (zsl 9 s (nGe ((s).length) 3 ?_ ?_))))))
 ·intro q
  refine zD (zw (zD (zw ?_)))
  have e := zV s 0 zo; obtain ⟨c, m⟩ := e
  have := c.toNat_lt
  refine xM (k := .i64) s 0 c underlying9 m zk zk (zw (xJ .u8 ((c.toNat : Nat) : Int) ((239 : Nat) : Int) (c.toNat = 239) rfl (xK c.toNat 239) zk zk ?_ ?_))
  ·intro o
   replace o : c.toNat = 239 := by omega
   refine xG (zD (zw (zD (zw ?_))))
   have e := zV s 1 zo; obtain ⟨a, h⟩ := e
   have := a.toNat_lt
   refine xM (k := .i64) s 1 a underlying9 h zk zk (zw (xJ .u8 ((a.toNat : Nat) : Int) ((187 : Nat) : Int) (a.toNat = 187) rfl (xK a.toNat 187) zk zk ?_ ?_))
   ·intro n
    replace n : a.toNat = 187 := by omega
    refine xG (zD (zw (zD (zw ?_))))
    have e := zV s 2 zo; obtain ⟨b, f⟩ := e
    have := b.toNat_lt
    refine xM (k := .i64) s 2 b underlying9 f zk zk (zw (xJ .u8 ((b.toNat : Nat) : Int) ((191 : Nat) : Int) (b.toNat = 191) rfl (xK b.toNat 191) zk zk ?_ ?_))
    ·intro g
     replace g : b.toNat = 191 := by omega
     exact xG (nQ (zT (wR (zG (nQ (zS (zH (yC [(I6 3)] ⟨congrArg (fun x : Nat => Value.int .i64 (x : Int)) (by exact mark_yes zo za za za za za za), d⟩))))))))
    intro i
    replace i : b.toNat ≠ 191 := by omega
    exact xG (nQ (zF (zK (zB (wR (zG (nQ (zS (yC [(I6 0)] ⟨congrArg (fun x : Nat => Value.int .i64 (x : Int)) (by exact mark_no (.inr ⟨2, _, by omega, by assumption, by assumption⟩)), d⟩)))))))))
   intro j
   replace j : a.toNat ≠ 187 := by omega
   exact xG (zD (zs (zs (zs (xF (nQ (zF (zK (zB (wR (zG (nQ (zS (yC [(I6 0)] ⟨congrArg (fun x : Nat => Value.int .i64 (x : Int)) (by exact mark_no (.inr ⟨1, _, by omega, by assumption, by assumption⟩)), d⟩))))))))))))))
  intro l
  replace l : c.toNat ≠ 239 := by omega
  exact xG (zD (zs (zs (zs (xF (zD (zs (zs (zs (xF (nQ (zF (zK (zB (wR (zG (nQ (zS (yC [(I6 0)] ⟨congrArg (fun x : Nat => Value.int .i64 (x : Int)) (by exact mark_no (.inr ⟨0, _, by omega, by assumption, by assumption⟩)), d⟩)))))))))))))))))))
 intro p
 exact zD (zs (zs (zs (xF (zD (zs (zs (zs (xF (zD (zs (zs (zs (xF (nQ (zF (zK (zB (wR (zG (nQ (zS (yC [(I6 0)] ⟨congrArg (fun x : Nat => Value.int .i64 (x : Int)) (by exact mark_no (.inl zo)), d⟩)))))))))))))))))))))))
theorem c_furrowref03_Pieces (s : List UInt8) (w : World) (hs : s.length ≤ 1073741824) :
  Calls Tryz.prog 46 #[(S s)] w (Ret fun v w' => ∃ (q0 : Value), v = q0 ∧ Row w' w.heap.size 110 3 encPcN q0 (pcsR s) ∧ Below w.heap.size w w') := by
 refine wI 57 func46 rfl ?_
 have c := Below.refl w.heap.size w
 refine wR (zG (nR (zG (nR (zD (zc (c_furrowref03_Marked s _ zo) ?_))))))
 rintro _ w1 ⟨rfl, ai⟩
 have := mark_len s
 refine zG (nW (wR (zD (zG (nQ (zX ?_))))))
 have c := c.tr ai
 refine yZ (fun m s0 w0 => ∃ (i : Nat) (a : Nat) (d : List (Nat × Nat × Nat)) (e : Value), (m = s.length - i) ∧ (s0.ds = []) ∧ ([0, 2, 3, 4, 5].map s0.f = [(S s), (.slice none 0 0), e, (N6 a), (N6 i)]) ∧ (Row w0 w.heap.size 110 3 encPcN e d) ∧ (Below w.heap.size w w0) ∧ (i ≤ s.length) ∧ (a ≤ i) ∧ (d.length ≤ a) ∧ (d ++ (pcsFrom s a i).filter keepP = pcsR s)) _ ⟨(markN s), (markN s), [], (.slice none 0 0), rfl, zk, zk, Row.nil _ _ _ _ _, c, by omega, by omega, (Nat.zero_le _), rfl⟩ ?_
 rintro m4 s5 w6 ⟨i, a, d, e, hm, h, ag, b, c, i1, i2, i4, l⟩
 refine yS ag (zY (wR (zD (zD (zsl 9 s (nLt i ((s).length) ?_ ?_))))))
 ·intro h7
  refine nQ (zT (zK (zB (zY (zX (zY (wR (zD (zD ?_)))))))))
  have hz := zV s i zo; obtain ⟨j, ab⟩ := hz
  have := j.toNat_lt
  refine xM (k := .i64) s i j underlying9 ab zk zk (xJ .u8 ((j.toNat : Nat) : Int) ((10 : Nat) : Int) (j.toNat ≠ 10) rfl (cmpN_ne j.toNat 10) zk zk ?_ ?_)
  ·intro an
   replace an : j.toNat ≠ 10 := by omega
   refine nQ (zT (yH (zL (yB (zB (zQ (zD (xL i 1 (zG (zR (zB ⟨_, zo, (i + 1), a, d, e, rfl, h, zk, b, c, zo, zo, zo, ?_⟩)))))))))))
   exact pr_on za za l
  intro aj
  replace aj : j.toNat = 10 := by omega
  refine nQ (zF (zK (zB (wR (zD (zG (nW (wR (zD (zD (nGt i a ?_ ?_)))))))))))
  ·intro ay
   refine zD (zw (zD (zw (zD (zw (zsb i 1 (zw ?_)))))))
   have hz := zV s (i - 1) zo; obtain ⟨g, o⟩ := hz
   have := g.toNat_lt
   refine xM (k := .i64) s (i - 1) g underlying9 o zk zk (zw (xJ .u8 ((g.toNat : Nat) : Int) ((13 : Nat) : Int) (g.toNat = 13) rfl (xK g.toNat 13) zk zk ?_ ?_))
   ·intro ao
    replace ao : g.toNat = 13 := by omega
    refine xG (nQ (zT (zQ (zD (zsb i 1 (zG (nR (zD (zD (zD (zD (xL i 1 (zr (Value.agg #[(N6 a), (N6 (i - 1)), (N6 (i + 1))]) (xW el105 w.heap.size e d (a, (i - 1), (i + 1)) c.size b zo zk rfl rfl zk rfl zk zk ?_))))))))))))))
    intro af a1 q t ap
    have c := c.tg c.size t b
    have b := q
    refine zG (nQ (zQ (zD (xL i 1 (zG (zR (zI (zB (zQ (zD (xL i 1 (zG (zR (zB ⟨_, zo, (i + 1), (i + 1), (d ++ [(a, (i - 1), (i + 1))]), af, rfl, h, zk, b, c, zo, zo, ?_, ?_⟩))))))))))))))
    ·(simp only [List.length_append, List.length_cons, List.length_nil]; omega)
    exact pr_nl i2 za za (cr_one zo za za) l
   intro ac
   replace ac : g.toNat ≠ 13 := by omega
   refine xG (nQ (zF (zK (zB (wR (zD (zD (zD (zD (xL i 1 (zr (Value.agg #[(N6 a), (N6 i), (N6 (i + 1))]) (xW el105 w.heap.size e d (a, i, (i + 1)) c.size b zo zk rfl rfl zk rfl zk zk ?_))))))))))))
   intro ak av p y ae
   have c := c.tg c.size y b
   have b := p
   refine zG (nQ (zQ (zD (xL i 1 (zG (zR (zI (zB (zQ (zD (xL i 1 (zG (zR (zB ⟨_, zo, (i + 1), (i + 1), (d ++ [(a, i, (i + 1))]), ak, rfl, h, zk, b, c, zo, zo, ?_, ?_⟩))))))))))))))
   ·(simp only [List.length_append, List.length_cons, List.length_nil]; omega)
   exact pr_nl i2 za za (cr_not za za) l
  intro aw
  refine zD (zs (zs (zs (zs (zs (xF (nQ (zF (zK (zB (wR (zD (zD (zD (zD (xL i 1 (zr (Value.agg #[(N6 a), (N6 i), (N6 (i + 1))]) (xW el105 w.heap.size e d (a, i, (i + 1)) c.size b zo zk rfl rfl zk rfl zk zk ?_))))))))))))))))))
  intro ah a0 z r aq
  have c := c.tg c.size r b
  have b := z
  refine zG (nQ (zQ (zD (xL i 1 (zG (zR (zI (zB (zQ (zD (xL i 1 (zG (zR (zB ⟨_, zo, (i + 1), (i + 1), (d ++ [(a, i, (i + 1))]), ah, rfl, h, zk, b, c, zo, zo, ?_, ?_⟩))))))))))))))
  ·(simp only [List.length_append, List.length_cons, List.length_nil]; omega)
  exact pr_nl i2 za za (cr_low zo) l
 intro az
 refine nQ (zF (yH (zL (zL (yB (zB (zY (wR (zD (zD (zsl 9 s (nLt a ((s).length) ?_ ?_))))))))))))
 ·intro au
  refine nQ (zT (zQ (zD (zD (zD (zsl 9 s (zD (zsl 9 s (zr (Value.agg #[(N6 a), (N6 ((s).length)), (N6 ((s).length))]) (xW el105 w.heap.size e d (a, (s).length, (s).length) c.size b zo zk rfl rfl zk rfl zk zk ?_))))))))))
  intro aa ar n u am
  have c := c.tg c.size u b
  have b := n
  exact zG (nR (zD (zG (nQ (zS (yC [aa] (hd := h) ⟨aa, rfl, b.cast (by exact pr_last zo zo l), c⟩))))))
 intro ax
 exact nQ (zF (zK (zB (wR (zD (zG (nQ (zS (yC [e] (hd := h) ⟨e, rfl, b.cast (by exact pr_none zo zo l), c⟩)))))))))
theorem wY (s : List UInt8) (w : World) (hs : s.length ≤ 1073741824) :
  Calls Tryz.prog 107 #[(S s)] w (Ret fun v w' => v = (S (trmF s)) ∧ Below w.heap.size w w') := by
 refine wI 43 func107 rfl ?_
 have g := Below.refl w.heap.size w
 refine wR (zG (nW (zX (yZ (fun m s0 w0 => ∃ (a : List UInt8), (m = a.length) ∧ (s0.ds = []) ∧ ([2, 0].map s0.f = [(S []), (S a)]) ∧ (Below w.heap.size w w0) ∧ (a.length ≤ s.length) ∧ (trmF a = trmF s)) _ ⟨s, rfl, zk, zk, g, (Nat.le_refl _), rfl⟩ ?_))))
 rintro m1 s2 w3 ⟨a, hm, b, l, g, r, h⟩
 refine yS l (zY (wR (zD (zsl 9 a (nGt ((a).length) 0 ?_ ?_)))))
 ·intro h4
  refine zD (zw (zD (zw ?_)))
  have p := zV a 0 zo; obtain ⟨j, q⟩ := p
  have := j.toNat_lt
  refine xM (k := .i64) a 0 j underlying9 q zk zk (zw (xJ .u8 ((j.toNat : Nat) : Int) ((32 : Nat) : Int) (j.toNat = 32) rfl (xK j.toNat 32) zk zk ?_ ?_))
  ·intro h7
   replace h7 : j.toNat = 32 := by omega
   refine zw (zD (zs (zs (zs (zw (xG (xG (nQ (zT (zK (zB (zX (zQ (zD (qD a 1 underlying9 zk ⟨.i64, zk⟩ zo (zG (zR (zI (zB ⟨_, ?_, (List.drop 1 a), rfl, b, zk, g, ?_, ?_⟩)))))))))))))))))))
   ·(simp only [List.length_drop]; omega)
   ·simp only [List.length_drop]; omega
   exact (trm_left za (.inl za)).trans h
  intro h8
  replace h8 : j.toNat ≠ 32 := by omega
  refine zw (zD (zw (zD (zw (xM (k := .i64) a 0 j underlying9 q zk zk (zw (xJ .u8 ((j.toNat : Nat) : Int) ((9 : Nat) : Int) (j.toNat = 9) rfl (xK j.toNat 9) zk zk ?_ ?_)))))))
  ·intro h9
   replace h9 : j.toNat = 9 := by omega
   refine zw (xF (xG (nQ (zT (zK (zB (zX (zQ (zD (qD a 1 underlying9 zk ⟨.i64, zk⟩ zo (zG (zR (zI (zB ⟨_, ?_, (List.drop 1 a), rfl, b, zk, g, ?_, ?_⟩))))))))))))))
   ·(simp only [List.length_drop]; omega)
   ·simp only [List.length_drop]; omega
   exact (trm_left za (.inr za)).trans h
  intro ae
  replace ae : j.toNat ≠ 9 := by omega
  refine zw (xF (xG (nQ (zF (yH (zL (zL (yB (zB (zY (zX (yZ (fun m s0 w0 => ∃ (a : List UInt8), (m = a.length) ∧ (s0.ds = []) ∧ ([2, 0].map s0.f = [(S []), (S a)]) ∧ (Below w.heap.size w w0) ∧ (a.length ≤ s.length) ∧ (trmF a = trmF s) ∧ (a = [] ∨ ∃ c, a[0]? = some c ∧ ¬ (c.toNat = 32 ∨ c.toNat = 9))) _ ⟨a, rfl, b, zk, g, r, h, (by exact .inr ⟨_, by assumption, by omega⟩)⟩ ?_))))))))))))
  rintro an ai am ⟨a, hm, b, l, g, r, h, i⟩
  refine yS l (zY (wR (zD (zsl 9 a (nGt ((a).length) 0 ?_ ?_)))))
  ·intro ax
   refine zD (zw (zD (zw (zD (zw (zsl 9 a (zw (zsb ((a).length) 1 (zw ?_)))))))))
   have p := zV a ((a).length - 1) zo; obtain ⟨e, n⟩ := p
   have := e.toNat_lt
   refine xM (k := .i64) a ((a).length - 1) e underlying9 n zk zk (zw (xJ .u8 ((e.toNat : Nat) : Int) ((32 : Nat) : Int) (e.toNat = 32) rfl (xK e.toNat 32) zk zk ?_ ?_))
   ·intro t
    replace t : e.toNat = 32 := by omega
    refine zw (zD (zs (zs (zs (zs (zs (zs (zw (xG (xG (nQ (zT (zK (zB (zX (zQ (zD (zD (zsl 9 a (zsb ((a).length) 1 (L_ssto a ((a).length - 1) underlying9 zk ⟨.i64, zk⟩ zo (zG (zR (zI (zB ⟨_, ?_, (List.take ((a).length - 1) a), rfl, b, zk, g, ?_, ?_, ?_⟩)))))))))))))))))))))))))
    ·(simp only [List.length_take]; omega)
    ·simp only [List.length_take]; omega
    ·exact (trm_right za (.inl za)).trans h
    exact trm_first i
   intro af
   replace af : e.toNat ≠ 32 := by omega
   refine zw (zD (zw (zD (zw (zD (zw (zsl 9 a (zw (zsb ((a).length) 1 (zw (xM (k := .i64) a ((a).length - 1) e underlying9 n zk zk (zw (xJ .u8 ((e.toNat : Nat) : Int) ((9 : Nat) : Int) (e.toNat = 9) rfl (xK e.toNat 9) zk zk ?_ ?_)))))))))))))
   ·intro z
    replace z : e.toNat = 9 := by omega
    refine zw (xF (xG (nQ (zT (zK (zB (zX (zQ (zD (zD (zsl 9 a (zsb ((a).length) 1 (L_ssto a ((a).length - 1) underlying9 zk ⟨.i64, zk⟩ zo (zG (zR (zI (zB ⟨_, ?_, (List.take ((a).length - 1) a), rfl, b, zk, g, ?_, ?_, ?_⟩)))))))))))))))))
    ·(simp only [List.length_take]; omega)
    ·simp only [List.length_take]; omega
    ·exact (trm_right za (.inr za)).trans h
    exact trm_first i
   intro y
   replace y : e.toNat ≠ 9 := by omega
   exact zw (xF (xG (nQ (zF (yH (zL (zL (yB (zB (wR (zD (zG (nQ (zS (yC [(S a)] (hd := b) ⟨congrArg S (by (rcases i with i | ⟨c0, i, i5⟩; exact (trm_done (.inl i)).symm.trans h; exact (trm_done (.inr ⟨c0, _, i, i5, by assumption, by omega⟩)).symm.trans h)), g⟩)))))))))))))))
  intro ak
  exact zD (zs (zs (zs (zs (zs (zs (zs (zs (zs (zs (zs (zs (zs (zs (xF (nQ (zF (yH (zL (zL (yB (zB (wR (zD (zG (nQ (zS (yC [(S a)] (hd := b) ⟨congrArg S (by exact (trm_done (.inl (List.eq_nil_of_length_eq_zero zo))).symm.trans h), g⟩))))))))))))))))))))))))))))
 intro aj
 refine zD (zs (zs (zs (zs (zs (zs (zs (zs (xF (nQ (zF (yH (zL (zL (yB (zB (zY (zX (yZ (fun m s0 w0 => ∃ (a : List UInt8), (m = a.length) ∧ (s0.ds = []) ∧ ([2, 0].map s0.f = [(S []), (S a)]) ∧ (Below w.heap.size w w0) ∧ (a.length ≤ s.length) ∧ (trmF a = trmF s) ∧ (a = [] ∨ ∃ c, a[0]? = some c ∧ ¬ (c.toNat = 32 ∨ c.toNat = 9))) _ ⟨a, rfl, b, zk, g, r, h, (by exact .inl (List.eq_nil_of_length_eq_zero zo))⟩ ?_)))))))))))))))))))
 rintro au al aq ⟨a, hm, b, l, g, r, h, i⟩
 refine yS l (zY (wR (zD (zsl 9 a (nGt ((a).length) 0 ?_ ?_)))))
 ·intro ap
  refine zD (zw (zD (zw (zD (zw (zsl 9 a (zw (zsb ((a).length) 1 (zw ?_)))))))))
  have p := zV a ((a).length - 1) zo; obtain ⟨d, o⟩ := p
  have := d.toNat_lt
  refine xM (k := .i64) a ((a).length - 1) d underlying9 o zk zk (zw (xJ .u8 ((d.toNat : Nat) : Int) ((32 : Nat) : Int) (d.toNat = 32) rfl (xK d.toNat 32) zk zk ?_ ?_))
  ·intro u
   replace u : d.toNat = 32 := by omega
   refine zw (zD (zs (zs (zs (zs (zs (zs (zw (xG (xG (nQ (zT (zK (zB (zX (zQ (zD (zD (zsl 9 a (zsb ((a).length) 1 (L_ssto a ((a).length - 1) underlying9 zk ⟨.i64, zk⟩ zo (zG (zR (zI (zB ⟨_, ?_, (List.take ((a).length - 1) a), rfl, b, zk, g, ?_, ?_, ?_⟩)))))))))))))))))))))))))
   ·(simp only [List.length_take]; omega)
   ·simp only [List.length_take]; omega
   ·exact (trm_right za (.inl za)).trans h
   exact trm_first i
  intro aa
  replace aa : d.toNat ≠ 32 := by omega
  refine zw (zD (zw (zD (zw (zD (zw (zsl 9 a (zw (zsb ((a).length) 1 (zw (xM (k := .i64) a ((a).length - 1) d underlying9 o zk zk (zw (xJ .u8 ((d.toNat : Nat) : Int) ((9 : Nat) : Int) (d.toNat = 9) rfl (xK d.toNat 9) zk zk ?_ ?_)))))))))))))
  ·intro ac
   replace ac : d.toNat = 9 := by omega
   refine zw (xF (xG (nQ (zT (zK (zB (zX (zQ (zD (zD (zsl 9 a (zsb ((a).length) 1 (L_ssto a ((a).length - 1) underlying9 zk ⟨.i64, zk⟩ zo (zG (zR (zI (zB ⟨_, ?_, (List.take ((a).length - 1) a), rfl, b, zk, g, ?_, ?_, ?_⟩)))))))))))))))))
   ·(simp only [List.length_take]; omega)
   ·simp only [List.length_take]; omega
   ·exact (trm_right za (.inr za)).trans h
   exact trm_first i
  intro ab
  replace ab : d.toNat ≠ 9 := by omega
  exact zw (xF (xG (nQ (zF (yH (zL (zL (yB (zB (wR (zD (zG (nQ (zS (yC [(S a)] (hd := b) ⟨congrArg S (by (rcases i with i | ⟨c0, i, i5⟩; exact (trm_done (.inl i)).symm.trans h; exact (trm_done (.inr ⟨c0, _, i, i5, by assumption, by omega⟩)).symm.trans h)), g⟩)))))))))))))))
 intro av
 exact zD (zs (zs (zs (zs (zs (zs (zs (zs (zs (zs (zs (zs (zs (zs (xF (nQ (zF (yH (zL (zL (yB (zB (wR (zD (zG (nQ (zS (yC [(S a)] (hd := b) ⟨congrArg S (by exact (trm_done (.inl (List.eq_nil_of_length_eq_zero zo))).symm.trans h), g⟩))))))))))))))))))))))))))))
theorem wP (s : List UInt8) (b : UInt8) (w : World) (hs : s.length ≤ 1073741824) :
  Calls Tryz.prog 83 #[(S s), (U8 ((b.toNat : Nat) : Int))] w (Ret fun v w' => v = (.tuple #[(S ((untF b s).1)), (S ((untF b s).2.1)), (.bool ((untF b s).2.2))]) ∧ Below w.heap.size w w') := by
 refine wI 27 func83 rfl ?_
 have a := Below.refl w.heap.size w
 refine wR (zG (zG (zG (nW (wR (zG (nQ (zX (yZ (fun m s0 w0 => ∃ (i : Nat), (m = s.length - i) ∧ (s0.ds = []) ∧ ([0, 1, 7].map s0.f = [(S s), (U8 ((b.toNat : Nat) : Int)), (N6 i)]) ∧ (Below w.heap.size w w0) ∧ (i ≤ s.length) ∧ (noB b s 0 i)) _ ⟨0, rfl, zk, zk, a, by omega, noB_zero _ _ _⟩ ?_)))))))))
 rintro z s2 t ⟨i, q, d, l, a, u, e⟩
 refine yS l (zY (wR (zD (zD (zsl 9 s (nLt i ((s).length) ?_ ?_))))))
 ·intro y
  refine nQ (zT (zK (zB (zY (zX (wR (zD (zD ?_))))))))
  have p := zV s i zo; obtain ⟨c, h⟩ := p
  have := c.toNat_lt
  refine xM (k := .i64) s i c underlying9 h zk zk (zD (xJ .u8 ((c.toNat : Nat) : Int) ((b.toNat : Nat) : Int) (c.toNat = b.toNat) rfl (xK c.toNat b.toNat) zk zk ?_ ?_))
  ·intro n
   replace n : c.toNat = b.toNat := by omega
   refine nQ (zT (zY (xA zk zk (yE (yE (Lq_ssto s i underlying9 zk ⟨.i64, zk⟩ zo (yE (yE (uM i 1 zo zk zk (Lq_ssfrom s (i + 1) underlying9 zk ⟨.i64, zk⟩ zo (wU (wU (wU (yN ?_))))))))))))))
   intro r j
   have a := a.tr j
   exact zB (zS (zP (zH (zH (zP (zH (yC [(S (List.take i s)), (S (List.drop (i + 1) s)), (.bool true)] (hd := d) ⟨tup3 (congrArg S (by (rw [unt_hit e za za]; done))) (congrArg S (by (rw [unt_hit e za za]; done))) (eb (by (rw [unt_hit e za za]; done))), a⟩)))))))
  intro g
  replace g : c.toNat ≠ b.toNat := by omega
  refine nQ (zF (zK (zI (zB (zQ (zD (xL i 1 (zG (zR (zB ⟨_, zo, (i + 1), rfl, d, zk, a, zo, ?_⟩))))))))))
  exact noB_succ e za za
 intro o
 exact nQ (zF (yH (zL (zL (yB (zB (wR (zD (zG (zG (zG (nQ (zS (yC [(S s), (S []), (.bool false)] (hd := d) ⟨tup3 (congrArg S (by (rw [unt_none e zo]; done))) (congrArg S (by (rw [unt_none e zo]; done))) (eb (by (rw [unt_none e zo]; done))), a⟩))))))))))))))
theorem c_furrowref03_Parts (s : List UInt8) (w : World) (hs : s.length ≤ 1073741824) :
  Calls Tryz.prog 81 #[(S s)] w (Ret fun v w' => v = (.tuple #[(S (headF s)), (S (noteF s))]) ∧ Below w.heap.size w w') := by
 refine wI 17 func81 rfl ?_
 have a := Below.refl w.heap.size w
 refine wR (zG (zG (nR (zD (zc (wP s 35 _ zo) ?_)))))
 rintro _ e ⟨rfl, d⟩
 have := unt_len 35 s
 refine zD (zr (S ((untF 35 s).1)) (zr (S ((untF 35 s).2.1)) (zr (.bool ((untF 35 s).2.2)) (zG (zG (zG (nR (zD (zc (wY ((untF 35 s).1) _ zo) ?_)))))))))
 rintro _ g ⟨rfl, c⟩
 have := qR ((untF 35 s).1)
 refine zD (zc (wY ((untF 35 s).2.1) _ zo) ?_)
 rintro _ f ⟨rfl, b⟩
 have := qR ((untF 35 s).2.1)
 have a := ((a.tr d).tr c).tr b
 exact zG (zG (nQ (zS (yC [(S (trmF ((untF 35 s).1))), (S (trmF ((untF 35 s).2.1)))] ⟨xE (congrArg S (by first | rw [headF_unt] | rw [noteF_unt])) (congrArg S (by first | rw [headF_unt] | rw [noteF_unt])), a⟩))))
theorem xS (s : List UInt8) (w : World) (hs : s.length ≤ 1073741824) :
  Calls Tryz.prog 85 #[(S s)] w (Ret fun v w' => ∃ (q0 : Value), v = q0 ∧ Row w' w.heap.size 9 1 encStr q0 (fieldsF s) ∧ Below w.heap.size w w') := by
 refine wI 25 func85 rfl ?_
 have c := Below.refl w.heap.size w
 refine wR (zG (nW (wR (zD (zc (wY s _ zo) ?_)))))
 rintro _ w1 ⟨rfl, k⟩
 have := qR s
 refine vD (trmF s) ([] : List UInt8) rfl zk zk ?_ ?_
 ·intro h4
  have c := c.tr k
  exact nQ (zT (wR (zG (nQ (zS (zH (yC [(.slice none 0 0)] ⟨(.slice none 0 0), rfl, (Row.nil _ _ _ _ _).cast (by exact (fields_nil za).symm), c⟩)))))))
 intro h5
 refine nQ (zF (zK (zB (wR (zG (nQ (zX ?_)))))))
 have c := c.tr k
 refine yZ (fun m s0 w0 => ∃ (t : List UInt8) (d : List (List UInt8)) (g : Value), (m = t.length) ∧ (s0.ds = []) ∧ ([0, 3].map s0.f = [(S t), g]) ∧ (Row w0 w.heap.size 9 1 encStr g d) ∧ (Below w.heap.size w w0) ∧ (t.length ≤ s.length) ∧ (d.length + t.length ≤ s.length) ∧ (d ++ (splF 59 t).map trmF = (splF 59 s).map trmF) ∧ (trmF s ≠ [])) _ ⟨s, [], (.slice none 0 0), rfl, zk, zk, Row.nil _ _ _ _ _, c, (Nat.le_refl _), zi, rfl, za⟩ ?_
 rintro m6 s7 w8 ⟨t, d, g, hm, o, y, a, c, i1, i5, i3, i4⟩
 refine yS y (zX (wR (zD (zc (wP t 59 _ zo) ?_))))
 rintro _ w9 ⟨rfl, e⟩
 have := unt_len 59 t
 refine zD (zr (S ((untF 59 t).1)) (zr (S ((untF 59 t).2.1)) (zr (.bool ((untF 59 t).2.2)) (yK ((untF 59 t).2.2) ?_ ?_))))
 ·intro ag
  refine zG (zG (zG (nR (zD (zD (zc (wY ((untF 59 t).1) _ zo) ?_))))))
  rintro _ ad ⟨rfl, i⟩
  have := qR ((untF 59 t).1)
  have c := (c.tr e).tr i
  have a := (a.below e).below i
  refine xW el88 w.heap.size g d (trmF ((untF 59 t).1)) c.size a zo zk rfl rfl zk rfl zk zk ?_
  intro u ah j l z
  have c := c.tg c.size l a
  have a := j
  refine zG (nW (wR (zD (wW true (nQ (zF (zK (zB (zQ (zD (zG (zR (zI (zB ⟨_, ?_, ((untF 59 t).2.1), (d ++ [(trmF ((untF 59 t).1))]), u, rfl, o, zk, a, c, zo, ?_, ?_, ?_⟩))))))))))))))
  ·(have := unt_more (b := 59) za; omega)
  ·have := unt_more (b := 59) za; simp only [List.length_append, List.length_cons, List.length_nil]; omega
  ·exact fld_more za i3
  exact i4
 intro ac
 refine zG (zG (zG (nR (zD (zD (zc (wY ((untF 59 t).1) _ zo) ?_))))))
 rintro _ af ⟨rfl, h⟩
 have := qR ((untF 59 t).1)
 have c := (c.tr e).tr h
 have a := (a.below e).below h
 refine xW el88 w.heap.size g d (trmF ((untF 59 t).1)) c.size a zo zk rfl rfl zk rfl zk zk ?_
 intro p ae q n r
 have c := c.tg c.size n a
 have a := q
 exact zG (nW (wR (zD (wW false (nQ (zT (wR (zD (zG (nQ (zS (zH (zP (zH (zP (yC [p] (hd := o) ⟨p, rfl, a.cast (by exact fld_last za i3 i4), c⟩))))))))))))))))
theorem c_furrowref03_Cut (s : List UInt8) (w : World) (hs : s.length ≤ 1073741824) :
  Calls Tryz.prog 82 #[(S s)] w (Ret fun v w' => ∃ (q0 : Value), v = (.tuple #[q0, (S ((cutF s).2))]) ∧ Row w' w.heap.size 9 1 encStr q0 ((cutF s).1) ∧ Below w.heap.size w w') := by
 refine wI 14 func82 rfl ?_
 have b := Below.refl w.heap.size w
 refine wR (zG (zG (nR (zD (zc (c_furrowref03_Parts s _ zo) ?_)))))
 rintro _ f ⟨rfl, d⟩
 have := headF_len s
 have := noteF_len s
 refine zD (zr (S (headF s)) (zr (S (noteF s)) (zG (zG (nR (zD (zc (xS (headF s) _ zo) ?_)))))))
 rintro e g ⟨_, rfl, a, c⟩
 have b := b.tr d
 have a := a.base b.size
 have b := b.tr c
 exact zD (zG (zG (nQ (zS (yC [e, (S (noteF s))] ⟨e, xE rfl (congrArg S (by first | exact (cutF_head s).symm | rfl)), a.cast (by first | exact (cutF_head s).symm | rfl), b⟩)))))
theorem vR (s : List UInt8) (w : World) (hs : s.length ≤ 1073741824) :
  Calls Tryz.prog 84 #[(S s)] w (Ret fun v w' => v = (.bool (nameF s)) ∧ Below w.heap.size w w') := by
 refine wI 47 func84 rfl ?_
 have c := Below.refl w.heap.size w
 refine wR (zG (nW (wR (zG (nQ (zX (yZ (fun m s0 w0 => ∃ (i : Nat), (m = s.length - i) ∧ (s0.ds = []) ∧ ([0, 3].map s0.f = [(S s), (N6 i)]) ∧ (Below w.heap.size w w0) ∧ (i ≤ s.length) ∧ ((s.drop i).all nmB = s.all nmB)) _ ⟨0, rfl, zk, zk, c, by omega, rfl⟩ ?_)))))))
 rintro m1 s2 w3 ⟨i, hm, b, ao, c, i1, d⟩
 refine yS ao (zY (wR (zD (zD (zsl 9 s (nLt i ((s).length) ?_ ?_))))))
 ·intro h4
  refine nQ (zT (zK (zB (zY (zX (wR (zD (zD ?_))))))))
  have hz := zV s i zo; obtain ⟨a, ac⟩ := hz
  have := a.toNat_lt
  refine xM (k := .i64) s i a underlying9 ac zk zk (zG (nR (zD (xJ .u8 ((a.toNat : Nat) : Int) ((65 : Nat) : Int) (65 ≤ a.toNat) rfl (qZ a.toNat 65) zk zk ?_ ?_))))
  ·intro h7
   replace h7 : 65 ≤ a.toNat := by omega
   refine zD (zw (zD (zw (xJ .u8 ((a.toNat : Nat) : Int) ((90 : Nat) : Int) (a.toNat ≤ 90) rfl (wN a.toNat 90) zk zk ?_ ?_))))
   ·intro h8
    replace h8 : a.toNat ≤ 90 := by omega
    refine xG (zD (zs (zs (zs (zs (zs (zs (xG (zD (zs (zs (zs (zs (zs (zs (xG (zD (zs (zs (xG (zD (zs (zs (xG (wW true (nQ (zF (zK (zI (zB (zQ (zD (xL i 1 (zG (zR (zB ⟨_, zo, (i + 1), rfl, b, zk, c, zo, ?_⟩))))))))))))))))))))))))))))))))))))
    exact wX za zo d
   intro h9
   replace h9 : 90 < a.toNat := by omega
   refine xG (zD (zw (zD (zw (xJ .u8 ((a.toNat : Nat) : Int) ((97 : Nat) : Int) (97 ≤ a.toNat) rfl (qZ a.toNat 97) zk zk ?_ ?_)))))
   ·intro a8
    replace a8 : 97 ≤ a.toNat := by omega
    refine zw (zD (zw (zD (zw (xJ .u8 ((a.toNat : Nat) : Int) ((122 : Nat) : Int) (a.toNat ≤ 122) rfl (wN a.toNat 122) zk zk ?_ ?_)))))
    ·intro az
     replace az : a.toNat ≤ 122 := by omega
     refine zw (xG (xF (zD (zs (zs (zs (zs (zs (zs (xG (zD (zs (zs (xG (zD (zs (zs (xG (wW true (nQ (zF (zK (zI (zB (zQ (zD (xL i 1 (zG (zR (zB ⟨_, zo, (i + 1), rfl, b, zk, c, zo, ?_⟩))))))))))))))))))))))))))))))
     exact wX za zo d
    intro a1
    replace a1 : 122 < a.toNat := by omega
    refine zw (xG (xF (zD (zw (zD (zw (xJ .u8 ((a.toNat : Nat) : Int) ((48 : Nat) : Int) (48 ≤ a.toNat) rfl (qZ a.toNat 48) zk zk ?_ ?_)))))))
    ·intro a6
     replace a6 : 48 ≤ a.toNat := by omega
     refine zw (zD (zw (zD (zw (xJ .u8 ((a.toNat : Nat) : Int) ((57 : Nat) : Int) (a.toNat ≤ 57) rfl (wN a.toNat 57) zk zk ?_ ?_)))))
     ·intro bk
      replace bk : a.toNat ≤ 57 := by omega
      refine zw (xG (xF (zD (zs (zs (xG (zD (zs (zs (xG (wW true (nQ (zF (zK (zI (zB (zQ (zD (xL i 1 (zG (zR (zB ⟨_, zo, (i + 1), rfl, b, zk, c, zo, ?_⟩))))))))))))))))))))))
      exact wX za zo d
     intro be
     replace be : 57 < a.toNat := by omega
     refine zw (xG (xF (zD (zw (zD (zw (xJ .u8 ((a.toNat : Nat) : Int) ((95 : Nat) : Int) (a.toNat = 95) rfl (xK a.toNat 95) zk zk ?_ ?_)))))))
     ·intro aw
      replace aw : a.toNat = 95 := by omega
      refine xF (zD (zs (zs (xG (wW true (nQ (zF (zK (zI (zB (zQ (zD (xL i 1 (zG (zR (zB ⟨_, zo, (i + 1), rfl, b, zk, c, zo, ?_⟩))))))))))))))))
      exact wX za zo d
     intro j
     replace j : a.toNat ≠ 95 := by omega
     refine xF (zD (zw (zD (zw (xJ .u8 ((a.toNat : Nat) : Int) ((45 : Nat) : Int) (a.toNat = 45) rfl (xK a.toNat 45) zk zk ?_ ?_)))))
     ·intro ba
      replace ba : a.toNat = 45 := by omega
      refine xF (wW true (nQ (zF (zK (zI (zB (zQ (zD (xL i 1 (zG (zR (zB ⟨_, zo, (i + 1), rfl, b, zk, c, zo, ?_⟩))))))))))))
      exact wX za zo d
     intro al
     replace al : a.toNat ≠ 45 := by omega
     exact xF (wW false (nQ (zT (wR (zG (nQ (zS (zP (zH (zH (zP (zH (yC [(.bool false)] (hd := b) ⟨eb (by exact (nmb_off za zo d).symm), c⟩)))))))))))))
    intro ah
    replace ah : a.toNat < 48 := by omega
    refine zw (zD (zs (zs (zw (xF (xF (zD (zw (zD (zw (xJ .u8 ((a.toNat : Nat) : Int) ((95 : Nat) : Int) (a.toNat = 95) rfl (xK a.toNat 95) zk zk ?_ ?_)))))))))))
    ·intro h
     replace h : a.toNat = 95 := by omega
     refine xF (zD (zs (zs (xG (wW true (nQ (zF (zK (zI (zB (zQ (zD (xL i 1 (zG (zR (zB ⟨_, zo, (i + 1), rfl, b, zk, c, zo, ?_⟩))))))))))))))))
     exact wX za zo d
    intro e
    replace e : a.toNat ≠ 95 := by omega
    refine xF (zD (zw (zD (zw (xJ .u8 ((a.toNat : Nat) : Int) ((45 : Nat) : Int) (a.toNat = 45) rfl (xK a.toNat 45) zk zk ?_ ?_)))))
    ·intro a5
     replace a5 : a.toNat = 45 := by omega
     refine xF (wW true (nQ (zF (zK (zI (zB (zQ (zD (xL i 1 (zG (zR (zB ⟨_, zo, (i + 1), rfl, b, zk, c, zo, ?_⟩))))))))))))
     exact wX za zo d
    intro ab
    replace ab : a.toNat ≠ 45 := by omega
    exact xF (wW false (nQ (zT (wR (zG (nQ (zS (zP (zH (zH (zP (zH (yC [(.bool false)] (hd := b) ⟨eb (by exact (nmb_off za zo d).symm), c⟩)))))))))))))
   intro ay
   replace ay : a.toNat < 97 := by omega
   refine zw (zD (zs (zs (zw (xF (xF (zD (zw (zD (zw (xJ .u8 ((a.toNat : Nat) : Int) ((48 : Nat) : Int) (48 ≤ a.toNat) rfl (qZ a.toNat 48) zk zk ?_ ?_)))))))))))
   ·intro ak
    replace ak : 48 ≤ a.toNat := by omega
    refine zw (zD (zw (zD (zw (xJ .u8 ((a.toNat : Nat) : Int) ((57 : Nat) : Int) (a.toNat ≤ 57) rfl (wN a.toNat 57) zk zk ?_ ?_)))))
    ·intro aj
     replace aj : a.toNat ≤ 57 := by omega
     refine zw (xG (xF (zD (zs (zs (xG (zD (zs (zs (xG (wW true (nQ (zF (zK (zI (zB (zQ (zD (xL i 1 (zG (zR (zB ⟨_, zo, (i + 1), rfl, b, zk, c, zo, ?_⟩))))))))))))))))))))))
     exact wX za zo d
    intro aq
    replace aq : 57 < a.toNat := by omega
    refine zw (xG (xF (zD (zw (zD (zw (xJ .u8 ((a.toNat : Nat) : Int) ((95 : Nat) : Int) (a.toNat = 95) rfl (xK a.toNat 95) zk zk ?_ ?_)))))))
    ·intro n
     replace n : a.toNat = 95 := by omega
     refine xF (zD (zs (zs (xG (wW true (nQ (zF (zK (zI (zB (zQ (zD (xL i 1 (zG (zR (zB ⟨_, zo, (i + 1), rfl, b, zk, c, zo, ?_⟩))))))))))))))))
     exact wX za zo d
    intro av
    replace av : a.toNat ≠ 95 := by omega
    refine xF (zD (zw (zD (zw (xJ .u8 ((a.toNat : Nat) : Int) ((45 : Nat) : Int) (a.toNat = 45) rfl (xK a.toNat 45) zk zk ?_ ?_)))))
    ·intro a3
     replace a3 : a.toNat = 45 := by omega
     refine xF (wW true (nQ (zF (zK (zI (zB (zQ (zD (xL i 1 (zG (zR (zB ⟨_, zo, (i + 1), rfl, b, zk, c, zo, ?_⟩))))))))))))
     exact wX za zo d
    intro am
    replace am : a.toNat ≠ 45 := by omega
    exact xF (wW false (nQ (zT (wR (zG (nQ (zS (zP (zH (zH (zP (zH (yC [(.bool false)] (hd := b) ⟨eb (by exact (nmb_off za zo d).symm), c⟩)))))))))))))
   intro a4
   replace a4 : a.toNat < 48 := by omega
   refine zw (zD (zs (zs (zw (xF (xF (zD (zw (zD (zw (xJ .u8 ((a.toNat : Nat) : Int) ((95 : Nat) : Int) (a.toNat = 95) rfl (xK a.toNat 95) zk zk ?_ ?_)))))))))))
   ·intro u
    replace u : a.toNat = 95 := by omega
    refine xF (zD (zs (zs (xG (wW true (nQ (zF (zK (zI (zB (zQ (zD (xL i 1 (zG (zR (zB ⟨_, zo, (i + 1), rfl, b, zk, c, zo, ?_⟩))))))))))))))))
    exact wX za zo d
   intro q
   replace q : a.toNat ≠ 95 := by omega
   refine xF (zD (zw (zD (zw (xJ .u8 ((a.toNat : Nat) : Int) ((45 : Nat) : Int) (a.toNat = 45) rfl (xK a.toNat 45) zk zk ?_ ?_)))))
   ·intro a9
    replace a9 : a.toNat = 45 := by omega
    refine xF (wW true (nQ (zF (zK (zI (zB (zQ (zD (xL i 1 (zG (zR (zB ⟨_, zo, (i + 1), rfl, b, zk, c, zo, ?_⟩))))))))))))
    exact wX za zo d
   intro ag
   replace ag : a.toNat ≠ 45 := by omega
   exact xF (wW false (nQ (zT (wR (zG (nQ (zS (zP (zH (zH (zP (zH (yC [(.bool false)] (hd := b) ⟨eb (by exact (nmb_off za zo d).symm), c⟩)))))))))))))
  intro aa
  replace aa : a.toNat < 65 := by omega
  refine zD (zs (zs (xF (zD (zw (zD (zw (xJ .u8 ((a.toNat : Nat) : Int) ((97 : Nat) : Int) (97 ≤ a.toNat) rfl (qZ a.toNat 97) zk zk ?_ ?_))))))))
  ·intro ar
   replace ar : 97 ≤ a.toNat := by omega
   refine zw (zD (zw (zD (zw (xJ .u8 ((a.toNat : Nat) : Int) ((122 : Nat) : Int) (a.toNat ≤ 122) rfl (wN a.toNat 122) zk zk ?_ ?_)))))
   ·intro ai
    replace ai : a.toNat ≤ 122 := by omega
    refine zw (xG (xF (zD (zs (zs (zs (zs (zs (zs (xG (zD (zs (zs (xG (zD (zs (zs (xG (wW true (nQ (zF (zK (zI (zB (zQ (zD (xL i 1 (zG (zR (zB ⟨_, zo, (i + 1), rfl, b, zk, c, zo, ?_⟩))))))))))))))))))))))))))))))
    exact wX za zo d
   intro an
   replace an : 122 < a.toNat := by omega
   refine zw (xG (xF (zD (zw (zD (zw (xJ .u8 ((a.toNat : Nat) : Int) ((48 : Nat) : Int) (48 ≤ a.toNat) rfl (qZ a.toNat 48) zk zk ?_ ?_)))))))
   ·intro bb
    replace bb : 48 ≤ a.toNat := by omega
    refine zw (zD (zw (zD (zw (xJ .u8 ((a.toNat : Nat) : Int) ((57 : Nat) : Int) (a.toNat ≤ 57) rfl (wN a.toNat 57) zk zk ?_ ?_)))))
    ·intro a2
     replace a2 : a.toNat ≤ 57 := by omega
     refine zw (xG (xF (zD (zs (zs (xG (zD (zs (zs (xG (wW true (nQ (zF (zK (zI (zB (zQ (zD (xL i 1 (zG (zR (zB ⟨_, zo, (i + 1), rfl, b, zk, c, zo, ?_⟩))))))))))))))))))))))
     exact wX za zo d
    intro ae
    replace ae : 57 < a.toNat := by omega
    refine zw (xG (xF (zD (zw (zD (zw (xJ .u8 ((a.toNat : Nat) : Int) ((95 : Nat) : Int) (a.toNat = 95) rfl (xK a.toNat 95) zk zk ?_ ?_)))))))
    ·intro o
     replace o : a.toNat = 95 := by omega
     refine xF (zD (zs (zs (xG (wW true (nQ (zF (zK (zI (zB (zQ (zD (xL i 1 (zG (zR (zB ⟨_, zo, (i + 1), rfl, b, zk, c, zo, ?_⟩))))))))))))))))
     exact wX za zo d
    intro ap
    replace ap : a.toNat ≠ 95 := by omega
    refine xF (zD (zw (zD (zw (xJ .u8 ((a.toNat : Nat) : Int) ((45 : Nat) : Int) (a.toNat = 45) rfl (xK a.toNat 45) zk zk ?_ ?_)))))
    ·intro bg
     replace bg : a.toNat = 45 := by omega
     refine xF (wW true (nQ (zF (zK (zI (zB (zQ (zD (xL i 1 (zG (zR (zB ⟨_, zo, (i + 1), rfl, b, zk, c, zo, ?_⟩))))))))))))
     exact wX za zo d
    intro bj
    replace bj : a.toNat ≠ 45 := by omega
    exact xF (wW false (nQ (zT (wR (zG (nQ (zS (zP (zH (zH (zP (zH (yC [(.bool false)] (hd := b) ⟨eb (by exact (nmb_off za zo d).symm), c⟩)))))))))))))
   intro r
   replace r : a.toNat < 48 := by omega
   refine zw (zD (zs (zs (zw (xF (xF (zD (zw (zD (zw (xJ .u8 ((a.toNat : Nat) : Int) ((95 : Nat) : Int) (a.toNat = 95) rfl (xK a.toNat 95) zk zk ?_ ?_)))))))))))
   ·intro a0
    replace a0 : a.toNat = 95 := by omega
    refine xF (zD (zs (zs (xG (wW true (nQ (zF (zK (zI (zB (zQ (zD (xL i 1 (zG (zR (zB ⟨_, zo, (i + 1), rfl, b, zk, c, zo, ?_⟩))))))))))))))))
    exact wX za zo d
   intro g
   replace g : a.toNat ≠ 95 := by omega
   refine xF (zD (zw (zD (zw (xJ .u8 ((a.toNat : Nat) : Int) ((45 : Nat) : Int) (a.toNat = 45) rfl (xK a.toNat 45) zk zk ?_ ?_)))))
   ·intro bh
    replace bh : a.toNat = 45 := by omega
    refine xF (wW true (nQ (zF (zK (zI (zB (zQ (zD (xL i 1 (zG (zR (zB ⟨_, zo, (i + 1), rfl, b, zk, c, zo, ?_⟩))))))))))))
    exact wX za zo d
   intro z
   replace z : a.toNat ≠ 45 := by omega
   exact xF (wW false (nQ (zT (wR (zG (nQ (zS (zP (zH (zH (zP (zH (yC [(.bool false)] (hd := b) ⟨eb (by exact (nmb_off za zo d).symm), c⟩)))))))))))))
  intro t
  replace t : a.toNat < 97 := by omega
  refine zw (zD (zs (zs (zw (xF (xF (zD (zw (zD (zw (xJ .u8 ((a.toNat : Nat) : Int) ((48 : Nat) : Int) (48 ≤ a.toNat) rfl (qZ a.toNat 48) zk zk ?_ ?_)))))))))))
  ·intro au
   replace au : 48 ≤ a.toNat := by omega
   refine zw (zD (zw (zD (zw (xJ .u8 ((a.toNat : Nat) : Int) ((57 : Nat) : Int) (a.toNat ≤ 57) rfl (wN a.toNat 57) zk zk ?_ ?_)))))
   ·intro p
    replace p : a.toNat ≤ 57 := by omega
    refine zw (xG (xF (zD (zs (zs (xG (zD (zs (zs (xG (wW true (nQ (zF (zK (zI (zB (zQ (zD (xL i 1 (zG (zR (zB ⟨_, zo, (i + 1), rfl, b, zk, c, zo, ?_⟩))))))))))))))))))))))
    exact wX za zo d
   intro y
   replace y : 57 < a.toNat := by omega
   refine zw (xG (xF (zD (zw (zD (zw (xJ .u8 ((a.toNat : Nat) : Int) ((95 : Nat) : Int) (a.toNat = 95) rfl (xK a.toNat 95) zk zk ?_ ?_)))))))
   ·intro l
    replace l : a.toNat = 95 := by omega
    refine xF (zD (zs (zs (xG (wW true (nQ (zF (zK (zI (zB (zQ (zD (xL i 1 (zG (zR (zB ⟨_, zo, (i + 1), rfl, b, zk, c, zo, ?_⟩))))))))))))))))
    exact wX za zo d
   intro af
   replace af : a.toNat ≠ 95 := by omega
   refine xF (zD (zw (zD (zw (xJ .u8 ((a.toNat : Nat) : Int) ((45 : Nat) : Int) (a.toNat = 45) rfl (xK a.toNat 45) zk zk ?_ ?_)))))
   ·intro ad
    replace ad : a.toNat = 45 := by omega
    refine xF (wW true (nQ (zF (zK (zI (zB (zQ (zD (xL i 1 (zG (zR (zB ⟨_, zo, (i + 1), rfl, b, zk, c, zo, ?_⟩))))))))))))
    exact wX za zo d
   intro bc
   replace bc : a.toNat ≠ 45 := by omega
   exact xF (wW false (nQ (zT (wR (zG (nQ (zS (zP (zH (zH (zP (zH (yC [(.bool false)] (hd := b) ⟨eb (by exact (nmb_off za zo d).symm), c⟩)))))))))))))
  intro bf
  replace bf : a.toNat < 48 := by omega
  refine zw (zD (zs (zs (zw (xF (xF (zD (zw (zD (zw (xJ .u8 ((a.toNat : Nat) : Int) ((95 : Nat) : Int) (a.toNat = 95) rfl (xK a.toNat 95) zk zk ?_ ?_)))))))))))
  ·intro bi
   replace bi : a.toNat = 95 := by omega
   refine xF (zD (zs (zs (xG (wW true (nQ (zF (zK (zI (zB (zQ (zD (xL i 1 (zG (zR (zB ⟨_, zo, (i + 1), rfl, b, zk, c, zo, ?_⟩))))))))))))))))
   exact wX za zo d
  intro ax
  replace ax : a.toNat ≠ 95 := by omega
  refine xF (zD (zw (zD (zw (xJ .u8 ((a.toNat : Nat) : Int) ((45 : Nat) : Int) (a.toNat = 45) rfl (xK a.toNat 45) zk zk ?_ ?_)))))
  ·intro bd
   replace bd : a.toNat = 45 := by omega
   refine xF (wW true (nQ (zF (zK (zI (zB (zQ (zD (xL i 1 (zG (zR (zB ⟨_, zo, (i + 1), rfl, b, zk, c, zo, ?_⟩))))))))))))
   exact wX za zo d
  intro a7
  replace a7 : a.toNat ≠ 45 := by omega
  exact xF (wW false (nQ (zT (wR (zG (nQ (zS (zP (zH (zH (zP (zH (yC [(.bool false)] (hd := b) ⟨eb (by exact (nmb_off za zo d).symm), c⟩)))))))))))))
 intro bn
 refine nQ (zF (yH (zL (zL (yB (zB (wR (zD (L_sne s ([] : List UInt8) rfl zk zk ?_ ?_)))))))))
 ·intro bo
  exact zG (nQ (zS (yC [(.bool true)] (hd := b) ⟨eb (by (rw [nm_end zo d]; simp [*]; done)), c⟩)))
 intro bq
 exact zG (nQ (zS (yC [(.bool false)] (hd := b) ⟨eb (by (rw [nm_end zo d]; simp [*]; done)), c⟩)))
theorem wK (no : Int) (s : List UInt8) (w : World) (hs : s.length ≤ 1073741824) :
  Calls Tryz.prog 47 #[(I6 no), (S s)] w (Ret fun v w' => ∃ (q0 : Value), v = (.tuple #[(Value.agg #[(I6 ((scanF no s).1.1)), (U8 ((scanF no s).1.2.1)), (S ((scanF no s).1.2.2.1)), q0, (S ((scanF no s).1.2.2.2.2))]), (I6 ((scanF no s).2))]) ∧ Row w' w.heap.size 9 1 encStr q0 ((scanF no s).1.2.2.2.1) ∧ Below w.heap.size w w') := by
 refine wI 92 func47 rfl ?_
 have h := Below.refl w.heap.size w
 have eh := noteF_len s
 have ek := headF_len s
 refine wR (zN [(I6 0), (U8 0), (S []), (.slice none 0 0), (S [])] 90 ?_)
 intro b1 w2 b6
 have t := b6.ge h.size
 have c := b6.here
 refine zG (nW (wR (zD (zc (c_furrowref03_Check s _ zo) ?_))))
 rintro _ w4 ⟨rfl, b5⟩
 have := chkF_range s
 refine zD (zr (N6 ((chkF s).1)) (zr (I6 ((chkF s).2)) (zG (zG (nR (zD (zNe .i64 ((chkF s).2) 0 ?_ ?_)))))))
 ·intro h7
  replace c := zA c b5
  refine nQ (zT (wR (zr (Value.agg #[(I6 0), (U8 0), (S []), (.slice none 0 0), (S [])]) (zD (wG [(I6 0), (U8 0), (S []), (.slice none 0 0), (S [])] c ?_)))))
  intro w8 ci
  replace c := ci.here
  refine zG (nQ (zS (zH (yV [.cell 4 90, .tmp 5] [(Value.agg #[(I6 0), (U8 0), (S []), (.slice none 0 0), (S [])]), (I6 ((chkF s).2))] rfl rfl ⟨⟨⟨b1, 0, none⟩, zk, yP [(I6 0), (U8 0), (S []), (.slice none 0 0), (S [])] zk zk (yI c)⟩, zk, trivial⟩ ?_))))
  replace h := ((h.tr b6.below).tr b5).trans (ci.below t)
  exact ⟨(.slice none 0 0), xE (by (rw [scan_bad za]; try rfl; done)) (e6 (by (rw [scan_bad za]; try rfl; done))), (Row.nil _ _ _ _ _).cast (by (rw [scan_bad za]; try rfl; done)), h⟩
 intro ex
 refine nQ (zF (zK (zB (wR (zD (zr (Value.agg #[(I6 no), (U8 0), (S []), (.slice none 0 0), (S [])]) (zN [(I6 0), (U8 0), (S []), (.slice none 0 0), (S [])] 90 ?_)))))))
 intro i e3 f
 replace c := zA c b5
 have b := yY (yA c) f
 replace h := (h.tr b6.below).tr b5
 have d := f.ge h.size
 have a := f.here
 refine wG [(I6 no), (U8 0), (S []), (.slice none 0 0), (S [])] a ?_
 intro dv g
 replace a := g.here
 refine nR (zD (zc (c_furrowref03_Parts s _ zo) ?_))
 rintro _ dw ⟨rfl, e⟩
 have := headF_len s
 have := noteF_len s
 refine zD (zr (S (headF s)) (zr (S (noteF s)) (zG (zG (nW (zX (wR (zD (vD (headF s) ([] : List UInt8) rfl zk zk ?_ ?_)))))))))
 ·intro dy
  refine zD (zw (zD (zw (zsl 9 (noteF s) (zw (nGe (((noteF s)).length) 9 ?_ ?_))))))
  ·intro eb
   refine xG (zD (zw (zD (zw (L_ssto (noteF s) 9 underlying9 zk ⟨.i64, zk⟩ zo (zw (vD (List.take 9 (noteF s)) ([64, 109, 105, 115, 115, 105, 110, 103, 58] : List UInt8) rfl zk zk ?_ ?_)))))))
   ·intro en
    replace a := zA a e
    refine xG (zG (nQ (zT (wR (zr (pt i 1) (z1 1 (U8 3) [(I6 no), (U8 3), (S []), (.slice none 0 0), (S [])] a ?_))))))
    intro ef bt
    replace a := bt.here
    refine nQ (zQ (zD (qD (noteF s) 9 underlying9 zk ⟨.i64, zk⟩ zo (zc (c_furrowref03_Cut (List.drop 9 (noteF s)) _ (by (simp only [List.length_drop, List.length_take]; omega))) ?_))))
    rintro _ ed ⟨ak, rfl, o, bk⟩
    replace h := (((h.tr f.below).trans (g.below d)).tr e).trans (bt.below d)
    replace o := o.base h.size
    replace a := zA a bk
    refine zD (zr ak (zr (S ((cutF (List.drop 9 (noteF s))).2)) (zr (pt i 3) (wL i 3 ak [(I6 no), (U8 3), (S []), (.slice none 0 0), (S [])] [(I6 no), (U8 3), (S []), ak, (S [])] 90 zk zk o.one zk a zi rfl ?_))))
    intro d6 be
    replace o := o.wrote be (o.ne a zi)
    replace a := be.here
    refine zr (pt i 4) (z1 4 (S ((cutF (List.drop 9 (noteF s))).2)) [(I6 no), (U8 3), (S []), ak, (S ((cutF (List.drop 9 (noteF s))).2))] a ?_)
    intro e0 bg
    replace o := o.wrote bg (o.ne a zi)
    replace a := bg.here
    replace c := zC (zC (zA (zC (zA (zC (zA c f.below) g b) e) bt b) bk) be b) bg b
    refine zR (zI (zB (wR (zOW a (xP b1 0 [(I6 no), (U8 3), (S []), ak, (S ((cutF (List.drop 9 (noteF s))).2))] [(I6 0), (U8 0), (S []), (.slice none 0 0), (S [])] [(I6 no), (U8 3), (S []), ak, (S ((cutF (List.drop 9 (noteF s))).2))] 90 zk zk (xC rfl (xC rfl (xC rfl (xC o.one (xC rfl rfl))))) zk c zk rfl ?_)))))
    intro e4 b3
    replace o := o.wrote b3 (o.ne c zi)
    replace c := b3.here
    refine zG (nQ (zS (yV [.cell 4 90, .tmp 5] [(Value.agg #[(I6 no), (U8 3), (S []), ak, (S ((cutF (List.drop 9 (noteF s))).2))]), (I6 0)] rfl rfl ⟨⟨⟨b1, 0, none⟩, zk, yP [(I6 no), (U8 3), (S []), ak, (S ((cutF (List.drop 9 (noteF s))).2))] zk zk (yI c)⟩, zk, trivial⟩ ?_)))
    replace h := (((h.tr bk).trans (be.below d)).trans (bg.below d)).trans (b3.below t)
    exact ⟨ak, xE (by (rw [vM za za (hp_take (p := missT) za)]; try rfl; done)) (e6 (by (rw [vM za za (hp_take (p := missT) za)]; try rfl; done))), o.cast (by (rw [vM za za (hp_take (p := missT) za)]; try rfl; done)), h⟩
   intro ea
   refine xG (zG (nQ (zF (wR (zD (vD (headF s) ([] : List UInt8) rfl zk zk ?_ ?_))))))
   ·intro d7
    replace a := zA a e
    refine zG (nQ (zT (wR (zr (pt i 1) (z1 1 (U8 0) [(I6 no), (U8 0), (S []), (.slice none 0 0), (S [])] a ?_)))))
    intro d9 bo
    replace a := bo.here
    refine nQ (zQ (zD (zr (pt i 4) (z1 4 (S (noteF s)) [(I6 no), (U8 0), (S []), (.slice none 0 0), (S (noteF s))] a ?_))))
    intro ee b4
    replace a := b4.here
    replace c := zC (zC (zA (zC (zA c f.below) g b) e) bo b) b4 b
    refine zR (zI (zB (wR (zOW a (wG [(I6 no), (U8 0), (S []), (.slice none 0 0), (S (noteF s))] c ?_)))))
    intro dx ca
    replace c := ca.here
    refine zG (nQ (zS (yV [.cell 4 90, .tmp 5] [(Value.agg #[(I6 no), (U8 0), (S []), (.slice none 0 0), (S (noteF s))]), (I6 0)] rfl rfl ⟨⟨⟨b1, 0, none⟩, zk, yP [(I6 no), (U8 0), (S []), (.slice none 0 0), (S (noteF s))] zk zk (yI c)⟩, zk, trivial⟩ ?_)))
    replace h := (((((h.tr f.below).trans (g.below d)).tr e).trans (bo.below d)).trans (b4.below d)).trans (ca.below t)
    exact ⟨(.slice none 0 0), xE (by (rw [uB za za (hp_not (p := missT) (.inr za))]; try rfl; done)) (e6 (by (rw [uB za za (hp_not (p := missT) (.inr za))]; try rfl; done))), (Row.nil _ _ _ _ _).cast (by (rw [uB za za (hp_not (p := missT) (.inr za))]; try rfl; done)), h⟩
   intro ey
   refine zG (nQ (zF (wR (zD ?_))))
   have hz := zV (headF s) 0 (by exact List.length_pos_iff.2 za); obtain ⟨a4, ch⟩ := hz
   have := a4.toNat_lt
   refine xM (k := .i64) (headF s) 0 a4 underlying9 ch zk zk (xJ .u8 ((a4.toNat : Nat) : Int) ((64 : Nat) : Int) (a4.toNat = 64) rfl (xK a4.toNat 64) zk zk ?_ ?_)
   ·intro cj
    replace cj : a4.toNat = 64 := by omega
    refine zG (nQ (zT (wR (zD (qD (headF s) 1 underlying9 zk ⟨.i64, zk⟩ (by exact List.length_pos_iff.2 za) (zc (wP (List.drop 1 (headF s)) 58 _ (by (simp only [List.length_drop, List.length_take]; omega))) ?_))))))
    rintro _ d5 ⟨rfl, af⟩
    have := unt_len 58 (List.drop 1 (headF s))
    refine zD (zr (S ((untF 58 (List.drop 1 (headF s))).1)) (zr (S ((untF 58 (List.drop 1 (headF s))).2.1)) (zr (.bool ((untF 58 (List.drop 1 (headF s))).2.2)) (yK ((untF 58 (List.drop 1 (headF s))).2.2) ?_ ?_))))
    ·intro d8
     refine zG (zG (zG (nW (wR (zD (wW true (zD (zw (zD (zw (zc (vR ((untF 58 (List.drop 1 (headF s))).1) _ (by (simp only [List.length_drop] at *; omega))) ?_)))))))))))
     rintro _ du ⟨rfl, av⟩
     refine yK (nameF ((untF 58 (List.drop 1 (headF s))).1)) ?_ ?_
     ·intro es
      replace a := zA (zA (zA a e) af) av
      refine zw (wW true (xF (nQ (zF (zK (zB (wR (zr (pt i 1) (z1 1 (U8 2) [(I6 no), (U8 2), (S []), (.slice none 0 0), (S [])] a ?_)))))))))
      intro d2 bz
      replace a := bz.here
      refine nR (zD (zr (pt i 2) (z1 2 (S ((untF 58 (List.drop 1 (headF s))).1)) [(I6 no), (U8 2), (S ((untF 58 (List.drop 1 (headF s))).1)), (.slice none 0 0), (S [])] a ?_)))
      intro em bs
      replace a := bs.here
      refine nR (zD (zc (xS ((untF 58 (List.drop 1 (headF s))).2.1) _ (by (simp only [List.length_drop] at *; omega))) ?_))
      rintro ar eu ⟨_, rfl, r, br⟩
      replace h := ((((((h.tr f.below).trans (g.below d)).tr e).tr af).tr av).trans (bz.below d)).trans (bs.below d)
      replace r := r.base h.size
      replace a := zA a br
      refine zr (pt i 3) (wL i 3 ar [(I6 no), (U8 2), (S ((untF 58 (List.drop 1 (headF s))).1)), (.slice none 0 0), (S [])] [(I6 no), (U8 2), (S ((untF 58 (List.drop 1 (headF s))).1)), ar, (S [])] 90 zk zk r.one zk a zi rfl ?_)
      intro ep bj
      replace r := r.wrote bj (r.ne a zi)
      replace a := bj.here
      refine nQ (zQ (zD (zr (pt i 4) (z1 4 (S (noteF s)) [(I6 no), (U8 2), (S ((untF 58 (List.drop 1 (headF s))).1)), ar, (S (noteF s))] a ?_))))
      intro d3 bh
      replace r := r.wrote bh (r.ne a zi)
      replace a := bh.here
      replace c := zC (zC (zA (zC (zC (zA (zA (zA (zC (zA c f.below) g b) e) af) av) bz b) bs b) br) bj b) bh b
      refine zR (zI (zB (wR (zOW a (xP b1 0 [(I6 no), (U8 2), (S ((untF 58 (List.drop 1 (headF s))).1)), ar, (S (noteF s))] [(I6 0), (U8 0), (S []), (.slice none 0 0), (S [])] [(I6 no), (U8 2), (S ((untF 58 (List.drop 1 (headF s))).1)), ar, (S (noteF s))] 90 zk zk (xC rfl (xC rfl (xC rfl (xC r.one (xC rfl rfl))))) zk c zk rfl ?_)))))
      intro dz bn
      replace r := r.wrote bn (r.ne c zi)
      replace c := bn.here
      refine zG (nQ (zS (yV [.cell 4 90, .tmp 5] [(Value.agg #[(I6 no), (U8 2), (S ((untF 58 (List.drop 1 (headF s))).1)), ar, (S (noteF s))]), (I6 0)] rfl rfl ⟨⟨⟨b1, 0, none⟩, zk, yP [(I6 no), (U8 2), (S ((untF 58 (List.drop 1 (headF s))).1)), ar, (S (noteF s))] zk zk (yI c)⟩, zk, trivial⟩ ?_)))
      replace h := (((h.tr br).trans (bj.below d)).trans (bh.below d)).trans (bn.below t)
      exact ⟨ar, xE (by exact absurd za (by assumption : headF s ≠ [])) (e6 (by exact absurd za (by assumption : headF s ≠ []))), r.cast (by exact absurd za (by assumption : headF s ≠ [])), h⟩
     intro d0
     replace c := zA (zA (zA (zC (zA c f.below) g b) e) af) av
     refine zw (wW false (xF (nQ (zT (wR (zr (Value.agg #[(I6 0), (U8 0), (S []), (.slice none 0 0), (S [])]) (wG [(I6 0), (U8 0), (S []), (.slice none 0 0), (S [])] c ?_)))))))
     intro ev b8
     replace c := b8.here
     refine zG (nQ (zS (zH (zP (zH (yV [.cell 4 90, .tmp 5] [(Value.agg #[(I6 0), (U8 0), (S []), (.slice none 0 0), (S [])]), (I6 33)] rfl rfl ⟨⟨⟨b1, 0, none⟩, zk, yP [(I6 0), (U8 0), (S []), (.slice none 0 0), (S [])] zk zk (yI c)⟩, zk, trivial⟩ ?_))))))
     replace h := (((((h.tr f.below).trans (g.below d)).tr e).tr af).tr av).trans (b8.below t)
     exact ⟨(.slice none 0 0), xE (by exact absurd za (by assumption : headF s ≠ [])) (e6 (by exact absurd za (by assumption : headF s ≠ []))), (Row.nil _ _ _ _ _).cast (by exact absurd za (by assumption : headF s ≠ [])), h⟩
    intro er
    replace c := zA (zA (zC (zA c f.below) g b) e) af
    refine zG (zG (zG (nW (wR (zD (wW false (zD (zs (zs (zs (xG (nQ (zT (wR (zr (Value.agg #[(I6 0), (U8 0), (S []), (.slice none 0 0), (S [])]) (wG [(I6 0), (U8 0), (S []), (.slice none 0 0), (S [])] c ?_))))))))))))))))
    intro eo b9
    replace c := b9.here
    refine zG (nQ (zS (zH (zP (zH (yV [.cell 4 90, .tmp 5] [(Value.agg #[(I6 0), (U8 0), (S []), (.slice none 0 0), (S [])]), (I6 33)] rfl rfl ⟨⟨⟨b1, 0, none⟩, zk, yP [(I6 0), (U8 0), (S []), (.slice none 0 0), (S [])] zk zk (yI c)⟩, zk, trivial⟩ ?_))))))
    replace h := ((((h.tr f.below).trans (g.below d)).tr e).tr af).trans (b9.below t)
    exact ⟨(.slice none 0 0), xE (by exact absurd za (by assumption : headF s ≠ [])) (e6 (by exact absurd za (by assumption : headF s ≠ []))), (Row.nil _ _ _ _ _).cast (by exact absurd za (by assumption : headF s ≠ [])), h⟩
   intro ck
   replace ck : a4.toNat ≠ 64 := by omega
   replace a := zA a e
   refine zG (nQ (zF (wR (zr (pt i 1) (z1 1 (U8 1) [(I6 no), (U8 1), (S []), (.slice none 0 0), (S [])] a ?_)))))
   intro d1 bw
   replace a := bw.here
   refine nR (zD (zc (xS (headF s) _ zo) ?_))
   rintro au e1 ⟨_, rfl, q, bx⟩
   replace h := (((h.tr f.below).trans (g.below d)).tr e).trans (bw.below d)
   replace q := q.base h.size
   replace a := zA a bx
   refine zr (pt i 3) (wL i 3 au [(I6 no), (U8 1), (S []), (.slice none 0 0), (S [])] [(I6 no), (U8 1), (S []), au, (S [])] 90 zk zk q.one zk a zi rfl ?_)
   intro ej bi
   replace q := q.wrote bi (q.ne a zi)
   replace a := bi.here
   refine nQ (zQ (zD (zr (pt i 4) (z1 4 (S (noteF s)) [(I6 no), (U8 1), (S []), au, (S (noteF s))] a ?_))))
   intro e2 bf
   replace q := q.wrote bf (q.ne a zi)
   replace a := bf.here
   replace c := zC (zC (zA (zC (zA (zC (zA c f.below) g b) e) bw b) bx) bi b) bf b
   refine zR (zI (zB (wR (zOW a (xP b1 0 [(I6 no), (U8 1), (S []), au, (S (noteF s))] [(I6 0), (U8 0), (S []), (.slice none 0 0), (S [])] [(I6 no), (U8 1), (S []), au, (S (noteF s))] 90 zk zk (xC rfl (xC rfl (xC rfl (xC q.one (xC rfl rfl))))) zk c zk rfl ?_)))))
   intro eg b0
   replace q := q.wrote b0 (q.ne c zi)
   replace c := b0.here
   refine zG (nQ (zS (yV [.cell 4 90, .tmp 5] [(Value.agg #[(I6 no), (U8 1), (S []), au, (S (noteF s))]), (I6 0)] rfl rfl ⟨⟨⟨b1, 0, none⟩, zk, yP [(I6 no), (U8 1), (S []), au, (S (noteF s))] zk zk (yI c)⟩, zk, trivial⟩ ?_)))
   replace h := (((h.tr bx).trans (bi.below d)).trans (bf.below d)).trans (b0.below t)
   exact ⟨au, xE (by exact absurd za (by assumption : headF s ≠ [])) (e6 (by exact absurd za (by assumption : headF s ≠ []))), q.cast (by exact absurd za (by assumption : headF s ≠ [])), h⟩
  intro et
  refine xG (zD (zs (zs (zs (xF (zG (nQ (zF (wR (zD (vD (headF s) ([] : List UInt8) rfl zk zk ?_ ?_)))))))))))
  ·intro ew
   replace a := zA a e
   refine zG (nQ (zT (wR (zr (pt i 1) (z1 1 (U8 0) [(I6 no), (U8 0), (S []), (.slice none 0 0), (S [])] a ?_)))))
   intro el bl
   replace a := bl.here
   refine nQ (zQ (zD (zr (pt i 4) (z1 4 (S (noteF s)) [(I6 no), (U8 0), (S []), (.slice none 0 0), (S (noteF s))] a ?_))))
   intro ez bu
   replace a := bu.here
   replace c := zC (zC (zA (zC (zA c f.below) g b) e) bl b) bu b
   refine zR (zI (zB (wR (zOW a (wG [(I6 no), (U8 0), (S []), (.slice none 0 0), (S (noteF s))] c ?_)))))
   intro ei b7
   replace c := b7.here
   refine zG (nQ (zS (yV [.cell 4 90, .tmp 5] [(Value.agg #[(I6 no), (U8 0), (S []), (.slice none 0 0), (S (noteF s))]), (I6 0)] rfl rfl ⟨⟨⟨b1, 0, none⟩, zk, yP [(I6 no), (U8 0), (S []), (.slice none 0 0), (S (noteF s))] zk zk (yI c)⟩, zk, trivial⟩ ?_)))
   replace h := (((((h.tr f.below).trans (g.below d)).tr e).trans (bl.below d)).trans (bu.below d)).trans (b7.below t)
   exact ⟨(.slice none 0 0), xE (by (rw [uB za za (hp_not (p := missT) (.inl za))]; try rfl; done)) (e6 (by (rw [uB za za (hp_not (p := missT) (.inl za))]; try rfl; done))), (Row.nil _ _ _ _ _).cast (by (rw [uB za za (hp_not (p := missT) (.inl za))]; try rfl; done)), h⟩
  intro ec
  refine zG (nQ (zF (wR (zD ?_))))
  have hz := zV (headF s) 0 (by exact List.length_pos_iff.2 za); obtain ⟨a8, cg⟩ := hz
  have := a8.toNat_lt
  refine xM (k := .i64) (headF s) 0 a8 underlying9 cg zk zk (xJ .u8 ((a8.toNat : Nat) : Int) ((64 : Nat) : Int) (a8.toNat = 64) rfl (xK a8.toNat 64) zk zk ?_ ?_)
  ·intro cl
   replace cl : a8.toNat = 64 := by omega
   refine zG (nQ (zT (wR (zD (qD (headF s) 1 underlying9 zk ⟨.i64, zk⟩ (by exact List.length_pos_iff.2 za) (zc (wP (List.drop 1 (headF s)) 58 _ (by (simp only [List.length_drop, List.length_take]; omega))) ?_))))))
   rintro _ d4 ⟨rfl, u⟩
   have := unt_len 58 (List.drop 1 (headF s))
   refine zD (zr (S ((untF 58 (List.drop 1 (headF s))).1)) (zr (S ((untF 58 (List.drop 1 (headF s))).2.1)) (zr (.bool ((untF 58 (List.drop 1 (headF s))).2.2)) (yK ((untF 58 (List.drop 1 (headF s))).2.2) ?_ ?_))))
   ·intro c8
    refine zG (zG (zG (nW (wR (zD (wW true (zD (zw (zD (zw (zc (vR ((untF 58 (List.drop 1 (headF s))).1) _ (by (simp only [List.length_drop] at *; omega))) ?_)))))))))))
    rintro _ dq ⟨rfl, ah⟩
    refine yK (nameF ((untF 58 (List.drop 1 (headF s))).1)) ?_ ?_
    ·intro cx
     replace a := zA (zA (zA a e) u) ah
     refine zw (wW true (xF (nQ (zF (zK (zB (wR (zr (pt i 1) (z1 1 (U8 2) [(I6 no), (U8 2), (S []), (.slice none 0 0), (S [])] a ?_)))))))))
     intro ct az
     replace a := az.here
     refine nR (zD (zr (pt i 2) (z1 2 (S ((untF 58 (List.drop 1 (headF s))).1)) [(I6 no), (U8 2), (S ((untF 58 (List.drop 1 (headF s))).1)), (.slice none 0 0), (S [])] a ?_)))
     intro dp a5
     replace a := a5.here
     refine nR (zD (zc (xS ((untF 58 (List.drop 1 (headF s))).2.1) _ (by (simp only [List.length_drop] at *; omega))) ?_))
     rintro ac da ⟨_, rfl, n, bb⟩
     replace h := ((((((h.tr f.below).trans (g.below d)).tr e).tr u).tr ah).trans (az.below d)).trans (a5.below d)
     replace n := n.base h.size
     replace a := zA a bb
     refine zr (pt i 3) (wL i 3 ac [(I6 no), (U8 2), (S ((untF 58 (List.drop 1 (headF s))).1)), (.slice none 0 0), (S [])] [(I6 no), (U8 2), (S ((untF 58 (List.drop 1 (headF s))).1)), ac, (S [])] 90 zk zk n.one zk a zi rfl ?_)
     intro c9 an
     replace n := n.wrote an (n.ne a zi)
     replace a := an.here
     refine nQ (zQ (zD (zr (pt i 4) (z1 4 (S (noteF s)) [(I6 no), (U8 2), (S ((untF 58 (List.drop 1 (headF s))).1)), ac, (S (noteF s))] a ?_))))
     intro c1 ap
     replace n := n.wrote ap (n.ne a zi)
     replace a := ap.here
     replace c := zC (zC (zA (zC (zC (zA (zA (zA (zC (zA c f.below) g b) e) u) ah) az b) a5 b) bb) an b) ap b
     refine zR (zI (zB (wR (zOW a (xP b1 0 [(I6 no), (U8 2), (S ((untF 58 (List.drop 1 (headF s))).1)), ac, (S (noteF s))] [(I6 0), (U8 0), (S []), (.slice none 0 0), (S [])] [(I6 no), (U8 2), (S ((untF 58 (List.drop 1 (headF s))).1)), ac, (S (noteF s))] 90 zk zk (xC rfl (xC rfl (xC rfl (xC n.one (xC rfl rfl))))) zk c zk rfl ?_)))))
     intro cr a0
     replace n := n.wrote a0 (n.ne c zi)
     replace c := a0.here
     refine zG (nQ (zS (yV [.cell 4 90, .tmp 5] [(Value.agg #[(I6 no), (U8 2), (S ((untF 58 (List.drop 1 (headF s))).1)), ac, (S (noteF s))]), (I6 0)] rfl rfl ⟨⟨⟨b1, 0, none⟩, zk, yP [(I6 no), (U8 2), (S ((untF 58 (List.drop 1 (headF s))).1)), ac, (S (noteF s))] zk zk (yI c)⟩, zk, trivial⟩ ?_)))
     replace h := (((h.tr bb).trans (an.below d)).trans (ap.below d)).trans (a0.below t)
     exact ⟨ac, xE (by exact absurd za (by assumption : headF s ≠ [])) (e6 (by exact absurd za (by assumption : headF s ≠ []))), n.cast (by exact absurd za (by assumption : headF s ≠ [])), h⟩
    intro dt
    replace c := zA (zA (zA (zC (zA c f.below) g b) e) u) ah
    refine zw (wW false (xF (nQ (zT (wR (zr (Value.agg #[(I6 0), (U8 0), (S []), (.slice none 0 0), (S [])]) (wG [(I6 0), (U8 0), (S []), (.slice none 0 0), (S [])] c ?_)))))))
    intro co bp
    replace c := bp.here
    refine zG (nQ (zS (zH (zP (zH (yV [.cell 4 90, .tmp 5] [(Value.agg #[(I6 0), (U8 0), (S []), (.slice none 0 0), (S [])]), (I6 33)] rfl rfl ⟨⟨⟨b1, 0, none⟩, zk, yP [(I6 0), (U8 0), (S []), (.slice none 0 0), (S [])] zk zk (yI c)⟩, zk, trivial⟩ ?_))))))
    replace h := (((((h.tr f.below).trans (g.below d)).tr e).tr u).tr ah).trans (bp.below t)
    exact ⟨(.slice none 0 0), xE (by exact absurd za (by assumption : headF s ≠ [])) (e6 (by exact absurd za (by assumption : headF s ≠ []))), (Row.nil _ _ _ _ _).cast (by exact absurd za (by assumption : headF s ≠ [])), h⟩
   intro cq
   replace c := zA (zA (zC (zA c f.below) g b) e) u
   refine zG (zG (zG (nW (wR (zD (wW false (zD (zs (zs (zs (xG (nQ (zT (wR (zr (Value.agg #[(I6 0), (U8 0), (S []), (.slice none 0 0), (S [])]) (wG [(I6 0), (U8 0), (S []), (.slice none 0 0), (S [])] c ?_))))))))))))))))
   intro cs bq
   replace c := bq.here
   refine zG (nQ (zS (zH (zP (zH (yV [.cell 4 90, .tmp 5] [(Value.agg #[(I6 0), (U8 0), (S []), (.slice none 0 0), (S [])]), (I6 33)] rfl rfl ⟨⟨⟨b1, 0, none⟩, zk, yP [(I6 0), (U8 0), (S []), (.slice none 0 0), (S [])] zk zk (yI c)⟩, zk, trivial⟩ ?_))))))
   replace h := ((((h.tr f.below).trans (g.below d)).tr e).tr u).trans (bq.below t)
   exact ⟨(.slice none 0 0), xE (by exact absurd za (by assumption : headF s ≠ [])) (e6 (by exact absurd za (by assumption : headF s ≠ []))), (Row.nil _ _ _ _ _).cast (by exact absurd za (by assumption : headF s ≠ [])), h⟩
  intro cd
  replace cd : a8.toNat ≠ 64 := by omega
  replace a := zA a e
  refine zG (nQ (zF (wR (zr (pt i 1) (z1 1 (U8 1) [(I6 no), (U8 1), (S []), (.slice none 0 0), (S [])] a ?_)))))
  intro cp ax
  replace a := ax.here
  refine nR (zD (zc (xS (headF s) _ zo) ?_))
  rintro ab dl ⟨_, rfl, l, ay⟩
  replace h := (((h.tr f.below).trans (g.below d)).tr e).trans (ax.below d)
  replace l := l.base h.size
  replace a := zA a ay
  refine zr (pt i 3) (wL i 3 ab [(I6 no), (U8 1), (S []), (.slice none 0 0), (S [])] [(I6 no), (U8 1), (S []), ab, (S [])] 90 zk zk l.one zk a zi rfl ?_)
  intro dh aq
  replace l := l.wrote aq (l.ne a zi)
  replace a := aq.here
  refine nQ (zQ (zD (zr (pt i 4) (z1 4 (S (noteF s)) [(I6 no), (U8 1), (S []), ab, (S (noteF s))] a ?_))))
  intro de al
  replace l := l.wrote al (l.ne a zi)
  replace a := al.here
  replace c := zC (zC (zA (zC (zA (zC (zA c f.below) g b) e) ax b) ay) aq b) al b
  refine zR (zI (zB (wR (zOW a (xP b1 0 [(I6 no), (U8 1), (S []), ab, (S (noteF s))] [(I6 0), (U8 0), (S []), (.slice none 0 0), (S [])] [(I6 no), (U8 1), (S []), ab, (S (noteF s))] 90 zk zk (xC rfl (xC rfl (xC rfl (xC l.one (xC rfl rfl))))) zk c zk rfl ?_)))))
  intro cv a6
  replace l := l.wrote a6 (l.ne c zi)
  replace c := a6.here
  refine zG (nQ (zS (yV [.cell 4 90, .tmp 5] [(Value.agg #[(I6 no), (U8 1), (S []), ab, (S (noteF s))]), (I6 0)] rfl rfl ⟨⟨⟨b1, 0, none⟩, zk, yP [(I6 no), (U8 1), (S []), ab, (S (noteF s))] zk zk (yI c)⟩, zk, trivial⟩ ?_)))
  replace h := (((h.tr ay).trans (aq.below d)).trans (al.below d)).trans (a6.below t)
  exact ⟨ab, xE (by exact absurd za (by assumption : headF s ≠ [])) (e6 (by exact absurd za (by assumption : headF s ≠ []))), l.cast (by exact absurd za (by assumption : headF s ≠ [])), h⟩
 intro c7
 refine zD (zs (zs (zs (xF (zD (zs (zs (zs (xF (zG (nQ (zF (wR (zD (vD (headF s) ([] : List UInt8) rfl zk zk ?_ ?_)))))))))))))))
 ·intro c5
  replace a := zA a e
  refine zG (nQ (zT (wR (zr (pt i 1) (z1 1 (U8 0) [(I6 no), (U8 0), (S []), (.slice none 0 0), (S [])] a ?_)))))
  intro cu a2
  replace a := a2.here
  refine nQ (zQ (zD (zr (pt i 4) (z1 4 (S (noteF s)) [(I6 no), (U8 0), (S []), (.slice none 0 0), (S (noteF s))] a ?_))))
  intro dg a1
  replace a := a1.here
  replace c := zC (zC (zA (zC (zA c f.below) g b) e) a2 b) a1 b
  refine zR (zI (zB (wR (zOW a (wG [(I6 no), (U8 0), (S []), (.slice none 0 0), (S (noteF s))] c ?_)))))
  intro dd bv
  replace c := bv.here
  refine zG (nQ (zS (yV [.cell 4 90, .tmp 5] [(Value.agg #[(I6 no), (U8 0), (S []), (.slice none 0 0), (S (noteF s))]), (I6 0)] rfl rfl ⟨⟨⟨b1, 0, none⟩, zk, yP [(I6 no), (U8 0), (S []), (.slice none 0 0), (S (noteF s))] zk zk (yI c)⟩, zk, trivial⟩ ?_)))
  replace h := (((((h.tr f.below).trans (g.below d)).tr e).trans (a2.below d)).trans (a1.below d)).trans (bv.below t)
  exact ⟨(.slice none 0 0), xE (by exact absurd za (by assumption : headF s ≠ [])) (e6 (by exact absurd za (by assumption : headF s ≠ []))), (Row.nil _ _ _ _ _).cast (by exact absurd za (by assumption : headF s ≠ [])), h⟩
 intro dn
 refine zG (nQ (zF (wR (zD ?_))))
 have hz := zV (headF s) 0 (by exact List.length_pos_iff.2 za); obtain ⟨ae, cb⟩ := hz
 have := ae.toNat_lt
 refine xM (k := .i64) (headF s) 0 ae underlying9 cb zk zk (xJ .u8 ((ae.toNat : Nat) : Int) ((64 : Nat) : Int) (ae.toNat = 64) rfl (xK ae.toNat 64) zk zk ?_ ?_)
 ·intro cf
  replace cf : ae.toNat = 64 := by omega
  refine zG (nQ (zT (wR (zD (qD (headF s) 1 underlying9 zk ⟨.i64, zk⟩ (by exact List.length_pos_iff.2 za) (zc (wP (List.drop 1 (headF s)) 58 _ (by (simp only [List.length_drop, List.length_take]; omega))) ?_))))))
  rintro _ c0 ⟨rfl, y⟩
  have := unt_len 58 (List.drop 1 (headF s))
  refine zD (zr (S ((untF 58 (List.drop 1 (headF s))).1)) (zr (S ((untF 58 (List.drop 1 (headF s))).2.1)) (zr (.bool ((untF 58 (List.drop 1 (headF s))).2.2)) (yK ((untF 58 (List.drop 1 (headF s))).2.2) ?_ ?_))))
  ·intro cy
   refine zG (zG (zG (nW (wR (zD (wW true (zD (zw (zD (zw (zc (vR ((untF 58 (List.drop 1 (headF s))).1) _ (by (simp only [List.length_drop] at *; omega))) ?_)))))))))))
   rintro _ db ⟨rfl, ag⟩
   refine yK (nameF ((untF 58 (List.drop 1 (headF s))).1)) ?_ ?_
   ·intro c6
    replace a := zA (zA (zA a e) y) ag
    refine zw (wW true (xF (nQ (zF (zK (zB (wR (zr (pt i 1) (z1 1 (U8 2) [(I6 no), (U8 2), (S []), (.slice none 0 0), (S [])] a ?_)))))))))
    intro df ba
    replace a := ba.here
    refine nR (zD (zr (pt i 2) (z1 2 (S ((untF 58 (List.drop 1 (headF s))).1)) [(I6 no), (U8 2), (S ((untF 58 (List.drop 1 (headF s))).1)), (.slice none 0 0), (S [])] a ?_)))
    intro dc bd
    replace a := bd.here
    refine nR (zD (zc (xS ((untF 58 (List.drop 1 (headF s))).2.1) _ (by (simp only [List.length_drop] at *; omega))) ?_))
    rintro z cw ⟨_, rfl, j, bc⟩
    replace h := ((((((h.tr f.below).trans (g.below d)).tr e).tr y).tr ag).trans (ba.below d)).trans (bd.below d)
    replace j := j.base h.size
    replace a := zA a bc
    refine zr (pt i 3) (wL i 3 z [(I6 no), (U8 2), (S ((untF 58 (List.drop 1 (headF s))).1)), (.slice none 0 0), (S [])] [(I6 no), (U8 2), (S ((untF 58 (List.drop 1 (headF s))).1)), z, (S [])] 90 zk zk j.one zk a zi rfl ?_)
    intro c4 ai
    replace j := j.wrote ai (j.ne a zi)
    replace a := ai.here
    refine nQ (zQ (zD (zr (pt i 4) (z1 4 (S (noteF s)) [(I6 no), (U8 2), (S ((untF 58 (List.drop 1 (headF s))).1)), z, (S (noteF s))] a ?_))))
    intro c2 am
    replace j := j.wrote am (j.ne a zi)
    replace a := am.here
    replace c := zC (zC (zA (zC (zC (zA (zA (zA (zC (zA c f.below) g b) e) y) ag) ba b) bd b) bc) ai b) am b
    refine zR (zI (zB (wR (zOW a (xP b1 0 [(I6 no), (U8 2), (S ((untF 58 (List.drop 1 (headF s))).1)), z, (S (noteF s))] [(I6 0), (U8 0), (S []), (.slice none 0 0), (S [])] [(I6 no), (U8 2), (S ((untF 58 (List.drop 1 (headF s))).1)), z, (S (noteF s))] 90 zk zk (xC rfl (xC rfl (xC rfl (xC j.one (xC rfl rfl))))) zk c zk rfl ?_)))))
    intro dj a3
    replace j := j.wrote a3 (j.ne c zi)
    replace c := a3.here
    refine zG (nQ (zS (yV [.cell 4 90, .tmp 5] [(Value.agg #[(I6 no), (U8 2), (S ((untF 58 (List.drop 1 (headF s))).1)), z, (S (noteF s))]), (I6 0)] rfl rfl ⟨⟨⟨b1, 0, none⟩, zk, yP [(I6 no), (U8 2), (S ((untF 58 (List.drop 1 (headF s))).1)), z, (S (noteF s))] zk zk (yI c)⟩, zk, trivial⟩ ?_)))
    replace h := (((h.tr bc).trans (ai.below d)).trans (am.below d)).trans (a3.below t)
    exact ⟨z, xE (by (rw [scanR_order za (hp_one za za) za za]; try rfl; done)) (e6 (by (rw [scanR_order za (hp_one za za) za za]; try rfl; done))), j.cast (by (rw [scanR_order za (hp_one za za) za za]; try rfl; done)), h⟩
   intro dm
   replace c := zA (zA (zA (zC (zA c f.below) g b) e) y) ag
   refine zw (wW false (xF (nQ (zT (wR (zr (Value.agg #[(I6 0), (U8 0), (S []), (.slice none 0 0), (S [])]) (wG [(I6 0), (U8 0), (S []), (.slice none 0 0), (S [])] c ?_)))))))
   intro cn bm
   replace c := bm.here
   refine zG (nQ (zS (zH (zP (zH (yV [.cell 4 90, .tmp 5] [(Value.agg #[(I6 0), (U8 0), (S []), (.slice none 0 0), (S [])]), (I6 33)] rfl rfl ⟨⟨⟨b1, 0, none⟩, zk, yP [(I6 0), (U8 0), (S []), (.slice none 0 0), (S [])] zk zk (yI c)⟩, zk, trivial⟩ ?_))))))
   replace h := (((((h.tr f.below).trans (g.below d)).tr e).tr y).tr ag).trans (bm.below t)
   exact ⟨(.slice none 0 0), xE (by (rw [qX za (hp_one za za) (.inr za)]; try rfl; done)) (e6 (by (rw [qX za (hp_one za za) (.inr za)]; try rfl; done))), (Row.nil _ _ _ _ _).cast (by (rw [qX za (hp_one za za) (.inr za)]; try rfl; done)), h⟩
  intro cz
  replace c := zA (zA (zC (zA c f.below) g b) e) y
  refine zG (zG (zG (nW (wR (zD (wW false (zD (zs (zs (zs (xG (nQ (zT (wR (zr (Value.agg #[(I6 0), (U8 0), (S []), (.slice none 0 0), (S [])]) (wG [(I6 0), (U8 0), (S []), (.slice none 0 0), (S [])] c ?_))))))))))))))))
  intro di b2
  replace c := b2.here
  refine zG (nQ (zS (zH (zP (zH (yV [.cell 4 90, .tmp 5] [(Value.agg #[(I6 0), (U8 0), (S []), (.slice none 0 0), (S [])]), (I6 33)] rfl rfl ⟨⟨⟨b1, 0, none⟩, zk, yP [(I6 0), (U8 0), (S []), (.slice none 0 0), (S [])] zk zk (yI c)⟩, zk, trivial⟩ ?_))))))
  replace h := ((((h.tr f.below).trans (g.below d)).tr e).tr y).trans (b2.below t)
  exact ⟨(.slice none 0 0), xE (by (rw [qX za (hp_one za za) (.inl za)]; try rfl; done)) (e6 (by (rw [qX za (hp_one za za) (.inl za)]; try rfl; done))), (Row.nil _ _ _ _ _).cast (by (rw [qX za (hp_one za za) (.inl za)]; try rfl; done)), h⟩
 intro ce
 replace ce : ae.toNat ≠ 64 := by omega
 replace a := zA a e
 refine zG (nQ (zF (wR (zr (pt i 1) (z1 1 (U8 1) [(I6 no), (U8 1), (S []), (.slice none 0 0), (S [])] a ?_)))))
 intro c3 a9
 replace a := a9.here
 refine nR (zD (zc (xS (headF s) _ zo) ?_))
 rintro aa ds ⟨_, rfl, m, aw⟩
 replace h := (((h.tr f.below).trans (g.below d)).tr e).trans (a9.below d)
 replace m := m.base h.size
 replace a := zA a aw
 refine zr (pt i 3) (wL i 3 aa [(I6 no), (U8 1), (S []), (.slice none 0 0), (S [])] [(I6 no), (U8 1), (S []), aa, (S [])] 90 zk zk m.one zk a zi rfl ?_)
 intro cm aj
 replace m := m.wrote aj (m.ne a zi)
 replace a := aj.here
 refine nQ (zQ (zD (zr (pt i 4) (z1 4 (S (noteF s)) [(I6 no), (U8 1), (S []), aa, (S (noteF s))] a ?_))))
 intro dk ao
 replace m := m.wrote ao (m.ne a zi)
 replace a := ao.here
 replace c := zC (zC (zA (zC (zA (zC (zA c f.below) g b) e) a9 b) aw) aj b) ao b
 refine zR (zI (zB (wR (zOW a (xP b1 0 [(I6 no), (U8 1), (S []), aa, (S (noteF s))] [(I6 0), (U8 0), (S []), (.slice none 0 0), (S [])] [(I6 no), (U8 1), (S []), aa, (S (noteF s))] 90 zk zk (xC rfl (xC rfl (xC rfl (xC m.one (xC rfl rfl))))) zk c zk rfl ?_)))))
 intro dr a7
 replace m := m.wrote a7 (m.ne c zi)
 replace c := a7.here
 refine zG (nQ (zS (yV [.cell 4 90, .tmp 5] [(Value.agg #[(I6 no), (U8 1), (S []), aa, (S (noteF s))]), (I6 0)] rfl rfl ⟨⟨⟨b1, 0, none⟩, zk, yP [(I6 no), (U8 1), (S []), aa, (S (noteF s))] zk zk (yI c)⟩, zk, trivial⟩ ?_)))
 replace h := (((h.tr aw).trans (aj.below d)).trans (ao.below d)).trans (a7.below t)
 exact ⟨aa, xE (by (rw [scanR_data za za (hp_one_not za za)]; try rfl; done)) (e6 (by (rw [scanR_data za za (hp_one_not za za)]; try rfl; done))), m.cast (by (rw [scanR_data za za (hp_one_not za za)]; try rfl; done)), h⟩
end Go.Proofs.YtddnhlobnembaaaGreatDoor
end

/- === FKl === -/
section
/- FKl: a strings.Builder of the call's own, carried over the steps of a walk; its methods. My own text, over the kit's shelf. -/
namespace Go.FK
open Go Go.RowKit
def Bld (T E B b : Nat) (l : List UInt8) (w : World) : Prop := Lib.IsBuilderF T E B b (Lib.byteCells l) w
theorem Bld.at {T E B b : Nat} {l : List UInt8} {w : World} (h : Bld T E B b l w) : B ≤ b ∧ ∃ p v, w.heap[b]? = some (.cells #[p, v] T (0, 0)) := by
 rcases h with ⟨hB, v, hb, _⟩ | ⟨hB, v, hb, _⟩
 ·exact ⟨hB, _, v, hb⟩
 ·exact ⟨hB, _, v, hb⟩
theorem Bld.of {T E B b : Nat} {w : World} (hb : w.heap[b]? = some (.cells [Value.pointer none, Value.slice none 0 0].toArray T (0, 0))) (hB : B ≤ b) : Bld T E B b [] w := by
 refine .inl ⟨hB, .slice none 0 0, hb, ?_, by simp [Value.ownBlock]⟩
 exact World.ownsRowF_of (World.ownsRow_nil _ _ _ _)
theorem Bld.lt {T E B b : Nat} {l : List UInt8} {w : World} (h : Bld T E B b l w) : b < w.heap.size := by
 obtain ⟨_, p, v, hb⟩ := h.at
 exact yA hb
theorem bldAt_same {T E B b : Nat} {p : Value} {bs : List Value} {w w' : World} (h : Lib.BuilderAtF T E B b p bs w) (hk : ∀ k : Nat, (∃ cs X fz, w.heap[k]? = some (.cells cs X fz) ∧ (X = T ∨ X = E)) → w'.heap[k]? = w.heap[k]?) : Lib.BuilderAtF T E B b p bs w' := by
 obtain ⟨hB, v, hb, hown, hne⟩ := h
 refine ⟨hB, v, (hk b ⟨_, _, _, hb, .inl rfl⟩).trans hb, ⟨hown.1, ?_⟩, hne⟩
 rcases hown.2 with hn | ⟨g, cap, cur, fz, hv, hbg, hg, rest⟩
 ·exact .inl hn
 ·exact .inr ⟨g, cap, cur, fz, hv, hbg, (hk g ⟨_, _, _, hg, .inr rfl⟩).trans hg, rest⟩
theorem Bld.same {T E B b : Nat} {l : List UInt8} {w w' : World} (h : Bld T E B b l w) (hk : ∀ k : Nat, (∃ cs X fz, w.heap[k]? = some (.cells cs X fz) ∧ (X = T ∨ X = E)) → w'.heap[k]? = w.heap[k]?) : Bld T E B b l w' :=
 h.elim (fun x => .inl (bldAt_same x hk)) (fun x => .inr (bldAt_same x hk))
theorem Bld.wrote {T E B b k : Nat} {l : List UInt8} {w w' : World} {o o0 : Obj} (h : Bld T E B b l w) (hW : Wrote w w' k o) (hk : w.heap[k]? = some o0) (ho : ∀ cs X fz, o0 = .cells cs X fz → X ≠ T ∧ X ≠ E) : Bld T E B b l w' :=
 h.same fun j ⟨cs, X, fz, hj, hX⟩ => hW.other j fun e => by
  subst e
  rw [hk] at hj
  have := ho cs X fz (Option.some.inj hj)
  rcases hX with a | a
  ·exact this.1 a
  ·exact this.2 a
theorem Bld.obj_kept {T E B b k : Nat} {l : List UInt8} {w w' : World} {o : Obj} (h : Bld T E B b l w) (hO : Lib.OthersKept E (some b) w w') (hk : w.heap[k]? = some o) (ho : ∀ cs X fz, o = .cells cs X fz → X ≠ T ∧ X ≠ E) : w'.heap[k]? = some o := by
 refine hO k o hk (fun e => ?_) (fun cs fz e => ?_)
 ·obtain ⟨_, p, v, hb⟩ := h.at
  have e := Option.some.inj e
  subst e
  rw [hb] at hk
  exact (ho _ _ _ (Option.some.inj hk).symm).1 rfl
 ·exact (ho _ _ _ e).2 rfl
theorem bldStr {P : Program} {f : FuncId} {T E B b : Nat} (h1 : ∀ (B b : Nat) (l : List UInt8) (w : World), Lib.IsBuilderF T E B b (Lib.byteCells l) w → B ≤ w.heap.size →
   Calls P f #[.pointer (some ⟨b, 0, none⟩)] w fun e w' => e = .returned (.string ⟨l.toArray⟩) ∧ (Lib.IsBuilderF T E B b (Lib.byteCells l) w' ∧ Below B w w' ∧ Lib.OthersKept E (some b) w w'))
  (l : List UInt8) (w : World) (h : Bld T E B b l w) (hB : B ≤ w.heap.size) :
  Calls P f #[.pointer (some ⟨b, 0, none⟩)] w (Ret fun v w' => v = S l ∧ Bld T E B b l w' ∧ Below B w w' ∧ Lib.OthersKept E (some b) w w') := by
 refine (h1 B b l w h hB).mono ?_
 rintro e w' ⟨rfl, c, d, a⟩
 exact ⟨_, rfl, rfl, c, d, a⟩
end Go.FK
end

/- === FKi === -/
section
/- FKi: regions that draw their order, whose operations have guards. My own text. -/
namespace Go.FK
open Go Go.RowKit
section
variable {P : Program} {n : Nat} {Q : Post} {s : Fm} {w : World} {ops : Array Oper} {fuel : Nat} {listed : Array Bool}
end
section
variable {P : Program} {n : Nat} {Q : Post} {s : Fm} {w : World} {ops : Array Oper} {fuel : Nat} {listed : Array Bool}
def noG (o : Oper) : Oper := { o with guard := none }
end
section
variable {P : Program} {n : Nat} {Q : Post} {s : Fm} {w : World} {ops : Array Oper} {fuel : Nat} {listed : Array Bool}
end
section
variable {P : Program} {n : Nat} {Q : Post} {s : Fm} {w : World} {ops : Array Oper} {fuel : Nat} {listed : Array Bool} {C : World → Prop}
theorem wpIn_quiet {o : Oper} {a : Act} {K : Act → Prop} {K' : Act → World → Prop} {Q' : Exit → Act → World → Prop} (hne : ∀ c, o.op ≠ .defer c) (hw : C w) (h : ∀ a w', C w' → K a → K' a w') (hh : o.quiet P a C K) : o.wpIn (Fw none) 0 P a w K' Q' := by
 obtain ⟨v, j, g⟩ := hh
 have b := j w hw
 unfold Oper.quietAt at b
 unfold Oper.wpIn
 refine ⟨fun _ _ => trivial, ?_⟩
 rw [Oper.semAt_eq _ _ _ hne]
 generalize (execOp a.eval o).run P w = r at *
 cases r with
 | ok m w' =>
  cases m <;> simp only [Oper.quietUpon] at b <;> simp only [Oper.uponIn]
  case value u =>
   obtain ⟨d, i⟩ := b
   rw [d, i]
   exact h _ _ hw g
  case skip =>
   obtain ⟨d, i⟩ := b
   rw [d, ← i]
   exact h _ _ hw g
  case enter f args =>
   obtain ⟨d, hc⟩ := b
   rw [d]
   exact ⟨fun hx => by simp [Fw] at hx, CallsIn.mono (calls_fw.2 hc) fun e w'' ⟨he, hw''⟩ => by subst he; exact h _ _ hw'' g⟩
 | halt x w' => simp only [Oper.quietUpon] at b
theorem opIn_quiet {i : Nat} {a : Act} {K : Act → Prop} {K' : Act → World → Prop} {Q' : Exit → Act → World → Prop} (hd : noDefers ops = true) (hC : C w) (h : ∀ a w', C w' → K a → K' a w') (hh : qOp P ops C i K a) : wpOpIn (Fw none) 0 P ops Q' i K' a w := by
 unfold qOp at hh
 unfold wpOpIn
 cases ho : ops[i]? with
 | none => simp only [ho] at hh ⊢; exact h _ _ hC hh
 | some o =>
  simp only [ho] at hh ⊢
  have hne : ∀ c, o.op ≠ .defer c := vJ (List.all_eq_true.1 hd o (by
   have := Array.mem_of_getElem? ho
   simpa using this))
  split
  ·rename_i hw; rw [if_pos hw] at hh; exact wpIn_quiet hne hC h hh
  ·rename_i hw; rw [if_neg hw] at hh; exact ⟨fun _ _ => trivial, h _ _ hC hh⟩
theorem anyIn_quiet {K : Act → Prop} {Q' : Exit → Act → World → Prop} (hd : noDefers ops = true) (hQ : ∀ a w, C w → K a → Q' .normal a w) : ∀ (fuel : Nat) (listed : Array Bool) (a : Act) (w : World), C w →
  wpAnyQ P .any ops C K fuel listed a → wpAnyIn (Fw none) 0 P .any ops Q' fuel listed a w
 | 0, _, _, _, hw, h => ⟨h.1, hQ _ _ hw h.2⟩
 | fuel + 1, _, _, _, hw, h => ⟨fun h0 => hQ _ _ hw (h.1 h0), fun i hi => opIn_quiet hd hw (fun a' w' hw' => anyIn_quiet hd hQ fuel _ a' w' hw') (h.2 i hi)⟩
theorem I_quiet (k : Nat) (hf : Nat.beq (ops.toList.drop k).length fuel = true) (hs : Region.noSelect ops = true) (hd : noDefers ops = true) (hB : Region.lexFrom .any ops fuel k listed = true)
  (h : Lq P n ops w (fun s' => ∀ w', Below w.heap.size w w' → Q .normal s' w') (ops.toList.drop k) s) : Li P n ops Q fuel listed s w := by
 obtain rfl := Nat.eq_of_beq_eq_true hf
 unfold Li
 refine anyIn_quiet (C := fun w' => Below w.heap.size w w') (K := fun a => ∃ s', a = Fm.act n s' ∧ ∀ w', Below w.heap.size w w' → Q .normal s' w') hd ?_ _ _ _ _ (Below.refl _ _) ?_
 ·rintro a w' hw' ⟨s', rfl, hK⟩
  exact ⟨s', rfl, hK w' hw'⟩
 ·unfold Lq at h
  exact wpAnyQ_lex hs _ k _ _ (fun j => by rw [List.getElem?_drop]; simp) hB h
end
section ops
variable {r : Option Nat} {P : Program} {n : Nat} {Q : Post} {s : Fm} {w : World} {ops : Array Oper} {rest : List Oper}
variable {d : Option Tmp} {ty : TypeId} {pos : String} {af : Array Edge}
end ops
end Go.FK
end

/- === FKab === -/
section
/- FKab: what the writing methods of strings.Builder do to memory: the pieces of their walks. My own text. -/
namespace Go.FK
open Go Go.RowKit
section
variable {T E B b : Nat} {l m : List UInt8} {w w1 w2 w3 : World} {p v v2 : Value}
theorem byteCells_len (l : List UInt8) : (Lib.byteCells l).length = l.length := by simp [Lib.byteCells]
end
section ops
variable {r : Option Nat} {P : Program} {n : Nat} {Q : Post} {s : Fm} {w : World} {ops : Array Oper} {rest : List Oper}
variable {d : Option Tmp} {ty : TypeId} {pos : String} {af : Array Edge} {T U E B : Nat} {l : List UInt8} {v : Value}
theorem info_u8 (hi : (P.info? E).map (fun i => (i.zero, i.size, i.bytes)) = some (some (.int .u8 0), 1, 1)) : ∃ i, P.info? E = some i ∧ i.zero = some (.int .u8 0) ∧ i.size = 1 ∧ i.bytes = 1 := by
 cases hq : P.info? E with
 | none => rw [hq] at hi; cases hi
 | some i =>
  rw [hq] at hi
  simp only [Option.map_some, Option.some.injEq, Prod.mk.injEq] at hi
  exact ⟨i, rfl, hi.1, hi.2.1, hi.2.2⟩
theorem L_toUns {src dst t : TypeId} {X : Operand} {k : Nat} {e : TypeId} {cs : List Value} (b : Nat) (hs : P.underlying src = some (.pointer t)) (hd : P.underlying dst = some .unsafePointer) (hi : (P.info? t).map (·.size) = some k) (hk : Nat.beq k 0 = false)
  (ho : w.heap[b]? = some (.cells cs.toArray e (0, 0))) (hc : Nat.blt 0 cs.length = true) (hX : s.ev n X = .pointer (some ⟨b, 0, none⟩)) (h : L r P n ops Q rest (s.put d (.pointer (some ⟨b, 0, none⟩))) w) :
  L r P n ops Q (⟨d, .convert src dst X, ty, pos, af, none⟩ :: rest) s w := by
 obtain ⟨j, hj, hjs⟩ := Option.map_eq_some_iff.1 hi
 have hsh : w.shape? b = some (e, cs.length) := by simp [World.shape?, ho]
 refine wJ _ w (by simp) ?_ h
 simp only [execOp, hX, Sem.run_bind, Lib.run_to_unsafe (P := P) (w := w) ⟨b, 0, none⟩ hs hd hj (by rw [hjs]; intro e; subst e; simp at hk) hsh (by simpa using hc), Result.andThen_ok, Sem.run_pure]
theorem L_fromUns {src dst t : TypeId} {X : Operand} {k : Nat} {e : TypeId} {cs : List Value} (b : Nat) (hs : P.underlying src = some .unsafePointer) (hd : P.underlying dst = some (.pointer t)) (hi : (P.info? t).map (·.size) = some k)
  (ho : w.heap[b]? = some (.cells cs.toArray e (0, 0))) (hl : liesAt P P.depth e (cs.length / P.cellsOf e) 0 t 1 = true) (hX : s.ev n X = .pointer (some ⟨b, 0, none⟩)) (h : L r P n ops Q rest (s.put d (.pointer (some ⟨b, 0, none⟩))) w) :
  L r P n ops Q (⟨d, .convert src dst X, ty, pos, af, none⟩ :: rest) s w := by
 obtain ⟨j, hj, hjs⟩ := Option.map_eq_some_iff.1 hi
 have hsh : w.shape? b = some (e, cs.length) := by simp [World.shape?, ho]
 refine wJ _ w (by simp) ?_ h
 simp only [execOp, hX, Sem.run_bind, Lib.run_from_unsafe (P := P) (w := w) ⟨b, 0, none⟩ hs hd hj hsh hl, Result.andThen_ok, Sem.run_pure]
theorem L_pneF {tp te yt : TypeId} {X Y : Operand} {k : Nat} (b : Nat) (hp : P.underlying tp = some (.pointer te)) (hi : (P.info? te).map (·.size) = some k) (hX : s.ev n X = .pointer (some ⟨b, 0, none⟩)) (hY : s.ev n Y = .pointer (some ⟨b, 0, none⟩))
  (hg : (eqGuard .neq tp X Y (.pointer (some ⟨b, 0, none⟩)) (.pointer (some ⟨b, 0, none⟩))).run P w = .ok () w) (h : L r P n ops Q rest (s.put d (.bool false)) w) : L r P n ops Q (⟨d, .binOp .neq tp X Y yt, ty, pos, af, none⟩ :: rest) s w := by
 obtain ⟨j, hj, _⟩ := Option.map_eq_some_iff.1 hi
 exact L_bin _ _ (.bool false) hX hY hg (Lib.run_neq_ptr_same w ⟨b, 0, none⟩ hp hj) h
theorem flat_take {α : Type} (enc : α → List Value) (k : Nat) (hk : ∀ x, (enc x).length = k) (xs : List α) (i : Nat) (hi : i ≤ xs.length) : (xs.flatMap enc).take (i * k) = (xs.take i).flatMap enc ∧ (xs.flatMap enc).drop (i * k) = (xs.drop i).flatMap enc := by
 have b : xs.flatMap enc = (xs.take i).flatMap enc ++ (xs.drop i).flatMap enc := by rw [← List.flatMap_append, List.take_append_drop]
 have a : ((xs.take i).flatMap enc).length = i * k := by rw [flat_len enc k hk, List.length_take, Nat.min_eq_left hi]
 rw [b]
 exact ⟨List.take_left' a, List.drop_left' a⟩
theorem flat_setA {α : Type} (enc : α → List Value) (k : Nat) (hk : ∀ x, (enc x).length = k) (xs : List α) (i : Nat) (x' : α) (hi : i < xs.length) : (xs.set i x').flatMap enc = (xs.flatMap enc).take (i * k) ++ enc x' ++ (xs.flatMap enc).drop (i * k + k) := by
 rw [(flat_take enc k hk xs i (by omega)).1, show i * k + k = (i + 1) * k by rw [Nat.succ_mul], (flat_take enc k hk xs (i + 1) (by omega)).2, List.set_eq_take_append_cons_drop, if_pos hi, List.flatMap_append, List.flatMap_cons, List.append_assoc]
theorem L_storeRowA {α : Type} {t : TypeId} {X Y : Operand} {enc : α → List Value} {E k : Nat} {xs : List α} (i g off : Nat) (x' : α) (us : List Value) (hrow : Row w B E k enc v xs) (hk : ∀ x, (enc x).length = k) (hi : i < xs.length) (hl : Lies v g off xs.length)
  (hx : s.ev n X = .pointer (some ⟨g, off + i * k, none⟩)) (hy : s.ev n Y = .agg us.toArray) (h1 : us.all (·.oneCell') = true) (hz : (sizeOf t).run P w = .ok us.length w) (hen : enc x' = us)
  (h : ∀ w', Row w' B E k enc v (xs.set i x') → w.grownBy w' v.ownBlock → L r P n ops Q rest (s.put d undef) w') : L r P n ops Q (⟨d, .store t X Y, ty, pos, af, none⟩ :: rest) s w := by
 obtain ⟨hlen, hr⟩ := hrow
 rcases hr with ⟨j, l⟩ | ⟨g', cap, cur, rfl, hg, hh, hnc, hcm, hcs, htake⟩
 ·omega
 ·obtain ⟨c, hc⟩ := hl
  injection hc with hc1 hc2 hc3
  injection hc1 with hc1
  injection hc1 with hc1 hc4
  subst hc1; subst hc4
  rw [Nat.zero_add] at hx
  have hul : us.length = k := by rw [← hen, hk]
  have hb : i * k + k ≤ xs.length * k := by rw [← Nat.succ_mul]; exact Nat.mul_le_mul_right _ hi
  have e : xs.length * k ≤ cur.size := by rw [hcs]; exact Nat.mul_le_mul_right _ hnc
  have hble : Nat.ble (i * k + us.length) cur.toList.length = true := by
   have a : cur.toList.length = cur.size := Array.length_toList
   rw [Nat.ble_eq, a, hul]
   omega
  refine xP g' (i * k) us cur.toList (cur.toList.take (i * k) ++ us ++ cur.toList.drop (i * k + us.length)) E hx hy h1 hz (by simpa using hh) hble rfl ?_
  intro w' hW
  have hf := flat_setA enc k hk xs i x' hi
  have hrow' : Row w' B E k enc (.slice (some ⟨g', 0, none⟩) xs.length cap) (xs.set i x') := by
   refine ⟨?_, .inr ⟨g', cap, _, ?_, hg, hW.here, ?_, hcm, ?_, ?_⟩⟩
   ·rw [flat_len enc k hk]
   ·rw [List.length_set]
   ·rw [List.length_set]; exact hnc
   ·rw [hul]
    simp only [List.size_toArray, List.length_append, List.length_take, List.length_drop, Array.length_toList, hul]
    rw [← hcs]; omega
   ·rw [List.length_set, hf, hen, hul, ← htake]
    have a : cur.toList.length = cur.size := Array.length_toList
    have f : (cur.toList.take (i * k)).length = i * k := by rw [List.length_take, a]; omega
    rw [List.take_take, Nat.min_eq_left (by omega), List.drop_take]
    have b : (cur.toList.take (i * k) ++ us).length = i * k + k := by rw [List.length_append, f, hul]
    rw [show (cur.toList.take (i * k) ++ us ++ cur.toList.drop (i * k + k)).toArray.toList = cur.toList.take (i * k) ++ us ++ cur.toList.drop (i * k + k) from rfl, List.take_append, b, List.take_of_length_le (by rw [b]; omega)]
  exact h w' hrow' (grown_of_wrote hW rfl)
end ops
end Go.FK
end

/- === FKad === -/
section
/- FKad: the cells of a row's block as they lie: slices of the block, copies into it. My own text. -/
namespace Go.FK
open Go Go.RowKit
def AtE {α : Type} (enc : α → List Value) (k : Nat) (cur : List Value) (a : Nat) (ys : List α) : Prop := (cur.drop (a * k)).take (ys.length * k) = ys.flatMap enc
def putAt (k : Nat) (cur : List Value) (a : Nat) (cs : List Value) : List Value := cur.take (a * k) ++ cs ++ cur.drop (a * k + cs.length)
structure Raw (w : World) (B E k g cap : Nat) (cur : List Value) : Prop where
  base : B ≤ g
  here : w.heap[g]? = some (.cells cur.toArray E (0, 0))
  capm : cap ≤ maxLen
  size : cur.length = cap * k
theorem putAt_len {k a : Nat} {cur cs : List Value} (h : a * k + cs.length ≤ cur.length) : (putAt k cur a cs).length = cur.length := by
 unfold putAt; rw [List.length_append, List.length_append, List.length_take, List.length_drop]; omega
section
variable {α : Type} {enc : α → List Value} {k : Nat} {cur cs : List Value}
end
theorem Row.mono0 {α : Type} {w : World} {B E k : Nat} {enc : α → List Value} {v : Value} {xs : List α} (h : Row w B E k enc v xs) : Row w 0 E k enc v xs := by
 refine ⟨h.1, ?_⟩
 rcases h.2 with a | ⟨g, cap, cur, hv, hg, r⟩
 ·exact .inl a
 ·exact .inr ⟨g, cap, cur, hv, Nat.zero_le _, r⟩
theorem Raw.frozen {w : World} {B E k g cap : Nat} {cur : List Value} (h : Raw w B E k g cap cur) (j : Nat) : w.frozen? ⟨g, j, none⟩ = false := by unfold World.frozen?; rw [h.here]; simp
section ops
variable {r : Option Nat} {P : Program} {n : Nat} {Q : Post} {s : Fm} {w : World} {ops : Array Oper} {rest : List Oper}
variable {d : Option Tmp} {ty : TypeId} {pos : String} {af : Array Edge}
theorem Raw.put {B E k g cap a : Nat} {cur cs : List Value} (h : Raw w B E k g cap cur) (hf : a * k + cs.length ≤ cur.length) : Raw (w.setRow g (putAt k cur a cs).toArray) B E k g cap (putAt k cur a cs) :=
 ⟨h.base, setRow_heap w g _ _ E (0, 0) h.here, h.capm, by rw [putAt_len hf]; exact h.size⟩
theorem Lq_aggne {K : Fm → Prop} {t yt : TypeId} {X Y : Operand} (xs ys : List Value) (b : Bool) (hx : s.ev n X = .agg xs.toArray) (hy : s.ev n Y = .agg ys.toArray) (hm : P.eqGuardType P.depth t = false)
  (hq : ∀ w, (Op.equalIn 10000 t (.agg xs.toArray) (.agg ys.toArray)).run P w = .ok b w)
  (ht : b = false → Lq P n ops w K rest (s.put d (.bool true))) (hf : b = true → Lq P n ops w K rest (s.put d (.bool false))) : Lq P n ops w K (⟨d, .binOp .neq t X Y yt, ty, pos, af, none⟩ :: rest) s := by
 have hg : ∀ w, (eqGuard .neq t X Y (.agg xs.toArray) (.agg ys.toArray)).run P w = .ok () w := fun w => run_eqGuard_agg (P := P) w .neq t X Y xs.toArray ys.toArray hm
 have hb : ∀ w, (binOp .neq t (.agg xs.toArray) (.agg ys.toArray)).run P w = .ok (.bool (!b)) w := fun w => by
  have hb := run_neq_struct (P := P) w t xs.toArray ys.toArray
  rw [hq, Result.andThen_ok] at hb
  exact hb
 refine Lq_bin _ _ _ hx hy hg hb ?_
 cases b with
 | true => exact hf rfl
 | false => exact ht rfl
end ops
end Go.FK
end

/- === FKae === -/
section
/- FKae: a region that draws its order, of which the first operations only read and must all come before one that changes memory: they may be walked in the order of the text. My own text. -/
namespace Go.FK
open Go Go.RowKit
def onB (o : Oper) (i : Nat) : Bool := o.after.any fun e => Region.binds .any e && Nat.beq e.on i
def preOk (ops : Array Oper) (k : Nat) : Bool :=
  ((List.range k).all fun i => match ops[i]? with
    | some o => (o.after.all fun e => !Region.binds .any e || decide (e.on < i)) && (match o.guard with | none => true | some g => decide (g.1 < k))
    | none => false) &&
  ((List.range k).all fun i => (List.range (k + 1)).any fun j => decide (i < j) && (match ops[j]? with | some o => onB o i | none => false)) &&
  ((List.range ops.size).all fun j => decide (j ≤ k) || (match ops[j]? with | some o => o.after.any fun e => Region.binds .any e && decide (k ≤ e.on) | none => false))
def preL (k N : Nat) : Array Bool := ((List.range N).map fun j => decide (j < k)).toArray
section
variable {ops : Array Oper} {k : Nat} {L : Array Bool}
structure PreI (ops : Array Oper) (k : Nat) (L : Array Bool) : Prop where
  size : L.size = ops.size
  high : ∀ j, k ≤ j → j < ops.size → L.getD j true = false
  down : ∀ i o, i < k → ops[i]? = some o → L.getD i true = true → ∀ e ∈ o.after, Region.binds .any e = true → L.getD e.on false = true
theorem pre_back (h : preOk ops k = true) {i : Nat} (hi : i < k) : ∃ o, ops[i]? = some o ∧ (∀ e ∈ o.after, Region.binds .any e = true → e.on < i) ∧ (∀ g, o.guard = some g → g.1 < k) := by
 unfold preOk at h
 simp only [Bool.and_eq_true, List.all_eq_true, List.mem_range] at h
 have a := h.1.1 i hi
 cases ho : ops[i]? with
 | none => rw [ho] at a; cases a
 | some o =>
  rw [ho] at a
  simp only [Bool.and_eq_true] at a
  refine ⟨o, rfl, fun e he hb => ?_, fun g hg => ?_⟩
  ·have := Array.all_eq_true'.1 a.1 e he
   simpa [hb] using this
  ·have b := a.2; rw [hg] at b; simpa using b
theorem pre_used (h : preOk ops k = true) {i : Nat} (hi : i < k) : ∃ j o, i < j ∧ j ≤ k ∧ ops[j]? = some o ∧ ∃ e ∈ o.after, Region.binds .any e = true ∧ e.on = i := by
 unfold preOk at h
 simp only [Bool.and_eq_true, List.all_eq_true, List.mem_range, List.any_eq_true] at h
 obtain ⟨j, hj, b, a⟩ := h.1.2 i hi
 cases ho : ops[j]? with
 | none => rw [ho] at a; cases a
 | some o =>
  rw [ho] at a
  simp only [onB] at a
  obtain ⟨e, he, hb⟩ := Array.any_eq_true'.1 a
  simp only [Bool.and_eq_true] at hb
  exact ⟨j, o, by simpa using b, by omega, ho, e, he, hb.1, Nat.eq_of_beq_eq_true hb.2⟩
theorem pre_rest (h : preOk ops k = true) {j : Nat} (hj : k < j) {o : Oper} (ho : ops[j]? = some o) : ∃ e ∈ o.after, Region.binds .any e = true ∧ k ≤ e.on := by
 unfold preOk at h
 simp only [Bool.and_eq_true, List.all_eq_true, List.mem_range] at h
 have hlt : j < ops.size := (Array.getElem?_eq_some_iff.1 ho).1
 have a := h.2 j hlt
 rw [ho] at a
 simp only [Bool.or_eq_true] at a
 rcases a with a | a
 ·have := of_decide_eq_true a; omega
 ·obtain ⟨e, he, hb⟩ := Array.any_eq_true'.1 a
  simp only [Bool.and_eq_true] at hb
  exact ⟨e, he, hb.1, of_decide_eq_true hb.2⟩
theorem getD_tf {L : Array Bool} {i : Nat} (h : i < L.size) : L.getD i false = L.getD i true := by simp [h]
theorem pre_low (h : preOk ops k = true) (hI : PreI ops k L) (hk : k ≤ ops.size) {i : Nat} (hi : i < k) (hu : L.getD i true = false) {j : Nat} (hj : j ∈ Region.ready .any ops L) : j < k := by
 rcases Nat.lt_or_ge j k with hlt | hge
 ·exact hlt
 exfalso
 obtain ⟨c, o, ho, hall⟩ := mem_ready.1 hj
 rcases Nat.lt_or_ge k j with hlt | hle
 ·obtain ⟨e, he, hb, hke⟩ := pre_rest h hlt ho
  have a := hall e he hb
  rcases Nat.lt_or_ge e.on ops.size with hs | hs
  ·rw [getD_tf (by rw [hI.size]; exact hs), hI.high _ hke hs] at a; cases a
  ·rw [Array.getD_eq_getD_getElem?, Array.getElem?_eq_none (by rw [hI.size]; exact hs)] at a; cases a
 ·obtain rfl : j = k := by omega
  -- all of the k first are listed
  have key : ∀ m i, j - i ≤ m → i < j → L.getD i true = true := by
   intro m
   induction m with
   | zero => intro i a b; omega
   | succ m ih =>
    intro i a b
    obtain ⟨j', o', hij, hjk, ho', e, he, hb, heq⟩ := pre_used h b
    rw [← heq]
    rw [← getD_tf (by rw [hI.size]; omega)]
    rcases Nat.lt_or_ge j' j with hl | hg
    ·exact hI.down j' o' hl ho' (ih j' (by omega) hl) e he hb
    ·obtain rfl : j' = j := by omega
     rw [ho] at ho'; cases ho'
     exact hall e he hb
  have := key j i (by omega) hi
  rw [hu] at this; cases this
theorem pre_ready (h : preOk ops k = true) (hI : PreI ops k L) : ∀ i, i < k → L.getD i true = false → ∃ j, j < k ∧ j ∈ Region.ready .any ops L := by
 intro i
 induction i using Nat.strongRecOn with
 | ind i ih =>
  intro hi hu
  obtain ⟨o, ho, hb, _⟩ := pre_back h hi
  by_cases hx : ∃ m, m < i ∧ L.getD m true = false
  ·obtain ⟨m, hm, hmu⟩ := hx
   exact ih m hm (by omega) hmu
  ·refine ⟨i, hi, mem_ready.2 ⟨hu, o, ho, fun e he hbi => ?_⟩⟩
   have hlt := hb e he hbi
   have his : i < ops.size := (Array.getElem?_eq_some_iff.1 ho).1
   rw [getD_tf (by rw [hI.size]; omega)]
   cases hc : L.getD e.on true with
   | true => rfl
   | false => exact absurd ⟨_, hlt, hc⟩ hx
theorem PreI.set (hI : PreI ops k L) {i : Nat} (hi : i < k) (hr : i ∈ Region.ready .any ops L) : PreI ops k (L.setIfInBounds i true) := by
 obtain ⟨a, o, ho, hall⟩ := mem_ready.1 hr
 refine ⟨by rw [Array.size_setIfInBounds]; exact hI.size, fun j hj hs => by rw [getD_set_ne true (by omega)]; exact hI.high j hj hs, fun j o' hj ho' hl e he hb => ?_⟩
 by_cases hij : i = j
 ·subst hij
  rw [ho] at ho'; cases ho'
  exact getD_set_true (hall e he hb)
 ·rw [getD_set_ne true hij] at hl
  exact getD_set_true (hI.down j o' hj ho' hl e he hb)
def unl (L : Array Bool) : Nat → Nat
  | 0 => 0
  | k + 1 => (if L.getD k true = false then 1 else 0) + unl L k
theorem unl_far {i : Nat} : ∀ k, k ≤ i → unl (L.setIfInBounds i true) k = unl L k
 | 0, _ => rfl
 | k + 1, h => by unfold unl; rw [getD_set_ne true (by omega), unl_far k (by omega)]
theorem unl_set {i : Nat} (hs : i < L.size) (hu : L.getD i true = false) : ∀ k, i < k → unl (L.setIfInBounds i true) k + 1 = unl L k
 | 0, h => by omega
 | k + 1, h => by
  unfold unl
  by_cases hik : i = k
  ·subst hik
   rw [unl_far i (Nat.le_refl _), if_pos hu, if_neg (by simp [hs])]; omega
  ·rw [getD_set_ne true hik, ← unl_set hs hu k (by omega)]; omega
theorem unl_zero : ∀ k, unl L k = 0 → ∀ i, i < k → L.getD i true = true
 | 0, _, i, h => by omega
 | k + 1, h, i, hi => by
  unfold unl at h
  rcases Nat.lt_or_ge i k with hl | hg
  ·exact unl_zero k (by omega) i hl
  ·obtain rfl : i = k := by omega
   cases hc : L.getD i true with
   | true => rfl
   | false => rw [if_pos hc] at h; omega
theorem unl_some : ∀ k, unl L k ≠ 0 → ∃ i, i < k ∧ L.getD i true = false
 | 0, h => absurd rfl h
 | k + 1, h => by
  unfold unl at h
  by_cases hc : L.getD k true = false
  ·exact ⟨k, by omega, hc⟩
  ·rw [if_neg hc] at h
   obtain ⟨i, hi, hu⟩ := unl_some k (by omega)
   exact ⟨i, by omega, hu⟩
theorem unl_all {N : Nat} : ∀ k, k ≤ N → unl (Array.replicate N false) k = k
 | 0, _ => rfl
 | k + 1, h => by unfold unl; rw [if_pos (by simp [show k < N by omega]), unl_all k (by omega)]; omega
theorem preL_eq (hI : PreI ops k L) (hk : k ≤ ops.size) (h0 : unl L k = 0) : L = preL k ops.size := by
 refine Array.ext (by rw [hI.size]; simp [preL]) fun i h1 h2 => ?_
 have hs : i < ops.size := by rw [← hI.size]; exact h1
 have e : L.getD i true = L[i] := by simp [h1]
 rw [← e]
 have a : (preL k ops.size)[i] = decide (i < k) := by simp [preL]
 rw [a]
 rcases Nat.lt_or_ge i k with hl | hg
 ·rw [unl_zero k h0 i hl, decide_eq_true hl]
 ·rw [hI.high i hg hs, decide_eq_false (by omega)]
end
section
variable {P : Program} {n : Nat} {ops : Array Oper} {k fuel : Nat} {C : World → Prop} {K : Act → Prop} {Q' : Exit → Act → World → Prop}
end
theorem PreI.zero {ops : Array Oper} {k : Nat} : PreI ops k (Array.replicate ops.size false) := by
 refine ⟨by simp, fun j _ hs => by simp [hs], fun i o hi ho hl e he hb => ?_⟩
 have hs : i < ops.size := (Array.getElem?_eq_some_iff.1 ho).1
 simp [hs] at hl
section
variable {P : Program} {n : Nat} {Q : Post} {s : Fm} {w : World}
end
end Go.FK
end

/- === FKan === -/
section
/- FKan: a region that draws its order, of which the first a operations are taken already: those up to k only read and must all come before one that changes memory: they may be walked in the order of the text. As FKae, begun later. My own text. -/
namespace Go.FK
open Go Go.RowKit
def preOkE (ops : Array Oper) (a k : Nat) : Bool :=
  ((List.range k).all fun i => match ops[i]? with
    | some o => (o.after.all fun e => !Region.binds .any e || decide (e.on < i)) && (match o.guard with | none => true | some g => decide (g.1 < k))
    | none => false) &&
  ((List.range k).all fun i => decide (i < a) || (List.range (k + 1)).any fun j => decide (i < j) && (match ops[j]? with | some o => onB o i | none => false)) &&
  ((List.range ops.size).all fun j => decide (j ≤ k) || (match ops[j]? with | some o => o.after.any fun e => Region.binds .any e && decide (k ≤ e.on) | none => false))
section
variable {ops : Array Oper} {a k : Nat} {L : Array Bool}
end
section
variable {P : Program} {n : Nat} {ops : Array Oper} {a k fuel : Nat} {C : World → Prop} {K : Act → Prop} {Q' : Exit → Act → World → Prop}
theorem getD_preL {a N i : Nat} (hi : i < N) : (preL a N).getD i true = decide (i < a) := by simp [preL, hi]
end
section
variable {P : Program} {n : Nat} {Q : Post} {s : Fm} {w : World}
end
section
variable {r : Option Nat} {P : Program} {n : Nat} {ops : Array Oper} {Q : Post} {rest : List Oper} {s : Fm} {w : World} {d : Option Tmp} {ty : TypeId} {pos : String} {af : Array Edge}
end
end Go.FK
end

/- === FKao === -/
section
/- FKao: a region that draws its order, of which the first k operations leave old memory alone (they may call, and make memory) and must all come before one behind: what each hands out is known by a fact that stays; each operation is walked once. My own text. -/
namespace Go.FK
open Go Go.RowKit
def dOf (D : List Nat) (i : Nat) : Nat := D.getD i 0
def diffB (D : List Nat) : Bool := (List.range D.length).all fun i => (List.range D.length).all fun j => Nat.beq i j || !Nat.beq (dOf D i) (dOf D j)
theorem diff_of {D : List Nat} (h : diffB D = true) {i j : Nat} (hi : i < D.length) (hj : j < D.length) (e : i ≠ j) : dOf D i ≠ dOf D j := fun q => by
 unfold diffB at h
 have a := List.all_eq_true.1 (List.all_eq_true.1 h i (List.mem_range.2 hi)) j (List.mem_range.2 hj)
 rw [q] at a
 have : Nat.beq i j = false := by
  cases hb : Nat.beq i j with
  | false => rfl
  | true => exact absurd (Nat.eq_of_beq_eq_true hb) e
 rw [this] at a
 simp at a
def OneOk (P : Program) (n : Nat) (ops : Array Oper) (w0 : World) (s0 : Fm) (D : List Nat) (G : Nat → Value → World → Prop) (i : Nat) (o : Oper) : Prop :=
  ∀ s w, Below w0.heap.size w0 w → s.ds = s0.ds → (∀ t, D.contains t = false → s.f t = s0.f t) → (∀ j, onB o j = true → G j (s.f (dOf D j)) w) →
    ∀ Z : Fm → World → Prop, (∀ s' w', Below w.heap.size w w' → s'.ds = s.ds → (∀ t, t ≠ dOf D i → s'.f t = s.f t) → G i (s'.f (dOf D i)) w' → Z s' w') →
    L none P n ops (fun c s' w' => c = .normal ∧ Z s' w') [o] s w
def OpsOk (P : Program) (n : Nat) (ops : Array Oper) (w0 : World) (s0 : Fm) (D : List Nat) (G : Nat → Value → World → Prop) : Nat → List Oper → Prop
  | _, [] => True
  | i, o :: rest => OneOk P n ops w0 s0 D G i o ∧ OpsOk P n ops w0 s0 D G (i + 1) rest
section
variable {P : Program} {n : Nat} {ops : Array Oper} {w0 : World} {s0 : Fm} {D : List Nat} {G : Nat → Value → World → Prop}
theorem ops_at (l : List Oper) : ∀ (i j : Nat) (o : Oper), OpsOk P n ops w0 s0 D G i l → l[j]? = some o → OneOk P n ops w0 s0 D G (i + j) o := by
 induction l with
 | nil => intro i j o h e; simp at e
 | cons a l ih =>
  intro i j o h e
  have h' : OneOk P n ops w0 s0 D G i a ∧ OpsOk P n ops w0 s0 D G (i + 1) l := h
  cases j with
  | zero =>
   have e : a = o := by simpa using e
   rw [Nat.add_zero, ← e]; exact h'.1
  | succ j =>
   have := ih (i + 1) j o h'.2 (by simpa using e)
   rw [show i + (j + 1) = i + 1 + j by omega]; exact this
def InvL (w0 : World) (s0 : Fm) (D : List Nat) (G : Nat → Value → World → Prop) (k : Nat) (A : Array Bool) (s : Fm) (w : World) : Prop :=
  Below w0.heap.size w0 w ∧ s.ds = s0.ds ∧ (∀ t, D.contains t = false → s.f t = s0.f t) ∧ ∀ i, i < k → A.getD i false = true → G i (s.f (dOf D i)) w
theorem inv_any {Q : Post} {k fuel : Nat} (h : preOk ops k = true) (hk : k ≤ ops.size) (hD : diffB D = true) (hDl : D.length = k) (hng : ∀ i o, i < k → ops[i]? = some o → o.guard = none)
  (hG : ∀ i v A B, G i v A → Below A.heap.size A B → G i v B) (hop : ∀ i o, i < k → ops[i]? = some o → OneOk P n ops w0 s0 D G i o)
  (fin : ∀ s w, InvL w0 s0 D G k (preL k ops.size) s w → Li P n ops Q fuel (preL k ops.size) s w) :
  ∀ (m : Nat) (A : Array Bool) (s : Fm) (w : World), PreI ops k A → unl A k = m → InvL w0 s0 D G k A s w → Li P n ops Q (m + fuel) A s w
 | 0, A, s, w, hI, hu, hv => by
  rw [Nat.zero_add]
  have e := preL_eq hI hk hu
  subst e
  exact fin s w hv
 | m + 1, A, s, w, hI, hu, hv => by
  obtain ⟨l, a, c⟩ := unl_some k (by omega : unl A k ≠ 0)
  rw [show m + 1 + fuel = m + fuel + 1 by omega]
  unfold Li
  refine ⟨fun he => ?_, fun i hi => ?_⟩
  ·obtain ⟨j, _, hj⟩ := pre_ready h hI l a c
   rw [he] at hj; cases hj
  ·have hik := pre_low h hI hk a c hi
   obtain ⟨o, ho, hbk, _⟩ := pre_back h hik
   have hs : i < A.size := by rw [hI.size]; omega
   have hun := (mem_ready.1 hi).1
   have hset := unl_set hs hun k hik
   obtain ⟨_, q, b, hall⟩ := mem_ready.1 hi
   rw [ho] at b; cases b
   have p := hop i o hik ho s w hv.1 hv.2.1 hv.2.2.1 (fun j hj => by
    unfold onB at hj
    obtain ⟨e, he, hb⟩ := Array.any_eq_true'.1 hj
    simp only [Bool.and_eq_true] at hb
    have d := hall e he hb.1
    have r := hbk e he hb.1
    have f : e.on = j := Nat.eq_of_beq_eq_true hb.2
    rw [← f]
    exact hv.2.2.2 _ (by omega) d) (fun s' w' => Li P n ops Q (m + fuel) (A.setIfInBounds i true) s' w') (fun s' w' q2 q3 q4 q5 => by
    refine inv_any h hk hD hDl hng hG hop fin m _ s' w' (hI.set hik hi) (by omega) ⟨?_, q3.trans hv.2.1, fun t ht => ?_, fun j hj hl => ?_⟩
    ·exact hv.1.trans (q2.mono hv.1.size)
    ·rw [q4 t (fun e => by
      rw [e] at ht
      have : D.contains (dOf D i) = true := by
       rw [List.contains_iff_mem]
       unfold dOf
       rw [List.getD_eq_getElem?_getD, List.getElem?_eq_getElem (by omega)]
       exact List.getElem_mem _
      rw [this] at ht; cases ht)]
     exact hv.2.2.1 t ht
    ·by_cases hij : i = j
     ·subst hij; exact q5
     ·rw [q4 _ (diff_of hD (by omega) (by omega) (fun e => hij e.symm))]
      refine hG _ _ _ _ (hv.2.2.2 j hj ?_) q2
      have hjs : j < A.size := by rw [hI.size]; omega
      have g : (A.setIfInBounds i true).getD j false = A.getD j false := by
       rw [Array.getD_eq_getD_getElem?, Array.getD_eq_getD_getElem?, Array.getElem?_setIfInBounds, if_neg hij]
      rw [g] at hl; exact hl)
   have d := I_op (Q := Q) (fuel := m + fuel) (listed := A) i ho p (hng i o hik ho)
   unfold Iop at d
   exact d
end
section
variable {P : Program} {n : Nat} {Q : Post} {s : Fm} {w : World}
theorem W_inv {r : Option Nat} {id : Nat} {l : List Oper} (k N m : Nat) (D : List Nat) (G : Nat → Value → World → Prop) (hN : Nat.beq l.length N = true) (hm : P.follows .mixedOrders = true) (hd : noDefers l.toArray = true) (hp : preOk l.toArray k = true)
  (hng : ((l.take k).all fun o => o.guard.isNone) = true) (hD : diffB D = true) (hDl : Nat.beq D.length k = true) (hk : Nat.beq (k + m) N = true) (hG : ∀ i v A B, G i v A → Below A.heap.size A B → G i v B)
  (hop : ∀ w', Below w.heap.size w w' → OpsOk P n l.toArray w' s D G 0 (l.take k))
  (h : ∀ w' s1 w1, Below w.heap.size w w' → Below w'.heap.size w' w1 → s1.ds = s.ds → (∀ t, D.contains t = false → s1.f t = s.f t) → (∀ i, i < k → G i (s1.f (dOf D i)) w1) → Li P n l.toArray Q m (preL k N) s1 w1) : W r P n (.region id l.toArray true) Q s w := by
 refine W_draws N hN hm hd fun w' hw' => ?_
 obtain rfl := Nat.eq_of_beq_eq_true hN
 have hk := Nat.eq_of_beq_eq_true hk
 have hDl := Nat.eq_of_beq_eq_true hDl
 have ho := hop w' hw'
 have key := inv_any (P := P) (n := n) (ops := l.toArray) (w0 := w') (s0 := s) (D := D) (G := G) (Q := Q) (fuel := m) hp (by simp; omega) hD hDl (fun i o hi he => by
   have he : l[i]? = some o := by simpa using he
   have a : (l.take k)[i]? = some o := by rw [List.getElem?_take, if_pos hi]; exact he
   have := List.all_eq_true.1 hng o (List.mem_of_getElem? a)
   exact Option.isNone_iff_eq_none.1 this) hG (fun i o hi he => by
   have he : l[i]? = some o := by simpa using he
   have a : (l.take k)[i]? = some o := by rw [List.getElem?_take, if_pos hi]; exact he
   have := ops_at _ 0 i o ho a
   rw [Nat.zero_add] at this; exact this)
  (fun s1 w1 hv => by
   have e : l.toArray.size = l.length := by simp
   rw [e] at hv ⊢
   exact h w' s1 w1 hw' hv.1 hv.2.1 hv.2.2.1 (fun i hi => hv.2.2.2 i hi (by
    rw [getD_tf (by simp [preL]; omega), getD_preL (by omega)]; exact decide_eq_true hi)))
  k (Array.replicate l.length false) s w' (by have := PreI.zero (ops := l.toArray) (k := k); simpa using this) (unl_all k (by omega)) ⟨Below.refl _ _, rfl, fun t _ => rfl, fun i hi hl => by simp [show i < l.length by omega] at hl⟩
 rw [hk] at key
 exact key
end
theorem xH {s : Fm} {i : Nat} {v : Value} (h : s.f i = v) : s.put (some i) v = s := by
 cases s with
 | mk f ds =>
  simp only [Fm.put, Fm.mk.injEq, and_true]
  funext j
  cases hj : Nat.beq j i with
  | false => rfl
  | true => rw [Nat.eq_of_beq_eq_true hj]; exact h.symm
theorem xD {s : Fm} {d t : Nat} {v : Value} (h : t ≠ d) : (s.put (some d) v).f t = s.f t := by
 have : Nat.beq t d = false := by
  cases hb : Nat.beq t d with
  | false => rfl
  | true => exact absurd (Nat.eq_of_beq_eq_true hb) h
 simp only [Fm.put, this]; rfl
theorem wB {s : Fm} {d : Option Nat} {v : Value} : (s.put d v).ds = s.ds := by cases d <;> rfl
theorem put_here {s : Fm} {d : Nat} {v : Value} : (s.put (some d) v).f d = v := by
 have : Nat.beq d d = true := Nat.beq_refl d
 simp only [Fm.put, this]; rfl
def putL (s : Fm) : List Nat → List Value → Fm
  | d :: ds, v :: vs => putL (s.put (some d) v) ds vs
  | _, _ => s
def AllAt (s : Fm) : List Nat → List Value → Prop
  | d :: ds, v :: vs => s.f d = v ∧ AllAt s ds vs
  | _, _ => True
theorem putL_ds : ∀ (ds : List Nat) (vs : List Value) (s : Fm), (putL s ds vs).ds = s.ds
 | [], _, _ => rfl
 | _ :: _, [], _ => rfl
 | d :: ds, v :: vs, s => by rw [putL, putL_ds ds vs]; rfl
theorem putL_at {s3 : Fm} : ∀ (ds : List Nat) (vs : List Value) (s : Fm), ds.length = vs.length → AllAt s3 ds vs → ∀ t, (putL s ds vs).f t = s3.f t ∨ (ds.contains t = false ∧ (putL s ds vs).f t = s.f t)
 | [], [], s, _, _, t => .inr ⟨rfl, rfl⟩
 | d :: ds, v :: vs, s, hl, ha, t => by
  rcases putL_at ds vs (s.put (some d) v) (by simpa using hl) ha.2 t with h | ⟨b, a⟩
  ·exact .inl h
  ·by_cases e : t = d
   ·subst e
    left
    show (putL (s.put (some t) v) ds vs).f t = _
    rw [a, put_here]; exact ha.1.symm
   ·right
    refine ⟨?_, ?_⟩
    ·rw [List.contains_cons, b, Bool.or_false]; exact beq_false_of_ne e
    ·show (putL (s.put (some d) v) ds vs).f t = _
     rw [a, xD e]
theorem frm_eq {s s3 : Fm} (ds : List Nat) (vs : List Value) (hl : ds.length = vs.length) (hd : s3.ds = s.ds) (hf : ∀ t, ds.contains t = false → s3.f t = s.f t) (hv : AllAt s3 ds vs) : s3 = putL s ds vs := by
 have c := putL_at ds vs s hl hv
 have a := putL_ds ds vs s
 have b : s3.f = (putL s ds vs).f := funext fun t => by
  rcases c t with h | ⟨h, h'⟩
  ·exact h.symm
  ·rw [h', hf t h]
 cases s3 with
 | mk f3 d3 =>
  cases hp : putL s ds vs with
  | mk f4 d4 =>
   rw [hp] at a b
   simp only at a b hd
   rw [b, hd, a]
def gOf (Gs : List (Value → World → Prop)) (i : Nat) : Value → World → Prop := Gs.getD i (fun _ _ => True)
def AllSt : List (Value → World → Prop) → Prop
  | [] => True
  | p :: l => (∀ v A B, p v A → Below A.heap.size A B → p v B) ∧ AllSt l
theorem allSt_of : ∀ (Gs : List (Value → World → Prop)), AllSt Gs → ∀ i v A B, gOf Gs i v A → Below A.heap.size A B → gOf Gs i v B
 | [], _, i, v, A, B, _, _ => by simp [gOf]
 | p :: l, h, 0, v, A, B, hp, hb => h.1 v A B hp hb
 | p :: l, h, i + 1, v, A, B, hp, hb => allSt_of l h.2 i v A B hp hb
section
variable {P : Program} {n : Nat} {Q : Post} {s : Fm} {w : World}
theorem W_invL {r : Option Nat} {id : Nat} {l : List Oper} (k N m : Nat) (D : List Nat) (Gs : List (Value → World → Prop)) (hN : Nat.beq l.length N = true) (hm : P.follows .mixedOrders = true) (hd : noDefers l.toArray = true) (hp : preOk l.toArray k = true)
  (hng : ((l.take k).all fun o => o.guard.isNone) = true) (hD : diffB D = true) (hDl : Nat.beq D.length k = true) (hk : Nat.beq (k + m) N = true) (hG : AllSt Gs)
  (hop : ∀ w', Below w.heap.size w w' → OpsOk P n l.toArray w' s D (gOf Gs) 0 (l.take k))
  (h : ∀ w' s1 w1, Below w.heap.size w w' → Below w'.heap.size w' w1 → s1.ds = s.ds → (∀ t, D.contains t = false → s1.f t = s.f t) → (∀ i, i < k → gOf Gs i (s1.f (dOf D i)) w1) → Li P n l.toArray Q m (preL k N) s1 w1) : W r P n (.region id l.toArray true) Q s w :=
 W_inv k N m D (gOf Gs) hN hm hd hp hng hD hDl hk (allSt_of Gs hG) hop h
end
end Go.FK
end

/- === FKaf === -/
section
/- FKaf: the rest of a division of whole numbers, below zero too. My own text. -/
namespace Go.FK
open Go Go.RowKit
section
variable {r : Option Nat} {P : Program} {n : Nat} {Q : Post} {s : Fm} {w : World} {ops : Array Oper} {rest : List Oper}
variable {d : Option Tmp} {ty : TypeId} {pos : String} {af : Array Edge}
end
end Go.FK
end

/- === FKag === -/
section
/- FKag: a range over an iterator inside an iterator: the first round comes behind blocks of its own. My own text; W_rangeN is uL (FKg) with one fact more handed on. -/
namespace Go.FK
open Go Go.RowKit
theorem Kp.trans {K0 K : Nat} {A B C : World} (h : Kp K0 K A B) (k : Kp K0 K B C) : Kp K0 K A C := ⟨Nat.le_trans h.size k.size, fun i hi => (k.same i hi).trans (h.same i hi)⟩
section
variable {P : Program} {n : Nat} {Q : Post} {s : Fm} {w : World}
end
end Go.FK
end

/- === FKah === -/
section
/- FKah: an iterator whose rounds may lay blocks of its own that outlast the caller's turn: the caller's round leaves alone what was laid since its last turn. My own text; W_range2 is uL (FKg) with that promise. -/
namespace Go.FK
open Go Go.RowKit
section
variable {r : Option Nat} {P : Program} {n : Nat} {Q : Post} {s : Fm} {w : World} {ops : Array Oper} {rest : List Oper}
variable {d : Option Tmp} {ty : TypeId} {pos : String} {af : Array Edge}
theorem L_yieldR {op : Op} {R : Ending → World → Prop} (l : Nat) (args : List Value) (hrun : (execOp (s.ev n) ⟨d, op, ty, pos, af, none⟩).run P w = (Instr.yield l args.toArray).run P w) (hd : notDefer op = true)
  (hy : YieldAt (Fw none) 0 P l args.toArray w R) (hR : ∀ e w', R e w' → ∃ b, e = .returned (.bool b) ∧ L r P n ops Q rest (s.put d (.bool b)) w') : L r P n ops Q (⟨d, op, ty, pos, af, none⟩ :: rest) s w := by
 obtain ⟨fn, tmps, assign, body, hyr, hround⟩ := hy
 have c : (execOp (s.ev n) ⟨d, op, ty, pos, af, none⟩).run P w = .ok (.round l fn tmps assign body) w := hrun.trans hyr
 refine L_step rfl (vJ hd) ?_
 rw [c]
 refine ⟨fun hx => by simp [Fw] at hx, ?_⟩
 have a : RoundIn (Fw r) 0 P l fn tmps assign body w R := hround
 refine (round_any rfl a).mono ?_
 intro e w' hr
 obtain ⟨b, rfl, hL⟩ := hR e w' hr
 show wpListIn (Fw r) 0 P ops (upQ n Q) rest ((s.act n).put d (.bool b)) w'
 rw [qP]; exact L_iff.1 hL
end
def Iter2 {α : Type} (P : Program) (g : FuncId) (lb : List Value) (encs : α → List Value) (els : List α) (N : World → Prop) : Prop :=
  ∀ (l : Nat) (J Jx : Nat → List α → World → Prop) (w : World), N w →
    (∀ A, Below w.heap.size w A → J A.heap.size [] A) →
    (∀ K pre A B, J K pre A → Ch (Iv w.heap.size K) A B → J K pre B) →
    (∀ K pre A B, Jx K pre A → Ch (Iv w.heap.size K) A B → Jx K pre B) →
    (∀ K pre x A0 A, J K pre A0 → Ch (Iv w.heap.size K) A0 A → N A → w.heap.size ≤ K → K ≤ A0.heap.size → pre ++ [x] <+: els → YieldAt (Fw none) 0 P l (encs x).toArray A fun e A' =>
      (e = .returned (.bool true) ∧ J K (pre ++ [x]) A' ∧ Kp w.heap.size K A A' ∧ Kp A0.heap.size A.heap.size A A' ∧ N A') ∨ (e = .returned (.bool false) ∧ Jx K (pre ++ [x]) A' ∧ Kp w.heap.size K A A')) →
    Calls P g (.func (.yield l) #[] #[] :: lb).toArray w (Ret fun _ w' => w.heap.size ≤ w'.heap.size ∧ ((∃ K, J K els w') ∨ (∃ K pre x, pre ++ [x] <+: els ∧ Jx K (pre ++ [x]) w')))
def roundQ2 {α : Type} (K0 K K1 K2 : Nat) (I : Nat → List α → World → Prop) (Ix : Nat → Code → List α → World → Prop) (N : World → Prop) (xs : List α) (w2 : World) : Post
  | .normal, _, w3 => Kp K0 K w2 w3 ∧ Kp K1 K2 w2 w3 ∧ I K xs w3 ∧ N w3
  | .ret, _, w3 => Kp K0 K w2 w3 ∧ Ix K .ret xs w3
  | .exit id, _, w3 => Kp K0 K w2 w3 ∧ Ix K (.exit id) xs w3
  | .goto t, _, w3 => Kp K0 K w2 w3 ∧ Ix K (.goto t) xs w3
  | _, _, _ => False
section
variable {α : Type} {K0 K K1 K2 : Nat} {I : Nat → List α → World → Prop} {Ix : Nat → Code → List α → World → Prop} {N : World → Prop} {xs : List α} {w2 w3 : World} {s : Fm}
end
section
variable {P : Program} {n : Nat} {Q : Post} {s : Fm} {w : World}
end
end Go.FK
end

/- === FKap === -/
section
/- FKap: regions that draw their order, in a round or not: a load that reads what nobody in the region writes ahead of its last operation m is taken first. As the kit's OrdersHeld, inside a fence, and the condition on the world is not asked behind m. My own text. -/
namespace Go.FK
open Go Go.RowKit
section
variable {P : Program} {ops : Array Oper} {Q : Exit → Act → World → Prop} {S : World → Prop} {m : Nat}
def wpAnyJ (P : Program) (ops : Array Oper) (Q : Exit → Act → World → Prop) (S : World → Prop) (m : Nat) : Nat → Array Bool → Act → World → Prop
  | 0, listed, a, w => Region.ready .any ops listed = [] ∧ Q .normal a w
  | fuel + 1, listed, a, w => (Region.ready .any ops listed = [] → Q .normal a w) ∧
    ∀ i ∈ Region.ready .any ops listed, wpOpIn (Fw none) 0 P ops Q i (fun a' w' => (i = m ∨ S w') ∧ wpAnyJ P ops Q S m fuel (listed.setIfInBounds i true) a' w') a w
theorem wpAnyIn_of_J : ∀ (fuel : Nat) (listed : Array Bool) (a : Act) (w : World), wpAnyJ P ops Q S m fuel listed a w → wpAnyIn (Fw none) 0 P .any ops Q fuel listed a w
 | 0, _, _, _, h => h
 | fuel + 1, _, _, _, h => ⟨h.1, fun i hi => wpOpIn_mono (fun a' w' h' => wpAnyIn_of_J fuel _ a' w' h'.2) (h.2 i hi)⟩
def YieldsJ (P : Program) (ops : Array Oper) (S : World → Prop) (o : Oper) (v : Value) (a : Act) : Prop := YieldsIf P ops S o v a ∧ ∀ w, o.about P w a.eval = none
theorem YieldsJ.wpOpIn {i : Nat} {o : Oper} {v : Value} {a : Act} (hi : ops[i]? = some o) (hy : YieldsJ P ops S o v a) {K : Act → World → Prop} {w : World} (hS : S w) (h : K (a.put o.dst v) w) : wpOpIn (Fw none) 0 P ops Q i K a w := by
 unfold Go.wpOpIn
 simp only [hi]
 have hab : ∀ f, o.about P w a.eval = some f → (Fw none).fn f := fun f hf => by rw [hy.2 w] at hf; cases hf
 have hro : (Fw none).round = none := rfl
 rcases hy.1 with ⟨hw, hv⟩ | ⟨hw, rfl⟩
 ·simp only [hw, if_true, Oper.wpIn, hro, Oper.semAt_none, hv w hS, Oper.uponIn]; exact ⟨hab, h⟩
 ·simp only [hw, Bool.false_eq_true, if_false]; exact ⟨hab, h⟩
theorem YieldsJ.of_same {o : Oper} {v : Value} {a a' : Act} (hy : YieldsJ P ops S o v a) (he : execOp a'.eval o = execOp a.eval o)
  (hw : Region.wanted o (yielded ops a'.tmps) = Region.wanted o (yielded ops a.tmps)) (hb : ∀ w, o.about P w a'.eval = o.about P w a.eval) : YieldsJ P ops S o v a' :=
 ⟨hy.1.of_same he hw, fun w => by rw [hb w]; exact hy.2 w⟩
theorem wpOpIn_putJ {j : Nat} {oi oj : Oper} {v : Value} (hj : ops[j]? = some oj) (hap : oi.apart ops oj = true)
  (hsi : ∀ cs b, oi.op ≠ .select cs b) (hsj : ∀ cs b, oj.op ≠ .select cs b)
  (hQ : ∀ c a w, Q (.panic c) (a.put oi.dst v) w → Q (.panic c) a w) {K : Act → World → Prop} {a : Act} {w : World}
  (hy : YieldsJ P ops S oi v a) (h : wpOpIn (Fw none) 0 P ops Q j K (a.put oi.dst v) w) :
  wpOpIn (Fw none) 0 P ops Q j (fun a' w' => YieldsJ P ops S oi v a' ∧ K (a'.put oi.dst v) w') a w := by
 obtain ⟨i, g, k⟩ := Oper.apart_spec hap
 have hro : (Fw none).round = none := rfl
 have keep : ∀ (a : Act), YieldsJ P ops S oi v a → ∀ u, YieldsJ P ops S oi v (a.put oj.dst u) := fun a hy u =>
  hy.of_same (execOp_put oi hsi a oj.dst u k) (wanted_put oi a oj.dst u k) (fun w => about_put oi w a oj.dst u k)
 have keepD : ∀ d, YieldsJ P ops S oi v { a with defers := d :: a.defers } := fun d => hy.of_same rfl rfl (fun _ => rfl)
 unfold wpOpIn at *
 simp only [hj] at *
 rw [wanted_put oj a oi.dst v i, about_put oj w a oi.dst v i] at h
 split
 ·rename_i hw
  simp only [hw, if_true] at h
  unfold Oper.wpIn at *
  rw [about_put oj w a oi.dst v i] at h
  refine ⟨h.1, ?_⟩
  have h := h.2
  rw [hro, Oper.semAt_none, execOp_put oj hsj a oi.dst v i] at h
  rw [hro, Oper.semAt_none]
  generalize (execOp a.eval oj).run P w = r at *
  cases r with
  | ok x w' =>
   cases x <;> simp only [Oper.uponIn] at h ⊢
   case value u => exact ⟨keep a hy u, by rw [← Act.put_comm a v u g]; exact h⟩
   case skip => exact ⟨keep a hy _, by rw [← Act.put_comm a v undef g]; exact h⟩
   case defer d =>
    refine ⟨keep _ (keepD d) _, ?_⟩
    rw [← Act.put_comm _ v undef g, ← Act.put_defers]
    exact h
   case enter f args =>
    refine ⟨h.1, CallsIn.mono h.2 fun e w'' he => ?_⟩
    cases e with
    | returned u => exact ⟨keep a hy u, by rw [← Act.put_comm a v u g]; exact he⟩
    | panicked c => exact hQ _ _ _ he
    | outgrown => exact he
   case row row args => exact ⟨h.1, RowsIn.mono h.2 fun u w'' he => ⟨keep a hy u, by rw [← Act.put_comm a v u g]; exact he⟩⟩
   case round l f tmps assign body =>
    refine ⟨h.1, RoundIn.mono h.2 fun e w'' he => ?_⟩
    cases e with
    | returned u => exact ⟨keep a hy u, by rw [← Act.put_comm a v u g]; exact he⟩
    | panicked c => exact hQ _ _ _ he
    | outgrown => exact he
  | halt x w' =>
   cases x <;> simp only [Oper.uponIn] at h ⊢
   case panic u => exact hQ _ _ _ h
 ·rename_i hw
  simp only [hw] at h
  exact ⟨h.1, keep a hy _, by rw [← Act.put_comm a v undef g]; exact h.2⟩
def waitB (ops : Array Oper) (i : Nat) (B : List Nat) : Bool := B.all fun j => Nat.beq j i || (match ops[j]? with | some o => o.after.any (fun e => Region.binds .any e && B.contains e.on) | none => false)
def freeB (L : Array Bool) (B : List Nat) : Bool := B.all fun j => !L.getD j true
theorem free_at {L : Array Bool} {B : List Nat} (h : freeB L B = true) {j : Nat} (hj : j ∈ B) : L.getD j true = false := by
 have := List.all_eq_true.1 h j hj
 simpa using this
theorem not_ready {i j : Nat} {B : List Nat} {L : Array Bool} (hw : waitB ops i B = true) (hf : freeB L B = true) (hj : j ∈ Region.ready .any ops L) (hne : j ≠ i) : j ∉ B := fun hB => by
 have a := List.all_eq_true.1 hw j hB
 obtain ⟨_, o, ho, hall⟩ := mem_ready.1 hj
 rw [ho] at a
 simp only [Bool.or_eq_true] at a
 rcases a with a | a
 ·exact hne (Nat.eq_of_beq_eq_true a)
 ·obtain ⟨e, he, hb⟩ := Array.any_eq_true'.1 a
  simp only [Bool.and_eq_true] at hb
  have b := hall e he hb.1
  have c := free_at hf (List.contains_iff_mem.1 hb.2)
  rcases Nat.lt_or_ge e.on L.size with hs | hs
  ·simp [hs] at b c; rw [b] at c; cases c
  ·simp [Array.getElem?_eq_none hs] at b
theorem free_set {j : Nat} {B : List Nat} {L : Array Bool} (hf : freeB L B = true) (hj : j ∉ B) : freeB (L.setIfInBounds j true) B = true := by
 refine List.all_eq_true.2 fun k hk => ?_
 have := free_at hf hk
 have hjk : j ≠ k := fun e => hj (by rw [e]; exact hk)
 rw [getD_set_ne true hjk, this]; rfl
theorem wpAnyJ_first {i : Nat} {oi : Oper} {v : Value} {B : List Nat} (hi : ops[i]? = some oi) (hsel : ∀ (j : Nat) (o : Oper) cs b, ops[j]? = some o → o.op ≠ .select cs b)
  (hQ : ∀ c a w, Q (.panic c) (a.put oi.dst v) w → Q (.panic c) a w) (hw : waitB ops i B = true) (hm : m ∈ B) :
  ∀ (fuel : Nat) (listed : Array Bool) (a : Act) (w : World),
   (∀ j oj, ops[j]? = some oj → j ≠ i → listed.getD j true = false → (∀ e ∈ oj.after, Region.binds .any e = true → e.on ≠ i) → oi.apart ops oj = true) →
   i ∈ Region.ready .any ops listed → freeB listed B = true → YieldsJ P ops S oi v a → S w →
   wpAnyJ P ops Q S m fuel (listed.setIfInBounds i true) (a.put oi.dst v) w → wpAnyJ P ops Q S m (fuel + 1) listed a w := by
 intro fuel
 induction fuel with
 | zero =>
  intro listed a w _ hr hf hy hS H
  refine ⟨fun h => (by rw [h] at hr; cases hr), fun j hj => ?_⟩
  by_cases hji : j = i
  ·subst hji; exact hy.wpOpIn hi hS ⟨.inr hS, H⟩
  ·have := ready_mono hj hji
   rw [H.1] at this
   cases this
 | succ fuel ih =>
  intro listed a w hfree hr hf hy hS H
  refine ⟨fun h => (by rw [h] at hr; cases hr), fun j hj => ?_⟩
  by_cases hji : j = i
  ·subst hji; exact hy.wpOpIn hi hS ⟨.inr hS, H⟩
  ·have d := H.2 j (ready_mono hj hji)
   obtain ⟨hjun, oj, hoj, hall⟩ := mem_ready.1 hj
   have hnot : ∀ e ∈ oj.after, Region.binds .any e = true → e.on ≠ i := fun e he hb heq => by
    have d := hall e he hb
    have f := (mem_ready.1 hr).1
    rw [heq] at d
    rcases Nat.lt_or_ge i listed.size with h' | h'
    ·simp [h'] at f d; rw [f] at d; cases d
    ·simp [Array.getElem?_eq_none h'] at d
   have g := wpOpIn_putJ hoj (hfree j oj hoj hji hjun hnot) (fun cs b => hsel i oi cs b hi) (fun cs b => hsel j oj cs b hoj) hQ hy d
   have hjB := not_ready hw hf hj hji
   have hfree' : ∀ k ok, ops[k]? = some ok → k ≠ i → (listed.setIfInBounds j true).getD k true = false →
     (∀ e ∈ ok.after, Region.binds .any e = true → e.on ≠ i) → oi.apart ops ok = true := fun k ok hk hki hun hno => by
    refine hfree k ok hk hki ?_ hno
    by_cases hjk : j = k
    ·subst hjk; exact hjun
    ·rw [getD_set_ne true hjk] at hun; exact hun
   refine wpOpIn_mono (fun a' w' h3 => ?_) g
   obtain ⟨hy', hjm, hk⟩ := h3
   have hS' : S w' := hjm.resolve_left (fun e => hjB (e ▸ hm))
   refine ⟨.inr hS', ih (listed.setIfInBounds j true) a' w' hfree' (ready_mono hr (Ne.symm hji)) (free_set hf hjB) hy' hS' ?_⟩
   rw [Array.setIfInBounds_comm _ _ hji]
   exact hk
end
section
variable {P : Program} {n : Nat} {Q : Post} {s : Fm} {w : World} {ops : Array Oper} {S : World → Prop} {m fuel : Nat} {listed : Array Bool}
def Lj (P : Program) (n : Nat) (ops : Array Oper) (Q : Post) (S : World → Prop) (m fuel : Nat) (listed : Array Bool) (s : Fm) (w : World) : Prop := wpAnyJ P ops (upQ n Q) S m fuel listed (s.act n) w
theorem W_heldJ {r : Option Nat} {id : Nat} {l : List Oper} (m N : Nat) (hN : Nat.beq l.length N = true) (hm : P.follows .mixedOrders = true) (hd : noDefers l.toArray = true)
  (h : ∀ w', Below w.heap.size w w' → ∃ S, Lj P n l.toArray Q S m N (Array.replicate N false) s w') : W r P n (.region id l.toArray true) Q s w := by
 refine W_draws N hN hm hd fun w' hw' => ?_
 obtain ⟨S, hS⟩ := h w' hw'
 unfold Li
 exact wpAnyIn_of_J _ _ _ _ hS
theorem J_take (i : Nat) (B : List Nat) {o : Oper} (v : Value) (hi : ops[i]? = some o) (hs : Region.noSelect ops = true) (hf : Region.free .any ops listed i = true) (hr : (Region.ready .any ops listed).contains i = true)
  (hc : noCall o.op = true) (hw : wantB ops n s o.guard = true) (hb : waitB ops i B = true) (hB : freeB listed B = true) (hm : B.contains m = true) (hq : NoPanic Q) (hS : S w) (hrun : RunOk P n o s S v) (h : Lj P n ops Q S m fuel (listed.setIfInBounds i true) (s.put o.dst v) w) : Lj P n ops Q S m (fuel + 1) listed s w := by
 unfold Lj at h ⊢
 refine wpAnyJ_first (v := v) hi (Region.noSelect_spec hs) ?_ hb (List.contains_iff_mem.1 hm) fuel listed (s.act n) w (Region.free_spec hi hf) (by simpa using hr) hB ⟨.inl ⟨?_, ?_⟩, fun w => about_none hc w _⟩ hS ?_
 ·intro c a w hp
  obtain ⟨s', _, hp⟩ := hp
  exact absurd hp (hq c s' w)
 ·rw [qK]; exact hw
 ·intro w' hw'; rw [qI]; exact hrun w' hw'
 ·rw [qP]; exact h
theorem J_done (hr : Region.ready .any ops listed = []) (h : Q .normal s w) : Lj P n ops Q S m fuel listed s w := by
 unfold Lj
 cases fuel with
 | zero => exact ⟨hr, s, rfl, h⟩
 | succ k => exact ⟨fun _ => ⟨s, rfl, h⟩, by rw [hr]; simp⟩
def Jop (P : Program) (n : Nat) (ops : Array Oper) (Q : Post) (S : World → Prop) (m fuel : Nat) (listed : Array Bool) (i : Nat) (s : Fm) (w : World) : Prop :=
  wpOpIn (Fw none) 0 P ops (upQ n Q) i (fun a' w' => (i = m ∨ S w') ∧ wpAnyJ P ops (upQ n Q) S m fuel (listed.setIfInBounds i true) a' w') (s.act n) w
theorem J_all1 (i : Nat) (hr : Region.ready .any ops listed = [i]) (h : Jop P n ops Q S m fuel listed i s w) : Lj P n ops Q S m (fuel + 1) listed s w := by
 unfold Lj
 refine ⟨fun h0 => (by rw [hr] at h0; cases h0), fun j hj => ?_⟩
 rw [hr] at hj
 obtain rfl : j = i := by simpa using hj
 exact h
theorem J_all2 (i k : Nat) (hr : Region.ready .any ops listed = [i, k]) (h : Jop P n ops Q S m fuel listed i s w) (h2 : Jop P n ops Q S m fuel listed k s w) : Lj P n ops Q S m (fuel + 1) listed s w := by
 unfold Lj
 refine ⟨fun h0 => (by rw [hr] at h0; cases h0), fun j hj => ?_⟩
 rw [hr] at hj
 simp only [List.mem_cons, List.not_mem_nil, or_false] at hj
 rcases hj with rfl | rfl
 ·exact h
 ·exact h2
theorem J_op (i : Nat) {o : Oper} (hi : ops[i]? = some o)
  (h : L none P n ops (fun e s' w' => e = .normal ∧ (i = m ∨ S w') ∧ Lj P n ops Q S m fuel (listed.setIfInBounds i true) s' w') [o] s w) (hg : o.guard = none) : Jop P n ops Q S m fuel listed i s w := by
 unfold Jop wpOpIn
 rw [hi]
 rw [L_iff] at h
 unfold wpListIn at h
 have hwant : Region.wanted o (yielded ops (s.act n).tmps) = true := by rw [qK, hg]; rfl
 rw [if_pos hwant] at h
 simp only [hwant, if_true]
 have key : ∀ {a w'}, wpListIn (Fw none) 0 P ops (upQ n fun e s' w' => e = .normal ∧ (i = m ∨ S w') ∧ Lj P n ops Q S m fuel (listed.setIfInBounds i true) s' w') [] a w' → ((i = m ∨ S w') ∧ wpAnyJ P ops (upQ n Q) S m fuel (listed.setIfInBounds i true) a w') := by
  rintro a w' ⟨s', rfl, _, hL⟩
  exact hL
 have h := Oper.wpIn_mono (fun a w => key) h
 unfold Oper.wpIn at h ⊢
 refine ⟨h.1, ?_⟩
 have b := h.2
 generalize (o.semAt (Fw none).round (s.act n).eval).run P w = r at b
 cases r with
 | ok x w' =>
  cases x <;> simp only [Oper.uponIn] at b ⊢ <;> first
   | exact b
   | exact ⟨b.1, CallsIn.mono b.2 (fun e w'' he => by
     cases e with
     | returned v => exact he
     | panicked c => obtain ⟨s', _, he, _⟩ := he; cases he
     | outgrown => exfalso; obtain ⟨_, _, s', _, he, _⟩ := he; cases he)⟩
   | exact ⟨b.1, RoundIn.mono b.2 (fun e w'' he => by
     cases e with
     | returned v => exact he
     | panicked c => obtain ⟨s', _, he, _⟩ := he; cases he
     | outgrown => exfalso; obtain ⟨_, _, s', _, he, _⟩ := he; cases he)⟩
 | halt x w' =>
  cases x <;> first
   | (exfalso; simp only [Oper.uponIn] at b; obtain ⟨s', _, he, _⟩ := b; cases he)
   | exact b
end
section
variable {P : Program} {n : Nat} {Q : Post} {s : Fm} {w : World} {ops : Array Oper} {S : World → Prop} {m fuel : Nat} {listed : Array Bool}
theorem jt (i : Nat) (B : List Nat) {o : Oper} (hi : ops[i]? = some o) (v : Value) (hS : S w) (hrun : RunOk P n o s S v) (h : Lj P n ops Q S m fuel (listed.setIfInBounds i true) (s.put o.dst v) w)
  (hs : Region.noSelect ops = true := by kernel_rfl) (hf : Region.free .any ops listed i = true := by kernel_rfl) (hr : (Region.ready .any ops listed).contains i = true := by kernel_rfl) (hc : noCall o.op = true := by kernel_rfl) (hw : wantB ops n s o.guard = true := by kernel_rfl) (hb : waitB ops i B = true := by kernel_rfl) (hB : freeB listed B = true := by kernel_rfl) (hm : B.contains m = true := by kernel_rfl)
  (hq : NoPanic Q := by with_reducible repeat first | exact vE | exact qM | exact qY | apply qQ | apply vI | apply uE) : Lj P n ops Q S m (fuel + 1) listed s w :=
 J_take i B v hi hs hf hr hc hw hb hB hm hq hS hrun h
theorem jp (i : Nat) (B : List Nat) {o : Oper} (hi : ops[i]? = some o) (v : Value) (hS : S w) (h : Lj P n ops Q S m fuel (listed.setIfInBounds i true) (s.put o.dst v) w)
  (hs : Region.noSelect ops = true := by kernel_rfl) (hf : Region.free .any ops listed i = true := by kernel_rfl) (hr : (Region.ready .any ops listed).contains i = true := by kernel_rfl) (hc : noCall o.op = true := by kernel_rfl) (hw : wantB ops n s o.guard = true := by kernel_rfl) (hb : waitB ops i B = true := by kernel_rfl) (hB : freeB listed B = true := by kernel_rfl) (hm : B.contains m = true := by kernel_rfl)
  (hq : NoPanic Q := by with_reducible repeat first | exact vE | exact qM | exact qY | apply qQ | apply vI | apply uE) (hrun : RunOk P n o s S v := by exact fun _ _ => by kernel_rfl) : Lj P n ops Q S m (fuel + 1) listed s w :=
 J_take i B v hi hs hf hr hc hw hb hB hm hq hS hrun h
end
attribute [irreducible] Jop Lj
end Go.FK
end

/- === FKbc === -/
section
/- FKbc: in a region whose operations may come in any order: numbers added, the address of an element: they hang on no world. My own text. -/
namespace Go.FK
open Go Go.RowKit
section
variable {P : Program} {n : Nat} {s : Fm} {d : Option Tmp} {ty : TypeId} {pos : String} {af : Array Edge} {g : Option (Nat × Bool)}
theorem RI_arith {op : BinOp} {t yt : TypeId} {X Y : Operand} {k : IntKind} (x y z : Int) (hop : isArith op = true) (hx : s.ev n X = .int k x) (hy : s.ev n Y = .int k y) (hz : k.wrap (arithZ op x y) = z) :
  ∀ w', (execOp (s.ev n) ⟨d, .binOp op t X Y yt, ty, pos, af, g⟩).run P w' = .ok (.value (.int k z)) w' := by
 intro w'
 have a : (binOp op t (.int k x) (.int k y)).run P w' = .ok (.int k z) w' := by
  subst hz
  cases op <;> first | (simp [isArith] at hop; done) | (simp [binOp, Op.intArith, arithZ, Sem.run_pure])
 have b := xV (P := P) (w := w') (op := op) (t := t) (k := k) (x := x) (k' := k) (y := y)
 simp only [execOp, hx, hy, Sem.run_bind, a, b, Result.andThen_ok, Sem.run_pure]
theorem wO {t yt : TypeId} {X Y : Operand} (a b : Nat) (hb : a + b ≤ 9223372036854775807) (hx : s.ev n X = .int .i64 a) (hy : s.ev n Y = .int .i64 b) :
  ∀ w', (execOp (s.ev n) ⟨d, .binOp .add t X Y yt, ty, pos, af, g⟩).run P w' = .ok (.value (.int .i64 ((a + b : Nat) : Int))) w' :=
 RI_arith a b _ rfl hx hy (by rw [show arithZ .add (a : Int) b = ((a + b : Nat) : Int) by simp [arithZ]]; exact yW _ (by omega) (by omega))
theorem RI_subN {t yt : TypeId} {X Y : Operand} (a b : Nat) (hb : b ≤ a) (ha : a ≤ 9223372036854775807) (hx : s.ev n X = .int .i64 a) (hy : s.ev n Y = .int .i64 b) :
  ∀ w', (execOp (s.ev n) ⟨d, .binOp .sub t X Y yt, ty, pos, af, g⟩).run P w' = .ok (.value (.int .i64 ((a - b : Nat) : Int))) w' :=
 RI_arith a b _ rfl hx hy (by rw [show arithZ .sub (a : Int) b = ((a - b : Nat) : Int) by simp [arithZ]; omega]; exact yW _ (by omega) (by omega))
end
theorem Rd.later {α : Type} {w : World} {k : Nat} {enc : α → List Value} {v : Value} {xs : List α} (h : Rd w enc v xs) (hk : ∀ x, (enc x).length = k) {i : Nat} {x : α} {g off m : Nat} (hl : Lies v g off m) (hx : xs[i]? = some x) :
  ∀ j u, (enc x)[j]? = some u → w.cell? ⟨g, off + i * k + j, none⟩ = some u := by
 obtain ⟨e, a, ⟨f, b⟩, d⟩ := h.at hk hx
 obtain ⟨c, rfl⟩ := hl
 injection b with e1 _ _
 injection e1 with e1
 injection e1 with e2 e3
 subst e2 e3
 exact d
section
variable {P : Program} {n : Nat} {s : Fm} {d : Option Tmp} {ty : TypeId} {pos : String} {af : Array Edge} {g : Option (Nat × Bool)} {S : World → Prop}
theorem R_ixaddrZ {X I : Operand} {k : IntKind} {T E ke bytes : Nat} (v : Value) (z : Int) (i m b off : Nat) (hz : z = (i : Int)) (he : Elem P T E ke bytes) (hl : Lies v b off m) (him : i < m) (hx : s.ev n X = v) (hi : s.ev n I = .int k z) :
  RunOk P n ⟨d, .indexAddr T X I, ty, pos, af, g⟩ s S (.pointer (some ⟨b, off + i * ke, none⟩)) := by
 subst hz; exact yF v i m b off he hl him hx hi
end
end Go.FK
end

/- === FKbd === -/
section
/- FKbd: regions that draw their order, as FKap, but the condition on the world is asked only until the operation m has come; an operation that hangs on no world is taken first, whoever waits for it; a look into a map; a map copied, a map taken back out of an interface. My own text. -/
namespace Go.FK
open Go Go.RowKit Go.Proofs
section
variable {P : Program} {ops : Array Oper} {Q : Exit → Act → World → Prop} {S : World → Prop} {m : Nat}
def wpAnyM (P : Program) (ops : Array Oper) (Q : Exit → Act → World → Prop) (S : World → Prop) (m : Nat) : Nat → Array Bool → Act → World → Prop
  | 0, listed, a, w => Region.ready .any ops listed = [] ∧ Q .normal a w
  | fuel + 1, listed, a, w => (Region.ready .any ops listed = [] → Q .normal a w) ∧
    ∀ i ∈ Region.ready .any ops listed, wpOpIn (Fw none) 0 P ops Q i (fun a' w' => ((listed.setIfInBounds i true).getD m true = true ∨ S w') ∧ wpAnyM P ops Q S m fuel (listed.setIfInBounds i true) a' w') a w
theorem wpAnyIn_of_M : ∀ (fuel : Nat) (listed : Array Bool) (a : Act) (w : World), wpAnyM P ops Q S m fuel listed a w → wpAnyIn (Fw none) 0 P .any ops Q fuel listed a w
 | 0, _, _, _, h => h
 | fuel + 1, _, _, _, h => ⟨h.1, fun i hi => wpOpIn_mono (fun a' w' h' => wpAnyIn_of_M fuel _ a' w' h'.2) (h.2 i hi)⟩
theorem wpAnyM_first {i : Nat} {oi : Oper} {v : Value} {B : List Nat} (hi : ops[i]? = some oi) (hsel : ∀ (j : Nat) (o : Oper) cs b, ops[j]? = some o → o.op ≠ .select cs b)
  (hQ : ∀ c a w, Q (.panic c) (a.put oi.dst v) w → Q (.panic c) a w) (hw : waitB ops i B = true) (hm : m ∈ B) (hmi : m ≠ i) :
  ∀ (fuel : Nat) (listed : Array Bool) (a : Act) (w : World),
   (∀ j oj, ops[j]? = some oj → j ≠ i → listed.getD j true = false → (∀ e ∈ oj.after, Region.binds .any e = true → e.on ≠ i) → oi.apart ops oj = true) →
   i ∈ Region.ready .any ops listed → freeB listed B = true → YieldsJ P ops S oi v a → S w →
   wpAnyM P ops Q S m fuel (listed.setIfInBounds i true) (a.put oi.dst v) w → wpAnyM P ops Q S m (fuel + 1) listed a w := by
 intro fuel
 induction fuel with
 | zero =>
  intro listed a w _ hr hf hy hS H
  refine ⟨fun h => (by rw [h] at hr; cases hr), fun j hj => ?_⟩
  by_cases hji : j = i
  ·subst hji; exact hy.wpOpIn hi hS ⟨.inr hS, H⟩
  ·have := ready_mono hj hji
   rw [H.1] at this
   cases this
 | succ fuel ih =>
  intro listed a w hfree hr hf hy hS H
  refine ⟨fun h => (by rw [h] at hr; cases hr), fun j hj => ?_⟩
  by_cases hji : j = i
  ·subst hji; exact hy.wpOpIn hi hS ⟨.inr hS, H⟩
  ·have d := H.2 j (ready_mono hj hji)
   obtain ⟨hjun, oj, hoj, hall⟩ := mem_ready.1 hj
   have hnot : ∀ e ∈ oj.after, Region.binds .any e = true → e.on ≠ i := fun e he hb heq => by
    have d := hall e he hb
    have f := (mem_ready.1 hr).1
    rw [heq] at d
    rcases Nat.lt_or_ge i listed.size with h' | h'
    ·simp [h'] at f d; rw [f] at d; cases d
    ·simp [Array.getElem?_eq_none h'] at d
   have g := wpOpIn_putJ hoj (hfree j oj hoj hji hjun hnot) (fun cs b => hsel i oi cs b hi) (fun cs b => hsel j oj cs b hoj) hQ hy d
   have hfree' : ∀ k ok, ops[k]? = some ok → k ≠ i → (listed.setIfInBounds j true).getD k true = false →
     (∀ e ∈ ok.after, Region.binds .any e = true → e.on ≠ i) → oi.apart ops ok = true := fun k ok hk hki hun hno => by
    refine hfree k ok hk hki ?_ hno
    by_cases hjk : j = k
    ·subst hjk; exact hjun
    ·rw [getD_set_ne true hjk] at hun; exact hun
   refine wpOpIn_mono (fun a' w' h3 => ?_) g
   obtain ⟨hy', hjm, hk⟩ := h3
   rw [Array.setIfInBounds_comm _ _ (Ne.symm hji), getD_set_ne true (Ne.symm hmi)] at hjm
   have hjB := not_ready hw hf hj hji
   have hS' : S w' := by
    rcases hjm with hjm | hjm
    ·rw [getD_set_ne true (fun e : j = m => hjB (by rw [e]; exact hm)), free_at hf hm] at hjm; cases hjm
    ·exact hjm
   refine ⟨hjm, ih (listed.setIfInBounds j true) a' w' hfree' (ready_mono hr (Ne.symm hji)) (free_set hf hjB) hy' hS' ?_⟩
   rw [Array.setIfInBounds_comm _ _ hji]
   exact hk
theorem wpAnyM_pure {i : Nat} {oi : Oper} {v : Value} (hi : ops[i]? = some oi) (hsel : ∀ (j : Nat) (o : Oper) cs b, ops[j]? = some o → o.op ≠ .select cs b)
  (hQ : ∀ c a w, Q (.panic c) (a.put oi.dst v) w → Q (.panic c) a w) (hmi : m ≠ i) :
  ∀ (fuel : Nat) (listed : Array Bool) (a : Act) (w : World),
   (∀ j oj, ops[j]? = some oj → j ≠ i → listed.getD j true = false → (∀ e ∈ oj.after, Region.binds .any e = true → e.on ≠ i) → oi.apart ops oj = true) →
   i ∈ Region.ready .any ops listed → YieldsJ P ops (fun _ => True) oi v a → (listed.getD m true = true ∨ S w) →
   wpAnyM P ops Q S m fuel (listed.setIfInBounds i true) (a.put oi.dst v) w → wpAnyM P ops Q S m (fuel + 1) listed a w := by
 intro fuel
 induction fuel with
 | zero =>
  intro listed a w _ hr hy hS H
  refine ⟨fun h => (by rw [h] at hr; cases hr), fun j hj => ?_⟩
  by_cases hji : j = i
  ·subst hji; exact hy.wpOpIn hi trivial ⟨by rw [getD_set_ne true (Ne.symm hmi)]; exact hS, H⟩
  ·have := ready_mono hj hji
   rw [H.1] at this
   cases this
 | succ fuel ih =>
  intro listed a w hfree hr hy hS H
  refine ⟨fun h => (by rw [h] at hr; cases hr), fun j hj => ?_⟩
  by_cases hji : j = i
  ·subst hji; exact hy.wpOpIn hi trivial ⟨by rw [getD_set_ne true (Ne.symm hmi)]; exact hS, H⟩
  ·have d := H.2 j (ready_mono hj hji)
   obtain ⟨hjun, oj, hoj, hall⟩ := mem_ready.1 hj
   have hnot : ∀ e ∈ oj.after, Region.binds .any e = true → e.on ≠ i := fun e he hb heq => by
    have d := hall e he hb
    have f := (mem_ready.1 hr).1
    rw [heq] at d
    rcases Nat.lt_or_ge i listed.size with h' | h'
    ·simp [h'] at f d; rw [f] at d; cases d
    ·simp [Array.getElem?_eq_none h'] at d
   have g := wpOpIn_putJ hoj (hfree j oj hoj hji hjun hnot) (fun cs b => hsel i oi cs b hi) (fun cs b => hsel j oj cs b hoj) hQ hy d
   have hfree' : ∀ k ok, ops[k]? = some ok → k ≠ i → (listed.setIfInBounds j true).getD k true = false →
     (∀ e ∈ ok.after, Region.binds .any e = true → e.on ≠ i) → oi.apart ops ok = true := fun k ok hk hki hun hno => by
    refine hfree k ok hk hki ?_ hno
    by_cases hjk : j = k
    ·subst hjk; exact hjun
    ·rw [getD_set_ne true hjk] at hun; exact hun
   refine wpOpIn_mono (fun a' w' h3 => ?_) g
   obtain ⟨hy', hjm, hk⟩ := h3
   rw [Array.setIfInBounds_comm _ _ (Ne.symm hji), getD_set_ne true (Ne.symm hmi)] at hjm
   skip
   refine ⟨hjm, ih (listed.setIfInBounds j true) a' w' hfree' (ready_mono hr (Ne.symm hji)) hy' hjm ?_⟩
   rw [Array.setIfInBounds_comm _ _ hji]
   exact hk
end
section
variable {P : Program} {n : Nat} {Q : Post} {s : Fm} {w : World} {ops : Array Oper} {S : World → Prop} {m fuel : Nat} {listed : Array Bool}
def Lm (P : Program) (n : Nat) (ops : Array Oper) (Q : Post) (S : World → Prop) (m fuel : Nat) (listed : Array Bool) (s : Fm) (w : World) : Prop := wpAnyM P ops (upQ n Q) S m fuel listed (s.act n) w
theorem xB {r : Option Nat} {id : Nat} {l : List Oper} (m N : Nat) (hN : Nat.beq l.length N = true) (hm : P.follows .mixedOrders = true) (hd : noDefers l.toArray = true)
  (h : ∀ w', Below w.heap.size w w' → ∃ S, Lm P n l.toArray Q S m N (Array.replicate N false) s w') : W r P n (.region id l.toArray true) Q s w := by
 refine W_draws N hN hm hd fun w' hw' => ?_
 obtain ⟨S, hS⟩ := h w' hw'
 unfold Li
 exact wpAnyIn_of_M _ _ _ _ hS
theorem M_take (i : Nat) (B : List Nat) {o : Oper} (v : Value) (hi : ops[i]? = some o) (hs : Region.noSelect ops = true) (hf : Region.free .any ops listed i = true) (hr : (Region.ready .any ops listed).contains i = true)
  (hc : noCall o.op = true) (hw : wantB ops n s o.guard = true) (hb : waitB ops i B = true) (hB : freeB listed B = true) (hm : B.contains m = true) (hmi : Nat.beq m i = false) (hq : NoPanic Q) (hS : S w) (hrun : RunOk P n o s S v) (h : Lm P n ops Q S m fuel (listed.setIfInBounds i true) (s.put o.dst v) w) : Lm P n ops Q S m (fuel + 1) listed s w := by
 unfold Lm at h ⊢
 refine wpAnyM_first (v := v) hi (Region.noSelect_spec hs) ?_ hb (List.contains_iff_mem.1 hm) (fun e => by rw [e, Nat.beq_refl] at hmi; cases hmi) fuel listed (s.act n) w (Region.free_spec hi hf) (by simpa using hr) hB ⟨.inl ⟨?_, ?_⟩, fun w => about_none hc w _⟩ hS ?_
 ·intro c a w hp
  obtain ⟨s', _, hp⟩ := hp
  exact absurd hp (hq c s' w)
 ·rw [qK]; exact hw
 ·intro w' hw'; rw [qI]; exact hrun w' hw'
 ·rw [qP]; exact h
theorem M_pure (i : Nat) {o : Oper} (v : Value) (hi : ops[i]? = some o) (hs : Region.noSelect ops = true) (hf : Region.free .any ops listed i = true) (hr : (Region.ready .any ops listed).contains i = true)
  (hc : noCall o.op = true) (hw : wantB ops n s o.guard = true) (hmi : Nat.beq m i = false) (hq : NoPanic Q) (hS : listed.getD m true = true ∨ S w) (hrun : RunOk P n o s (fun _ => True) v) (h : Lm P n ops Q S m fuel (listed.setIfInBounds i true) (s.put o.dst v) w) : Lm P n ops Q S m (fuel + 1) listed s w := by
 unfold Lm at h ⊢
 refine wpAnyM_pure (v := v) hi (Region.noSelect_spec hs) ?_ (fun e => by rw [e, Nat.beq_refl] at hmi; cases hmi) fuel listed (s.act n) w (Region.free_spec hi hf) (by simpa using hr) ⟨.inl ⟨?_, ?_⟩, fun w => about_none hc w _⟩ hS ?_
 ·intro c a w hp
  obtain ⟨s', _, hp⟩ := hp
  exact absurd hp (hq c s' w)
 ·rw [qK]; exact hw
 ·intro w' hw'; rw [qI]; exact hrun w' hw'
 ·rw [qP]; exact h
theorem yO (hr : Region.ready .any ops listed = []) (h : Q .normal s w) : Lm P n ops Q S m fuel listed s w := by
 unfold Lm
 cases fuel with
 | zero => exact ⟨hr, s, rfl, h⟩
 | succ k => exact ⟨fun _ => ⟨s, rfl, h⟩, by rw [hr]; simp⟩
def Mop (P : Program) (n : Nat) (ops : Array Oper) (Q : Post) (S : World → Prop) (m fuel : Nat) (listed : Array Bool) (i : Nat) (s : Fm) (w : World) : Prop :=
  wpOpIn (Fw none) 0 P ops (upQ n Q) i (fun a' w' => ((listed.setIfInBounds i true).getD m true = true ∨ S w') ∧ wpAnyM P ops (upQ n Q) S m fuel (listed.setIfInBounds i true) a' w') (s.act n) w
theorem yD (i : Nat) (hr : Region.ready .any ops listed = [i]) (h : Mop P n ops Q S m fuel listed i s w) : Lm P n ops Q S m (fuel + 1) listed s w := by
 unfold Lm
 refine ⟨fun h0 => (by rw [hr] at h0; cases h0), fun j hj => ?_⟩
 rw [hr] at hj
 obtain rfl : j = i := by simpa using hj
 exact h
theorem wS (i k : Nat) (hr : Region.ready .any ops listed = [i, k]) (h : Mop P n ops Q S m fuel listed i s w) (h2 : Mop P n ops Q S m fuel listed k s w) : Lm P n ops Q S m (fuel + 1) listed s w := by
 unfold Lm
 refine ⟨fun h0 => (by rw [hr] at h0; cases h0), fun j hj => ?_⟩
 rw [hr] at hj
 simp only [List.mem_cons, List.not_mem_nil, or_false] at hj
 rcases hj with rfl | rfl
 ·exact h
 ·exact h2
theorem yJ (i : Nat) {o : Oper} (hi : ops[i]? = some o)
  (h : L none P n ops (fun e s' w' => e = .normal ∧ ((listed.setIfInBounds i true).getD m true = true ∨ S w') ∧ Lm P n ops Q S m fuel (listed.setIfInBounds i true) s' w') [o] s w) (hg : wantB ops n s o.guard = true) : Mop P n ops Q S m fuel listed i s w := by
 unfold Mop wpOpIn
 rw [hi]
 rw [L_iff] at h
 unfold wpListIn at h
 have hwant : Region.wanted o (yielded ops (s.act n).tmps) = true := by rw [qK]; exact hg
 rw [if_pos hwant] at h
 simp only [hwant, if_true]
 have key : ∀ {a w'}, wpListIn (Fw none) 0 P ops (upQ n fun e s' w' => e = .normal ∧ ((listed.setIfInBounds i true).getD m true = true ∨ S w') ∧ Lm P n ops Q S m fuel (listed.setIfInBounds i true) s' w') [] a w' → (((listed.setIfInBounds i true).getD m true = true ∨ S w') ∧ wpAnyM P ops (upQ n Q) S m fuel (listed.setIfInBounds i true) a w') := by
  rintro a w' ⟨s', rfl, _, hL⟩
  exact hL
 have h := Oper.wpIn_mono (fun a w => key) h
 unfold Oper.wpIn at h ⊢
 refine ⟨h.1, ?_⟩
 have b := h.2
 generalize (o.semAt (Fw none).round (s.act n).eval).run P w = r at b
 cases r with
 | ok x w' =>
  cases x <;> simp only [Oper.uponIn] at b ⊢ <;> first
   | exact b
   | exact ⟨b.1, CallsIn.mono b.2 (fun e w'' he => by
     cases e with
     | returned v => exact he
     | panicked c => obtain ⟨s', _, he, _⟩ := he; cases he
     | outgrown => exfalso; obtain ⟨_, _, s', _, he, _⟩ := he; cases he)⟩
   | exact ⟨b.1, RoundIn.mono b.2 (fun e w'' he => by
     cases e with
     | returned v => exact he
     | panicked c => obtain ⟨s', _, he, _⟩ := he; cases he
     | outgrown => exfalso; obtain ⟨_, _, s', _, he, _⟩ := he; cases he)⟩
 | halt x w' =>
  cases x <;> first
   | (exfalso; simp only [Oper.uponIn] at b; obtain ⟨s', _, he, _⟩ := b; cases he)
   | exact b
theorem mt (i : Nat) (B : List Nat) {o : Oper} (hi : ops[i]? = some o) (v : Value) (hS : S w) (hrun : RunOk P n o s S v) (h : Lm P n ops Q S m fuel (listed.setIfInBounds i true) (s.put o.dst v) w)
  (hs : Region.noSelect ops = true := by kernel_rfl) (hf : Region.free .any ops listed i = true := by kernel_rfl) (hr : (Region.ready .any ops listed).contains i = true := by kernel_rfl) (hc : noCall o.op = true := by kernel_rfl) (hw : wantB ops n s o.guard = true := by kernel_rfl) (hb : waitB ops i B = true := by kernel_rfl) (hB : freeB listed B = true := by kernel_rfl) (hm : B.contains m = true := by kernel_rfl) (hmi : Nat.beq m i = false := by kernel_rfl)
  (hq : NoPanic Q := by with_reducible repeat first | exact vE | exact qM | exact qY | apply qQ | apply vI | apply uE) : Lm P n ops Q S m (fuel + 1) listed s w :=
 M_take i B v hi hs hf hr hc hw hb hB hm hmi hq hS hrun h
theorem mp (i : Nat) {o : Oper} (hi : ops[i]? = some o) (v : Value) (hS : listed.getD m true = true ∨ S w) (hrun : RunOk P n o s (fun _ => True) v) (h : Lm P n ops Q S m fuel (listed.setIfInBounds i true) (s.put o.dst v) w)
  (hs : Region.noSelect ops = true := by kernel_rfl) (hf : Region.free .any ops listed i = true := by kernel_rfl) (hr : (Region.ready .any ops listed).contains i = true := by kernel_rfl) (hc : noCall o.op = true := by kernel_rfl) (hw : wantB ops n s o.guard = true := by kernel_rfl) (hmi : Nat.beq m i = false := by kernel_rfl)
  (hq : NoPanic Q := by with_reducible repeat first | exact vE | exact qM | exact qY | apply qQ | apply vI | apply uE) : Lm P n ops Q S m (fuel + 1) listed s w :=
 M_pure i v hi hs hf hr hc hw hmi hq hS hrun h
end
attribute [irreducible] Mop Lm
section
variable {α : Type} {f : α → Value}
variable {P : Program} {n : Nat} {s : Fm} {d : Option Tmp} {ty : TypeId} {pos : String} {af : Array Edge} {g : Option (Nat × Bool)} {S : World → Prop}
theorem R_glook {T kt et : TypeId} {X Y : Operand} {k : IntKind} {v : Value} (a0 : α) (x : Int) (l : List (Int × α)) (ht : P.underlying T = some (.map kt et)) (hk : P.underlying kt = some (.int k)) (hz : (P.info? et).map (·.zero) = some (some (f a0)))
  (hX : s.ev n X = v) (hY : s.ev n Y = .int k x) (hv : ∀ w, S w → GmAt k f w v l) : RunOk P n ⟨d, .lookup T X Y true, ty, pos, af, g⟩ s S (.tuple #[f ((gget l x).getD a0), .bool (gget l x).isSome]) := by
 intro w hw
 simp only [execOp, hX, hY, Sem.run_bind, run_lookG a0 x l true ht hk hz (hv w hw), Result.andThen_ok, Sem.run_pure]; rfl
end
section
variable {α : Type} {fm : α → Value}
variable {r : Option Nat} {P : Program} {n : Nat} {Q : Post} {s : Fm} {w : World} {ops : Array Oper} {rest : List Oper}
variable {d : Option Tmp} {ty : TypeId} {pos : String} {af : Array Edge}
end
section
variable {α : Type} {f : α → Value}
variable {P : Program} {n : Nat} {K : Fm → Prop} {s : Fm} {w : World} {ops : Array Oper} {rest : List Oper}
variable {d : Option Tmp} {ty : TypeId} {pos : String} {af : Array Edge}
end
def PtAt (v : Value) (cs : List Value) (A : World) : Prop := ∃ g off, v = .pointer (some ⟨g, off, none⟩) ∧ ∀ j u, cs[j]? = some u → A.cell? ⟨g, off + j, none⟩ = some u
end Go.FK
end

/- === FKai === -/
section
/- FKai: a call walked in place; an iterator that hands its yield on to another one. My own text. -/
namespace Go.FK
open Go Go.RowKit
section
variable {r : Option Nat} {P : Program} {n : Nat} {Q : Post} {s : Fm} {w : World} {ops : Array Oper} {rest : List Oper}
variable {d : Option Tmp} {ty : TypeId} {pos : String} {af : Array Edge}
theorem L_inline {op : Op} (f : FuncId) (args : List Value) (hrun : (execOp (s.ev n) ⟨d, op, ty, pos, af, none⟩).run P w = .ok (.enter f args.toArray) w) (hd : notDefer op = true)
  (hc : Calls P f args.toArray w (Ret fun v w' => L r P n ops Q rest (s.put d v) w')) : L r P n ops Q (⟨d, op, ty, pos, af, none⟩ :: rest) s w :=
 L_call f args hrun hd hc (fun _ _ h => h)
end
def encVal (v : Value) : List Value := [v]
end Go.FK
end

/- === Wcb1 === -/
section
/- Walks, written by my program walk.py out of the specification cb1.py: each theorem says what one function returns and that it leaves memory as it was. -/
namespace Go.Proofs.YtddnhlobnembaaaGreatDoor
open Go Go.RowKit Go.FK _root_.Go.Proofs.Tryz
set_option maxHeartbeats 4000000
set_option maxRecDepth 100000
theorem qJ : Elem Tryz.prog 22 26 3 12 := ⟨underlying22, zk, rfl⟩
theorem c_point (r : Int) (w : World) :
  Calls Tryz.prog 95 #[(I3 r)] w (Ret fun v w' => v = (.bool (ptB r)) ∧ Below w.heap.size w w') := by
 refine wI 9 func95 rfl ?_
 have a := Below.refl w.heap.size w
 refine wR (zG (nR (zD (zGe .i32 r 0 ?_ ?_))))
 ·intro d
  refine zD (zw (zD (zw (zLe .i32 r 1114111 ?_ ?_))))
  ·intro b
   exact xG (zG (nQ (zS (yC [(.bool true)] ⟨eb (by exact (ptB_y zo zo).symm), a⟩))))
  intro e
  exact xG (zG (nQ (zS (yC [(.bool false)] ⟨eb (by exact (ptB_n zo).symm), a⟩))))
 intro c
 exact zD (zs (zs (xF (zG (nQ (zS (yC [(.bool false)] ⟨eb (by exact (ptB_n zo).symm), a⟩)))))))
theorem c_may (xa : Int) (xo : Int) (xs : Int) (w : World) :
  Calls Tryz.prog 61 #[(Value.agg #[(I3 xa), (I3 xo), (U8 xs)])] w (Ret fun v w' => v = (I6 (mayE (xa, xo, xs))) ∧ Below w.heap.size w w') := by
 refine wI 30 func61 rfl ?_
 have b := Below.refl w.heap.size w
 refine wR (zN [(I3 xa), (I3 xo), (U8 xs)] 26 ?_)
 intro f s c
 have g := c.ge b.size
 have a := c.here
 refine zG (nW (wR (uF 0 a rfl (zc (c_point xa _ ) ?_))))
 rintro _ r ⟨rfl, d⟩
 refine yK (ptB xa) ?_ ?_
 ·intro q
  have a := zA a d
  refine wW true (zD (zw (zr (pt f 1) (zw (zO 1 a rfl (zw (zc (c_point xo _ ) ?_)))))))
  rintro _ t ⟨rfl, e⟩
  refine yK (ptB xo) ?_ ?_
  ·intro k
   have a := zA a e
   refine zw (wW true (xF (zD (zw (zr (pt f 0) (zw (zO 0 a rfl (zw (zr (pt f 1) (zw (zO 1 a rfl (zw (qA .i32 xa xo ?_ ?_)))))))))))))
   ·intro l
    have b := ((b.tr c.below).tr d).tr e
    exact xF (zD (zs (zs (zs (zs (zs (zs (zs (zs (xG (nQ (zT (wR (zG (nQ (zS (zH (yC [(I6 80)] ⟨e6 (by exact (mayE_n (may_3 za)).symm), b⟩))))))))))))))))))
   intro m
   refine xF (zD (zw (zr (pt f 2) (zw (zO 2 a rfl (zw (zNe .u8 xs 1 ?_ ?_)))))))
   ·intro p
    refine zw (zD (zw (zr (pt f 2) (zw (zO 2 a rfl (zw (zNe .u8 xs 2 ?_ ?_)))))))
    ·intro o
     have b := ((b.tr c.below).tr d).tr e
     exact zw (xG (xF (nQ (zT (wR (zG (nQ (zS (zH (yC [(I6 80)] ⟨e6 (by exact (mayE_n (may_4 za za)).symm), b⟩))))))))))
    intro j
    have b := ((b.tr c.below).tr d).tr e
    exact zw (xG (xF (nQ (zF (zK (zB (wR (zG (nQ (zS (yC [(I6 0)] ⟨e6 (by exact (mayE_y (may_y za za za (by first | exact .inl za | exact .inr za))).symm), b⟩)))))))))))
   intro h
   have b := ((b.tr c.below).tr d).tr e
   exact zw (zD (zs (zs (zs (zw (xF (xF (nQ (zF (zK (zB (wR (zG (nQ (zS (yC [(I6 0)] ⟨e6 (by exact (mayE_y (may_y za za za (by first | exact .inl za | exact .inr za))).symm), b⟩))))))))))))))))
  intro n
  have b := ((b.tr c.below).tr d).tr e
  exact zw (wW false (xF (zD (zs (zs (zs (zs (zs (xG (zD (zs (zs (zs (zs (zs (zs (zs (zs (xG (nQ (zT (wR (zG (nQ (zS (zH (yC [(I6 80)] ⟨e6 (by exact (mayE_n (may_2 za)).symm), b⟩)))))))))))))))))))))))))))
 intro i
 have b := (b.tr c.below).tr d
 exact wW false (zD (zs (zs (zs (zs (xG (zD (zs (zs (zs (zs (zs (xG (zD (zs (zs (zs (zs (zs (zs (zs (zs (xG (nQ (zT (wR (zG (nQ (zS (zH (yC [(I6 80)] ⟨e6 (by exact (mayE_n (may_1 za)).symm), b⟩)))))))))))))))))))))))))))))))
theorem c_asked (r : Int) (w : World) :
  Calls Tryz.prog 57 #[(I3 r)] w (Ret fun v w' => v = (I3 (askB r)) ∧ Below w.heap.size w w') := by
 refine wI 7 func57 rfl ?_
 have a := Below.refl w.heap.size w
 refine wR (zG (nW (wR (zD (zc (c_point r _ ) ?_)))))
 rintro _ d ⟨rfl, b⟩
 refine yK (ptB r) ?_ ?_
 ·intro e
  have a := a.tr b
  exact wW true (nQ (zF (zK (zB (wR (zD (zG (nQ (zS (yC [(I3 r)] ⟨e3 (by exact (ask_y za).symm), a⟩))))))))))
 intro c
 have a := a.tr b
 exact wW false (nQ (zT (wR (zG (nQ (zS (zH (yC [(I3 65533)] ⟨e3 (by exact (ask_n za).symm), a⟩))))))))
theorem c_there (a : Nat) (m_rs : Nat) (rs : List (Int × (Int × Int × Int))) (b : Value) (ts : List (Int × Int)) (w : World) (c : w.heap[a]? = some (.cells [(.map (some m_rs)), b].toArray 69 (0, 0))) (e : GmAt .i32 vBrk w (.map (some m_rs)) rs) (d : GmAt .i32 vI32 w b ts) :
  Calls Tryz.prog 51 #[(pt a 0)] w (Ret fun v w' => v = (.bool true) ∧ Below w.heap.size w w') := by
 refine wI 12 func51 rfl ?_
 have f := Below.refl w.heap.size w
 exact wR (zG (nR (zD (zr (.bool true) (zD (zw (zD (zw (zr (pt a 0) (zw (zr (pt a 0) (zw (zO 0 c rfl (zw (zr (.bool true) (xG (zG (nQ (zS (yC [(.bool true)] ⟨rfl, f⟩))))))))))))))))))))
theorem c_lone (p : Nat) (m_rs : Nat) (rs : List (Int × (Int × Int × Int))) (s : Value) (ts : List (Int × Int)) (xa : Int) (xo : Int) (xs : Int) (w : World) (d : w.heap[p]? = some (.cells [(.map (some m_rs)), s].toArray 69 (0, 0))) (b : GmAt .i32 vBrk w (.map (some m_rs)) rs) (ac : GmAt .i32 vI32 w s ts) :
  Calls Tryz.prog 30 #[(pt p 0), (Value.agg #[(I3 xa), (I3 xo), (U8 xs)])] w (Ret fun v w' => v = (.bool (loneM rs (xa, xo, xs))) ∧ Below w.heap.size w w') := by
 refine wI 33 func30 rfl ?_
 have e := Below.refl w.heap.size w
 refine wR (zN [(I3 xa), (I3 xo), (U8 xs)] 26 ?_)
 intro u w2 q
 have ab := q.ge e.size
 have a := q.here
 refine zG (nW (xB 11 13 zk zk zk ?_))
 intro w4 r
 refine ⟨fun w => (w.heap[p]? = some (.cells [(.map (some m_rs)), s].toArray 69 (0, 0))) ∧ (w.heap[u]? = some (.cells [(I3 xa), (I3 xo), (U8 xs)].toArray 26 (0, 0))) ∧ (GmAt .i32 vBrk w (.map (some m_rs)) rs), ?_⟩
 have d := zA (zA d q.below) r
 have a := zA a r
 have b := (b.below q.below).below r
 refine mp 0 rfl (pt p 0) (.inr ⟨d, a, b⟩) zg (mp 1 rfl (pt p 0) (.inr ⟨d, a, b⟩) zg (mp 2 rfl (pt p 0) (.inr ⟨d, a, b⟩) zg (mt 3 [3, 6, 7, 8, 9, 11, 12] rfl (.map (some m_rs)) ⟨d, a, b⟩ (yR p 0 (.map (some m_rs)) zk zf (fun w2 h2 => zW h2.1 rfl)) (mp 4 rfl (pt u 1) (.inr ⟨d, a, b⟩) zg (mt 5 [5, 6, 7, 8, 9, 11, 12] rfl (I3 xo) ⟨d, a, b⟩ (yR u 1 (I3 xo) zk zf (fun w2 h2 => zW h2.2.1 rfl)) (mt 6 [6, 7, 8, 9, 11, 12] rfl (.tuple #[(Value.agg #[(I3 ((lookB rs xo).1)), (I3 ((lookB rs xo).2.1)), (U8 ((lookB rs xo).2.2))]), (.bool ((gget rs xo).isSome))]) ⟨d, a, b⟩ (R_glook (k := .i32) (f := vBrk) (0, 0, 0) xo rs underlying66 underlying21 zk zk zk (fun w2 h2 => h2.2.2)) (mp 7 rfl (.tuple #[(Value.agg #[(I3 ((lookB rs xo).1)), (I3 ((lookB rs xo).2.1)), (U8 ((lookB rs xo).2.2))]), (.bool ((gget rs xo).isSome))]) (.inr ⟨d, a, b⟩) zg (mp 8 rfl (Value.agg #[(I3 ((lookB rs xo).1)), (I3 ((lookB rs xo).2.1)), (U8 ((lookB rs xo).2.2))]) (.inr ⟨d, a, b⟩) zg ?_))))))))
 refine wS 9 10 zk ?_ ?_
 ·skip
  refine yJ 9 rfl ?_ rfl
  refine zr (.bool ((gget rs xo).isSome)) (yK ((gget rs xo).isSome) ?_ ?_)
  ·intro h6
   refine zR ?_
   refine ⟨rfl, .inr ⟨d, a, b⟩, yD 10 zk (yJ 10 rfl ?_ rfl)⟩
   refine zN [(I3 0), (I3 0), (U8 0)] 26 ?_
   intro b7 w8 m
   have i := yY (yA a) m
   have e := (e.tr q.below).tr r
   have g := m.ge e.size
   have c := m.here
   refine zR ?_
   have d := zA d m.below
   have a := zA a m.below
   have b := b.below m.below
   refine ⟨rfl, .inr ⟨d, a, b⟩, yD 11 zk (yJ 11 rfl ?_ rfl)⟩
   refine wG [(I3 ((lookB rs xo).1)), (I3 ((lookB rs xo).2.1)), (U8 ((lookB rs xo).2.2))] c ?_
   intro aq n
   have c := n.here
   refine zR ?_
   refine ⟨rfl, .inl zk, ?_⟩
   have a := zC a n i
   refine mp 12 rfl (.bool true) (.inl zk) zg (yO zk (zB (wR (zD (wW true (zD (zw (zr (pt b7 1) (zw (zO 1 c rfl (zw (zr (pt u 0) (zw (zO 0 a rfl (zw (zNe .i32 ((lookB rs xo).2.1) xa ?_ ?_))))))))))))))))
   ·intro aw
    have e := (e.tr m.below).trans (n.below g)
    exact xF (zD (zs (zs (zs (zs (zs (xG (zG (nQ (zS (yC [(.bool true)] ⟨eb (by exact (lone_2 za).symm), e⟩)))))))))))
   intro a0
   refine xF (zD (zw (zr (pt b7 2) (zw (zO 2 c rfl (zw (zr (pt u 2) (zw (zO 2 a rfl (zw (qA .u8 ((lookB rs xo).2.2) xs ?_ ?_)))))))))))
   ·intro a4
    have e := (e.tr m.below).trans (n.below g)
    exact xF (zG (nQ (zS (yC [(.bool true)] ⟨eb (by exact (lone_3 za).symm), e⟩))))
   intro a3
   have e := (e.tr m.below).trans (n.below g)
   exact xF (zG (nQ (zS (yC [(.bool false)] ⟨eb (by exact (lone_n za za za).symm), e⟩))))
  intro ao
  refine zR ?_
  refine ⟨rfl, .inr ⟨d, a, b⟩, yD 10 zk (yJ 10 rfl ?_ rfl)⟩
  refine zN [(I3 0), (I3 0), (U8 0)] 26 ?_
  intro a1 ay l
  have e := (e.tr q.below).tr r
  have g := l.ge e.size
  have c := l.here
  refine zR ?_
  have d := zA d l.below
  have a := zA a l.below
  have b := b.below l.below
  refine ⟨rfl, .inr ⟨d, a, b⟩, yD 11 zk (yJ 11 rfl ?_ rfl)⟩
  refine wG [(I3 ((lookB rs xo).1)), (I3 ((lookB rs xo).2.1)), (U8 ((lookB rs xo).2.2))] c ?_
  intro ap y
  refine zR ?_
  refine ⟨rfl, .inl zk, ?_⟩
  have e := (e.tr l.below).trans (y.below g)
  exact mp 12 rfl (.bool false) (.inl zk) zg (yO zk (zB (wR (zD (wW false (zD (zs (zs (zs (zs (zs (xG (zD (zs (zs (zs (zs (zs (xG (zG (nQ (zS (yC [(.bool true)] ⟨eb (by exact (lone_1 za).symm), e⟩)))))))))))))))))))))))
 skip
 refine yJ 10 rfl ?_ rfl
 refine zN [(I3 0), (I3 0), (U8 0)] 26 ?_
 intro t ah h
 have i := yY (yA a) h
 have e := (e.tr q.below).tr r
 have g := h.ge e.size
 have c := h.here
 refine zR ?_
 have d := zA d h.below
 have a := zA a h.below
 have b := b.below h.below
 refine ⟨rfl, .inr ⟨d, a, b⟩, wS 9 11 zk ?_ ?_⟩
 ·skip
  refine yJ 9 rfl ?_ rfl
  refine zr (.bool ((gget rs xo).isSome)) (yK ((gget rs xo).isSome) ?_ ?_)
  ·intro ar
   refine zR ?_
   refine ⟨rfl, .inr ⟨d, a, b⟩, yD 11 zk (yJ 11 rfl ?_ rfl)⟩
   refine wG [(I3 ((lookB rs xo).1)), (I3 ((lookB rs xo).2.1)), (U8 ((lookB rs xo).2.2))] c ?_
   intro au o
   have c := o.here
   refine zR ?_
   refine ⟨rfl, .inl zk, ?_⟩
   have a := zC a o i
   refine mp 12 rfl (.bool true) (.inl zk) zg (yO zk (zB (wR (zD (wW true (zD (zw (zr (pt t 1) (zw (zO 1 c rfl (zw (zr (pt u 0) (zw (zO 0 a rfl (zw (zNe .i32 ((lookB rs xo).2.1) xa ?_ ?_))))))))))))))))
   ·intro al
    have e := (e.tr h.below).trans (o.below g)
    exact xF (zD (zs (zs (zs (zs (zs (xG (zG (nQ (zS (yC [(.bool true)] ⟨eb (by exact (lone_2 za).symm), e⟩)))))))))))
   intro ae
   refine xF (zD (zw (zr (pt t 2) (zw (zO 2 c rfl (zw (zr (pt u 2) (zw (zO 2 a rfl (zw (qA .u8 ((lookB rs xo).2.2) xs ?_ ?_)))))))))))
   ·intro ak
    have e := (e.tr h.below).trans (o.below g)
    exact xF (zG (nQ (zS (yC [(.bool true)] ⟨eb (by exact (lone_3 za).symm), e⟩))))
   intro ax
   have e := (e.tr h.below).trans (o.below g)
   exact xF (zG (nQ (zS (yC [(.bool false)] ⟨eb (by exact (lone_n za za za).symm), e⟩))))
  intro aj
  refine zR ?_
  refine ⟨rfl, .inr ⟨d, a, b⟩, yD 11 zk (yJ 11 rfl ?_ rfl)⟩
  refine wG [(I3 ((lookB rs xo).1)), (I3 ((lookB rs xo).2.1)), (U8 ((lookB rs xo).2.2))] c ?_
  intro av z
  refine zR ?_
  refine ⟨rfl, .inl zk, ?_⟩
  have e := (e.tr h.below).trans (z.below g)
  exact mp 12 rfl (.bool false) (.inl zk) zg (yO zk (zB (wR (zD (wW false (zD (zs (zs (zs (zs (zs (xG (zD (zs (zs (zs (zs (zs (xG (zG (nQ (zS (yC [(.bool true)] ⟨eb (by exact (lone_1 za).symm), e⟩)))))))))))))))))))))))
 skip
 refine yJ 11 rfl ?_ rfl
 refine wG [(I3 ((lookB rs xo).1)), (I3 ((lookB rs xo).2.1)), (U8 ((lookB rs xo).2.2))] c ?_
 intro az j
 have c := j.here
 refine zR ?_
 refine ⟨rfl, .inl zk, yD 9 zk (yJ 9 rfl ?_ rfl)⟩
 refine zr (.bool ((gget rs xo).isSome)) (yK ((gget rs xo).isSome) ?_ ?_)
 ·intro ag
  refine zR ?_
  refine ⟨rfl, .inl zk, ?_⟩
  have a := zC a j i
  refine mp 12 rfl (.bool true) (.inl zk) zg (yO zk (zB (wR (zD (wW true (zD (zw (zr (pt t 1) (zw (zO 1 c rfl (zw (zr (pt u 0) (zw (zO 0 a rfl (zw (zNe .i32 ((lookB rs xo).2.1) xa ?_ ?_))))))))))))))))
  ·intro af
   have e := (e.tr h.below).trans (j.below g)
   exact xF (zD (zs (zs (zs (zs (zs (xG (zG (nQ (zS (yC [(.bool true)] ⟨eb (by exact (lone_2 za).symm), e⟩)))))))))))
  intro am
  refine xF (zD (zw (zr (pt t 2) (zw (zO 2 c rfl (zw (zr (pt u 2) (zw (zO 2 a rfl (zw (qA .u8 ((lookB rs xo).2.2) xs ?_ ?_)))))))))))
  ·intro ai
   have e := (e.tr h.below).trans (j.below g)
   exact xF (zG (nQ (zS (yC [(.bool true)] ⟨eb (by exact (lone_3 za).symm), e⟩))))
  intro an
  have e := (e.tr h.below).trans (j.below g)
  exact xF (zG (nQ (zS (yC [(.bool false)] ⟨eb (by exact (lone_n za za za).symm), e⟩))))
 intro a2
 refine zR ?_
 refine ⟨rfl, .inl zk, ?_⟩
 have e := (e.tr h.below).trans (j.below g)
 exact mp 12 rfl (.bool false) (.inl zk) zg (yO zk (zB (wR (zD (wW false (zD (zs (zs (zs (zs (zs (xG (zD (zs (zs (zs (zs (zs (xG (zG (nQ (zS (yC [(.bool true)] ⟨eb (by exact (lone_1 za).symm), e⟩)))))))))))))))))))))))
theorem c_Bracket (j : Nat) (m_rs : Nat) (rs : List (Int × (Int × Int × Int))) (p : Value) (ts : List (Int × Int)) (r : Int) (w : World) (c : w.heap[j]? = some (.cells [(.map (some m_rs)), p].toArray 69 (0, 0))) (a : GmAt .i32 vBrk w (.map (some m_rs)) rs) (ag : GmAt .i32 vI32 w p ts) :
  Calls Tryz.prog 23 #[(pt j 0), (I3 r)] w (Ret fun v w' => v = (.tuple #[(I3 ((brkF rs r).1)), (U8 ((brkF rs r).2))]) ∧ Below w.heap.size w w') := by
 refine wI 27 func23 rfl ?_
 have d := Below.refl w.heap.size w
 refine wR (zG (zG (nW (wR (zD (zc (c_there j m_rs rs p ts _ c a ag) ?_))))))
 rintro _ w1 ⟨rfl, q⟩
 refine wW true (nQ (zF (zK (zB (zY (xB 11 13 zk zk zk ?_))))))
 intro w4 s
 refine ⟨fun w => (w.heap[j]? = some (.cells [(.map (some m_rs)), p].toArray 69 (0, 0))) ∧ (GmAt .i32 vBrk w (.map (some m_rs)) rs), ?_⟩
 have c := zA (zA c q) s
 have a := (a.below q).below s
 refine mp 0 rfl (pt j 0) (.inr ⟨c, a⟩) zg (mp 1 rfl (pt j 0) (.inr ⟨c, a⟩) zg (mp 2 rfl (pt j 0) (.inr ⟨c, a⟩) zg (mt 3 [3, 6, 7, 8, 9, 11, 12] rfl (.map (some m_rs)) ⟨c, a⟩ (yR j 0 (.map (some m_rs)) zk zf (fun w2 h2 => zW h2.1 rfl)) (mp 4 rfl (I3 r) (.inr ⟨c, a⟩) zg ?_))))
 refine wS 5 10 zk ?_ ?_
 ·skip
  refine yJ 5 rfl ?_ rfl
  refine zc (c_asked r _ ) ?_
  rintro _ w6 ⟨rfl, t⟩
  refine zR ?_
  have c := zA c t
  have a := a.below t
  refine ⟨rfl, .inr ⟨c, a⟩, mt 6 [6, 7, 8, 9, 11, 12] rfl (.tuple #[(Value.agg #[(I3 ((lookB rs (askB r)).1)), (I3 ((lookB rs (askB r)).2.1)), (U8 ((lookB rs (askB r)).2.2))]), (.bool ((gget rs (askB r)).isSome))]) ⟨c, a⟩ (R_glook (k := .i32) (f := vBrk) (0, 0, 0) (askB r) rs underlying66 underlying21 zk zk zk (fun w2 h2 => h2.2)) (mp 7 rfl (.tuple #[(Value.agg #[(I3 ((lookB rs (askB r)).1)), (I3 ((lookB rs (askB r)).2.1)), (U8 ((lookB rs (askB r)).2.2))]), (.bool ((gget rs (askB r)).isSome))]) (.inr ⟨c, a⟩) zg (mp 8 rfl (Value.agg #[(I3 ((lookB rs (askB r)).1)), (I3 ((lookB rs (askB r)).2.1)), (U8 ((lookB rs (askB r)).2.2))]) (.inr ⟨c, a⟩) zg ?_))⟩
  refine wS 9 10 zk ?_ ?_
  ·skip
   refine yJ 9 rfl ?_ rfl
   refine zr (.bool ((gget rs (askB r)).isSome)) (yK ((gget rs (askB r)).isSome) ?_ ?_)
   ·intro h9
    refine zR ?_
    refine ⟨rfl, .inr ⟨c, a⟩, yD 10 zk (yJ 10 rfl ?_ rfl)⟩
    refine zN [(I3 0), (I3 0), (U8 0)] 26 ?_
    intro z av o
    have d := ((d.tr q).tr s).tr t
    have e := o.ge d.size
    have b := o.here
    refine zR ?_
    have c := zA c o.below
    have a := a.below o.below
    refine ⟨rfl, .inr ⟨c, a⟩, yD 11 zk (yJ 11 rfl ?_ rfl)⟩
    refine wG [(I3 ((lookB rs (askB r)).1)), (I3 ((lookB rs (askB r)).2.1)), (U8 ((lookB rs (askB r)).2.2))] b ?_
    intro ar ac
    have b := ac.here
    refine zR ?_
    refine ⟨rfl, .inl zk, mp 12 rfl (.bool true) (.inl zk) zg (yO zk (zB (zY (wR (zD (wW true (nQ (zF (zK (zB (zY (xA zk zk (yQ (pt z 1) zf (zZ z 1 (I3 ((lookB rs (askB r)).2.1)) zk zf (zW b rfl) (yQ (pt z 2) zf (zZ z 2 (U8 ((lookB rs (askB r)).2.2)) zk zf (zW b rfl) (wU (wU (yN ?_)))))))))))))))))))⟩
    intro ay ai
    have d := ((d.tr o.below).trans (ac.below e)).tr ai
    exact zB (zS (yC [(I3 ((lookB rs (askB r)).2.1)), (U8 ((lookB rs (askB r)).2.2))] ⟨xE (e3 (by (rw [brk_y za]; done))) (eu (by (rw [brk_y za]; done))), d⟩))
   intro ao
   refine zR ?_
   refine ⟨rfl, .inr ⟨c, a⟩, yD 10 zk (yJ 10 rfl ?_ rfl)⟩
   refine zN [(I3 0), (I3 0), (U8 0)] 26 ?_
   intro au a9 l
   have d := ((d.tr q).tr s).tr t
   have e := l.ge d.size
   have b := l.here
   refine zR ?_
   have c := zA c l.below
   have a := a.below l.below
   refine ⟨rfl, .inr ⟨c, a⟩, yD 11 zk (yJ 11 rfl ?_ rfl)⟩
   refine wG [(I3 ((lookB rs (askB r)).1)), (I3 ((lookB rs (askB r)).2.1)), (U8 ((lookB rs (askB r)).2.2))] b ?_
   intro a3 aj
   refine zR ?_
   refine ⟨rfl, .inl zk, ?_⟩
   have d := (d.tr l.below).trans (aj.below e)
   exact mp 12 rfl (.bool false) (.inl zk) zg (yO zk (zB (zY (wR (zD (wW false (nQ (zT (wR (zG (zG (nQ (zS (zH (yC [(I3 0), (U8 0)] ⟨xE (e3 (by (rw [brk_n za]; done))) (eu (by (rw [brk_n za]; done))), d⟩)))))))))))))))
  skip
  refine yJ 10 rfl ?_ rfl
  refine zN [(I3 0), (I3 0), (U8 0)] 26 ?_
  intro m ba i
  have d := ((d.tr q).tr s).tr t
  have e := i.ge d.size
  have b := i.here
  refine zR ?_
  have c := zA c i.below
  have a := a.below i.below
  refine ⟨rfl, .inr ⟨c, a⟩, wS 9 11 zk ?_ ?_⟩
  ·skip
   refine yJ 9 rfl ?_ rfl
   refine zr (.bool ((gget rs (askB r)).isSome)) (yK ((gget rs (askB r)).isSome) ?_ ?_)
   ·intro a1
    refine zR ?_
    refine ⟨rfl, .inr ⟨c, a⟩, yD 11 zk (yJ 11 rfl ?_ rfl)⟩
    refine wG [(I3 ((lookB rs (askB r)).1)), (I3 ((lookB rs (askB r)).2.1)), (U8 ((lookB rs (askB r)).2.2))] b ?_
    intro a7 aa
    have b := aa.here
    refine zR ?_
    refine ⟨rfl, .inl zk, mp 12 rfl (.bool true) (.inl zk) zg (yO zk (zB (zY (wR (zD (wW true (nQ (zF (zK (zB (zY (xA zk zk (yQ (pt m 1) zf (zZ m 1 (I3 ((lookB rs (askB r)).2.1)) zk zf (zW b rfl) (yQ (pt m 2) zf (zZ m 2 (U8 ((lookB rs (askB r)).2.2)) zk zf (zW b rfl) (wU (wU (yN ?_)))))))))))))))))))⟩
    intro bc ad
    have d := ((d.tr i.below).trans (aa.below e)).tr ad
    exact zB (zS (yC [(I3 ((lookB rs (askB r)).2.1)), (U8 ((lookB rs (askB r)).2.2))] ⟨xE (e3 (by (rw [brk_y za]; done))) (eu (by (rw [brk_y za]; done))), d⟩))
   intro bb
   refine zR ?_
   refine ⟨rfl, .inr ⟨c, a⟩, yD 11 zk (yJ 11 rfl ?_ rfl)⟩
   refine wG [(I3 ((lookB rs (askB r)).1)), (I3 ((lookB rs (askB r)).2.1)), (U8 ((lookB rs (askB r)).2.2))] b ?_
   intro bf ak
   refine zR ?_
   refine ⟨rfl, .inl zk, ?_⟩
   have d := (d.tr i.below).trans (ak.below e)
   exact mp 12 rfl (.bool false) (.inl zk) zg (yO zk (zB (zY (wR (zD (wW false (nQ (zT (wR (zG (zG (nQ (zS (zH (yC [(I3 0), (U8 0)] ⟨xE (e3 (by (rw [brk_n za]; done))) (eu (by (rw [brk_n za]; done))), d⟩)))))))))))))))
  skip
  refine yJ 11 rfl ?_ rfl
  refine wG [(I3 ((lookB rs (askB r)).1)), (I3 ((lookB rs (askB r)).2.1)), (U8 ((lookB rs (askB r)).2.2))] b ?_
  intro az y
  have b := y.here
  refine zR ?_
  refine ⟨rfl, .inl zk, yD 9 zk (yJ 9 rfl ?_ rfl)⟩
  refine zr (.bool ((gget rs (askB r)).isSome)) (yK ((gget rs (askB r)).isSome) ?_ ?_)
  ·intro be
   refine zR ?_
   refine ⟨rfl, .inl zk, mp 12 rfl (.bool true) (.inl zk) zg (yO zk (zB (zY (wR (zD (wW true (nQ (zF (zK (zB (zY (xA zk zk (yQ (pt m 1) zf (zZ m 1 (I3 ((lookB rs (askB r)).2.1)) zk zf (zW b rfl) (yQ (pt m 2) zf (zZ m 2 (U8 ((lookB rs (askB r)).2.2)) zk zf (zW b rfl) (wU (wU (yN ?_)))))))))))))))))))⟩
   intro a8 af
   have d := ((d.tr i.below).trans (y.below e)).tr af
   exact zB (zS (yC [(I3 ((lookB rs (askB r)).2.1)), (U8 ((lookB rs (askB r)).2.2))] ⟨xE (e3 (by (rw [brk_y za]; done))) (eu (by (rw [brk_y za]; done))), d⟩))
  intro a5
  refine zR ?_
  refine ⟨rfl, .inl zk, ?_⟩
  have d := (d.tr i.below).trans (y.below e)
  exact mp 12 rfl (.bool false) (.inl zk) zg (yO zk (zB (zY (wR (zD (wW false (nQ (zT (wR (zG (zG (nQ (zS (zH (yC [(I3 0), (U8 0)] ⟨xE (e3 (by (rw [brk_n za]; done))) (eu (by (rw [brk_n za]; done))), d⟩)))))))))))))))
 skip
 refine yJ 10 rfl ?_ rfl
 refine zN [(I3 0), (I3 0), (U8 0)] 26 ?_
 intro n am h
 have d := (d.tr q).tr s
 have e := h.ge d.size
 have b := h.here
 refine zR ?_
 have c := zA c h.below
 have a := a.below h.below
 refine ⟨rfl, .inr ⟨c, a⟩, yD 5 zk (yJ 5 rfl ?_ rfl)⟩
 refine zc (c_asked r _ ) ?_
 rintro _ a6 ⟨rfl, g⟩
 refine zR ?_
 have c := zA c g
 have a := a.below g
 refine ⟨rfl, .inr ⟨c, a⟩, mt 6 [6, 7, 8, 9, 11, 12] rfl (.tuple #[(Value.agg #[(I3 ((lookB rs (askB r)).1)), (I3 ((lookB rs (askB r)).2.1)), (U8 ((lookB rs (askB r)).2.2))]), (.bool ((gget rs (askB r)).isSome))]) ⟨c, a⟩ (R_glook (k := .i32) (f := vBrk) (0, 0, 0) (askB r) rs underlying66 underlying21 zk zk zk (fun w2 h2 => h2.2)) (mp 7 rfl (.tuple #[(Value.agg #[(I3 ((lookB rs (askB r)).1)), (I3 ((lookB rs (askB r)).2.1)), (U8 ((lookB rs (askB r)).2.2))]), (.bool ((gget rs (askB r)).isSome))]) (.inr ⟨c, a⟩) zg (mp 8 rfl (Value.agg #[(I3 ((lookB rs (askB r)).1)), (I3 ((lookB rs (askB r)).2.1)), (U8 ((lookB rs (askB r)).2.2))]) (.inr ⟨c, a⟩) zg ?_))⟩
 refine wS 9 11 zk ?_ ?_
 ·skip
  refine yJ 9 rfl ?_ rfl
  refine zr (.bool ((gget rs (askB r)).isSome)) (yK ((gget rs (askB r)).isSome) ?_ ?_)
  ·intro a4
   refine zR ?_
   refine ⟨rfl, .inr ⟨c, a⟩, yD 11 zk (yJ 11 rfl ?_ rfl)⟩
   have b := zA b g
   refine wG [(I3 ((lookB rs (askB r)).1)), (I3 ((lookB rs (askB r)).2.1)), (U8 ((lookB rs (askB r)).2.2))] b ?_
   intro aw ab
   have b := ab.here
   refine zR ?_
   refine ⟨rfl, .inl zk, mp 12 rfl (.bool true) (.inl zk) zg (yO zk (zB (zY (wR (zD (wW true (nQ (zF (zK (zB (zY (xA zk zk (yQ (pt n 1) zf (zZ n 1 (I3 ((lookB rs (askB r)).2.1)) zk zf (zW b rfl) (yQ (pt n 2) zf (zZ n 2 (U8 ((lookB rs (askB r)).2.2)) zk zf (zW b rfl) (wU (wU (yN ?_)))))))))))))))))))⟩
   intro ax ae
   have d := (((d.tr h.below).tr g).trans (ab.below e)).tr ae
   exact zB (zS (yC [(I3 ((lookB rs (askB r)).2.1)), (U8 ((lookB rs (askB r)).2.2))] ⟨xE (e3 (by (rw [brk_y za]; done))) (eu (by (rw [brk_y za]; done))), d⟩))
  intro an
  refine zR ?_
  refine ⟨rfl, .inr ⟨c, a⟩, yD 11 zk (yJ 11 rfl ?_ rfl)⟩
  have b := zA b g
  refine wG [(I3 ((lookB rs (askB r)).1)), (I3 ((lookB rs (askB r)).2.1)), (U8 ((lookB rs (askB r)).2.2))] b ?_
  intro a2 al
  refine zR ?_
  refine ⟨rfl, .inl zk, ?_⟩
  have d := ((d.tr h.below).tr g).trans (al.below e)
  exact mp 12 rfl (.bool false) (.inl zk) zg (yO zk (zB (zY (wR (zD (wW false (nQ (zT (wR (zG (zG (nQ (zS (zH (yC [(I3 0), (U8 0)] ⟨xE (e3 (by (rw [brk_n za]; done))) (eu (by (rw [brk_n za]; done))), d⟩)))))))))))))))
 skip
 refine yJ 11 rfl ?_ rfl
 have b := zA b g
 refine wG [(I3 ((lookB rs (askB r)).1)), (I3 ((lookB rs (askB r)).2.1)), (U8 ((lookB rs (askB r)).2.2))] b ?_
 intro bd u
 have b := u.here
 refine zR ?_
 refine ⟨rfl, .inl zk, yD 9 zk (yJ 9 rfl ?_ rfl)⟩
 refine zr (.bool ((gget rs (askB r)).isSome)) (yK ((gget rs (askB r)).isSome) ?_ ?_)
 ·intro ap
  refine zR ?_
  refine ⟨rfl, .inl zk, mp 12 rfl (.bool true) (.inl zk) zg (yO zk (zB (zY (wR (zD (wW true (nQ (zF (zK (zB (zY (xA zk zk (yQ (pt n 1) zf (zZ n 1 (I3 ((lookB rs (askB r)).2.1)) zk zf (zW b rfl) (yQ (pt n 2) zf (zZ n 2 (U8 ((lookB rs (askB r)).2.2)) zk zf (zW b rfl) (wU (wU (yN ?_)))))))))))))))))))⟩
  intro aq ah
  have d := (((d.tr h.below).tr g).trans (u.below e)).tr ah
  exact zB (zS (yC [(I3 ((lookB rs (askB r)).2.1)), (U8 ((lookB rs (askB r)).2.2))] ⟨xE (e3 (by (rw [brk_y za]; done))) (eu (by (rw [brk_y za]; done))), d⟩))
 intro a0
 refine zR ?_
 refine ⟨rfl, .inl zk, ?_⟩
 have d := ((d.tr h.below).tr g).trans (u.below e)
 exact mp 12 rfl (.bool false) (.inl zk) zg (yO zk (zB (zY (wR (zD (wW false (nQ (zT (wR (zG (zG (nQ (zS (zH (yC [(I3 0), (U8 0)] ⟨xE (e3 (by (rw [brk_n za]; done))) (eu (by (rw [brk_n za]; done))), d⟩)))))))))))))))
theorem c_Twin (d : Nat) (m_rs : Nat) (rs : List (Int × (Int × Int × Int))) (b : Value) (ts : List (Int × Int)) (r : Int) (w : World) (c : w.heap[d]? = some (.cells [(.map (some m_rs)), b].toArray 69 (0, 0))) (i : GmAt .i32 vBrk w (.map (some m_rs)) rs) (a : GmAt .i32 vI32 w b ts) :
  Calls Tryz.prog 25 #[(pt d 0), (I3 r)] w (Ret fun v w' => v = (I3 (twnF ts r)) ∧ Below w.heap.size w w') := by
 refine wI 25 func25 rfl ?_
 have h := Below.refl w.heap.size w
 refine wR (zG (nW (wR (zD (zc (c_there d m_rs rs b ts _ c i a) ?_)))))
 rintro _ l ⟨rfl, g⟩
 refine wW true (nQ (zF (zK (zB (wR (zD (zc (c_asked r _ ) ?_)))))))
 rintro _ n ⟨rfl, e⟩
 have c := zA (zA c g) e
 have a := (a.below g).below e
 refine zG (nW (wR (zD (zr (pt d 0) (uF 1 c rfl (zD (L_glook (k := .i32) (f := vI32) 0 (askB r) ts underlying67 underlying21 zk a zk zk (zD (zr (I3 ((gget ts (askB r)).getD 0)) (zr (.bool ((gget ts (askB r)).isSome)) (yK ((gget ts (askB r)).isSome) ?_ ?_)))))))))))
 ·intro m
  have h := (h.tr g).tr e
  exact zG (zG (nR (zD (nQ (zT (wR (zD (zG (nQ (zS (zH (yC [(I3 ((gget ts (askB r)).getD 0))] ⟨e3 (by (rw [twn_y za]; done)), h⟩))))))))))))
 intro j
 have h := (h.tr g).tr e
 exact zG (zG (nR (zD (nQ (zF (zK (zB (wR (zD (zG (nQ (zS (yC [(I3 (askB r))] ⟨e3 (by (rw [twn_n za]; done)), h⟩)))))))))))))
theorem c_Matches (g : Nat) (m_rs : Nat) (rs : List (Int × (Int × Int × Int))) (e : Value) (ts : List (Int × Int)) (o : Int) (c : Int) (w : World) (d : w.heap[g]? = some (.cells [(.map (some m_rs)), e].toArray 69 (0, 0))) (a : GmAt .i32 vBrk w (.map (some m_rs)) rs) (b : GmAt .i32 vI32 w e ts) :
  Calls Tryz.prog 26 #[(pt g 0), (I3 o), (I3 c)] w (Ret fun v w' => v = (.bool (mtcF rs ts o c)) ∧ Below w.heap.size w w') := by
 refine wI 41 func26 rfl ?_
 have j := Below.refl w.heap.size w
 refine wR (zG (nR (zD (zr (.func (.func 23) #[(pt g 0)] #[]) (zG (nR (zD (zD (zc (c_Bracket g m_rs rs e ts o _ d a b) ?_)))))))))
 rintro _ y ⟨rfl, h⟩
 have d := zA d h
 have a := a.below h
 have b := b.below h
 refine zD (zr (I3 ((brkF rs o).1)) (zr (U8 ((brkF rs o).2)) (zG (zG (nR (zD (zD (zc (c_Bracket g m_rs rs e ts c _ d a b) ?_))))))))
 rintro _ t ⟨rfl, i⟩
 refine zD (zr (I3 ((brkF rs c).1)) (zr (U8 ((brkF rs c).2)) (zG (zG (nR (zD (qA .u8 ((brkF rs o).2) 1 ?_ ?_)))))))
 ·intro s
  refine zD (zw (zD (zw (qA .u8 ((brkF rs c).2) 2 ?_ ?_))))
  ·intro u
   have d := zA d i
   have a := a.below i
   have b := b.below i
   refine xG (zD (zw (zD (zw (zD (zw (zc (c_Twin g m_rs rs e ts ((brkF rs o).1) _ d a b) ?_)))))))
   rintro _ r ⟨rfl, f⟩
   have d := zA d f
   have a := a.below f
   have b := b.below f
   refine zw (zD (zw (zD (zw (zc (c_Twin g m_rs rs e ts c _ d a b) ?_)))))
   rintro _ n ⟨rfl, k⟩
   refine zw (qA .i32 (twnF ts ((brkF rs o).1)) (twnF ts c) ?_ ?_)
   ·intro q
    have j := (((j.tr h).tr i).tr f).tr k
    exact xG (zG (nQ (zS (yC [(.bool true)] ⟨eb (by (rw [mtc_3 za za]; first | exact (decide_eq_true za).symm | exact (decide_eq_false za).symm)), j⟩))))
   intro m
   have j := (((j.tr h).tr i).tr f).tr k
   exact xG (zG (nQ (zS (yC [(.bool false)] ⟨eb (by (rw [mtc_3 za za]; first | exact (decide_eq_true za).symm | exact (decide_eq_false za).symm)), j⟩))))
  intro l
  have j := (j.tr h).tr i
  exact xG (zD (zs (zs (zs (zs (zs (zs (zs (xF (zG (nQ (zS (yC [(.bool false)] ⟨eb (by exact (mtc_2 za).symm), j⟩)))))))))))))
 intro p
 have j := (j.tr h).tr i
 exact zD (zs (zs (xF (zD (zs (zs (zs (zs (zs (zs (zs (xF (zG (nQ (zS (yC [(.bool false)] ⟨eb (by exact (mtc_1 za).symm), j⟩))))))))))))))))
end Go.Proofs.YtddnhlobnembaaaGreatDoor
end

/- === Wcb2 === -/
section
/- Walks, written by my program walk.py out of the specification cb2.py: each theorem says what one function returns and that it leaves memory as it was. -/
namespace Go.Proofs.YtddnhlobnembaaaGreatDoor
open Go Go.RowKit Go.FK _root_.Go.Proofs.Tryz
set_option maxHeartbeats 4000000
set_option maxRecDepth 100000
theorem c_add (i m_rs : Nat) (rs : List (Int × (Int × Int × Int))) (af : Value) (xa : Int) (xo : Int) (xs : Int) (B_ : Nat) (w : World) (hs0 : B_ ≤ w.heap.size) (c : w.heap[i]? = some (.cells [(.map (some m_rs)), af].toArray 69 (0, 0))) (a : w.heap[m_rs]? = some (gmObj .i32 vBrk rs)) (aw : B_ ≤ m_rs) :
  Calls Tryz.prog 28 #[(pt i 0), (Value.agg #[(I3 xa), (I3 xo), (U8 xs)])] w (Ret fun v w' => v = (I6 (addE rs (xa, xo, xs))) ∧ w'.heap[m_rs]? = some (gmObj .i32 vBrk (addM rs (xa, xo, xs))) ∧ Ch (fun k => k = m_rs) w w') := by
 refine wI 31 func28 rfl ?_
 have t := Below.refl B_ w
 have g : B_ ≤ (World.heap w).size := hs0
 have o := Ch.refl (fun k => k = m_rs) w
 have ah : (World.heap w).size ≤ m_rs ∨ (fun k => k = m_rs) m_rs := .inr rfl
 refine wR (zN [(I3 xa), (I3 xo), (U8 xs)] 26 ?_)
 intro b1 w2 ad
 have ax : B_ ≤ b1 := by rw [ad.num]; exact g
 have av : (World.heap w).size ≤ b1 ∨ (fun k => k = m_rs) b1 := .inl (by rw [ad.num]; exact o.size)
 have t := t.trans (ad.below.mono g)
 replace g := Nat.le_trans g (ad.below.size)
 have b := ad.here
 refine zG (nW (wR (zOW b (zc (c_may xa xo xs _ ) ?_))))
 replace o := o.trans2 (Ch.of_below ad.below) (fun _ h => h.elim)
 rintro _ w4 ⟨rfl, u⟩
 have t := t.trans (u.mono g)
 replace g := Nat.le_trans g (u.size)
 refine zG (nR (zD (zNe .i64 (mayE (xa, xo, xs)) 0 ?_ ?_)))
 ·intro h7
  refine nQ (zT (wR (zD (zG (nQ (zS (zH (yC [(I6 (mayE (xa, xo, xs)))] ?_))))))))
  have e0 : ((mayE (xa, xo, xs)) : Int) = (addE rs (xa, xo, xs)) := by exact (addE_1 za).symm
  have em : rs = (addM rs (xa, xo, xs)) := by exact (addM_1 za).symm
  have a := zA (zA a ad.below) u
  rw [em] at a
  replace o := o.trans2 (Ch.of_below u) (fun _ h => h.elim)
  exact ⟨e6 e0, a, o⟩
 intro h8
 refine nQ (zF (zK (zB (zY (zY (xB 11 13 zk zk zk ?_))))))
 intro w9 s
 have t := t.trans (s.mono g)
 replace g := Nat.le_trans g (s.size)
 refine ⟨fun w => (w.heap[i]? = some (.cells [(.map (some m_rs)), af].toArray 69 (0, 0))) ∧ (w.heap[b1]? = some (.cells [(I3 xa), (I3 xo), (U8 xs)].toArray 26 (0, 0))) ∧ (w.heap[m_rs]? = some (gmObj .i32 vBrk rs)), ?_⟩
 have c := zA (zA (zA c ad.below) u) s
 have a := zA (zA (zA a ad.below) u) s
 have b := zA (zA b u) s
 refine mp 0 rfl (pt i 0) (.inr ⟨c, b, a⟩) zg (mp 1 rfl (pt i 0) (.inr ⟨c, b, a⟩) zg (mp 2 rfl (pt i 0) (.inr ⟨c, b, a⟩) zg (mt 3 [3, 6, 7, 8, 9, 11, 12] rfl (.map (some m_rs)) ⟨c, b, a⟩ (yR i 0 (.map (some m_rs)) zk zf (fun w2 h2 => zW h2.1 rfl)) (mp 4 rfl (pt b1 0) (.inr ⟨c, b, a⟩) zg (mt 5 [5, 6, 7, 8, 9, 11, 12] rfl (I3 xa) ⟨c, b, a⟩ (yR b1 0 (I3 xa) zk zf (fun w2 h2 => zW h2.2.1 rfl)) (mt 6 [6, 7, 8, 9, 11, 12] rfl (.tuple #[(Value.agg #[(I3 ((lookB rs xa).1)), (I3 ((lookB rs xa).2.1)), (U8 ((lookB rs xa).2.2))]), (.bool ((gget rs xa).isSome))]) ⟨c, b, a⟩ (R_glook (k := .i32) (f := vBrk) (0, 0, 0) xa rs underlying66 underlying21 zk zk zk (fun w2 h2 => GmAt.of h2.2.2)) (mp 7 rfl (.tuple #[(Value.agg #[(I3 ((lookB rs xa).1)), (I3 ((lookB rs xa).2.1)), (U8 ((lookB rs xa).2.2))]), (.bool ((gget rs xa).isSome))]) (.inr ⟨c, b, a⟩) zg (mp 8 rfl (Value.agg #[(I3 ((lookB rs xa).1)), (I3 ((lookB rs xa).2.1)), (U8 ((lookB rs xa).2.2))]) (.inr ⟨c, b, a⟩) zg ?_))))))))
 refine wS 9 10 zk ?_ ?_
 ·skip
  refine yJ 9 rfl ?_ rfl
  refine zr (.bool ((gget rs xa).isSome)) (yK ((gget rs xa).isSome) ?_ ?_)
  ·intro bc
   refine zR ?_
   refine ⟨rfl, .inr ⟨c, b, a⟩, yD 10 zk (yJ 10 rfl ?_ rfl)⟩
   refine zN [(I3 0), (I3 0), (U8 0)] 26 ?_
   intro ar a4 q
   have d := yY (yA a) q
   have ag : B_ ≤ ar := by rw [q.num]; exact g
   replace o := (o.trans2 (Ch.of_below u) (fun _ h => h.elim)).trans2 (Ch.of_below s) (fun _ h => h.elim)
   have m : (World.heap w).size ≤ ar ∨ (fun k => k = m_rs) ar := .inl (by rw [q.num]; exact o.size)
   have t := t.trans (q.below.mono g)
   replace g := Nat.le_trans g (q.below.size)
   have p := q.here
   refine zR ?_
   have c := zA c q.below
   have a := zA a q.below
   have b := zA b q.below
   refine ⟨rfl, .inr ⟨c, b, a⟩, yD 11 zk (yJ 11 rfl ?_ rfl)⟩
   refine wG [(I3 ((lookB rs xa).1)), (I3 ((lookB rs xa).2.1)), (U8 ((lookB rs xa).2.2))] p ?_
   intro a5 ao
   replace g := Nat.le_trans g (Nat.le_of_eq ao.size.symm)
   refine zR ?_
   refine ⟨rfl, .inl zk, mp 12 rfl (.bool true) (.inl zk) zg (yO zk (zB (wR (zD (nQ (zT (wR (zG (nQ (zS (zH (yC [(I6 81)] ?_))))))))))))⟩
   have e0 : (81 : Int) = (addE rs (xa, xo, xs)) := by exact (addE_2 za za).symm
   have em : rs = (addM rs (xa, xo, xs)) := by exact (addM_2 za za).symm
   have a := zC a ao d
   rw [em] at a
   replace o := (o.trans2 (Ch.of_below q.below) (fun _ h => h.elim)).trans2 (Ch.of_wrote ao) (fun k e => e ▸ m)
   exact ⟨e6 e0, a, o⟩
  intro a0
  refine zR ?_
  refine ⟨rfl, .inr ⟨c, b, a⟩, yD 10 zk (yJ 10 rfl ?_ rfl)⟩
  refine zN [(I3 0), (I3 0), (U8 0)] 26 ?_
  intro aq bd l
  have d := yY (yA a) l
  have n := yY (yA b) l
  have ag : B_ ≤ aq := by rw [l.num]; exact g
  replace o := (o.trans2 (Ch.of_below u) (fun _ h => h.elim)).trans2 (Ch.of_below s) (fun _ h => h.elim)
  have m : (World.heap w).size ≤ aq ∨ (fun k => k = m_rs) aq := .inl (by rw [l.num]; exact o.size)
  have t := t.trans (l.below.mono g)
  replace g := Nat.le_trans g (l.below.size)
  have p := l.here
  refine zR ?_
  have c := zA c l.below
  have a := zA a l.below
  have b := zA b l.below
  refine ⟨rfl, .inr ⟨c, b, a⟩, yD 11 zk (yJ 11 rfl ?_ rfl)⟩
  refine wG [(I3 ((lookB rs xa).1)), (I3 ((lookB rs xa).2.1)), (U8 ((lookB rs xa).2.2))] p ?_
  intro a9 ac
  replace g := Nat.le_trans g (Nat.le_of_eq ac.size.symm)
  have c := zC c ac (zJ c p zi)
  refine zR ?_
  refine ⟨rfl, .inl zk, mp 12 rfl (.bool false) (.inl zk) zg (yO zk (zB (wR (zD (nQ (zF (zK (zB (zY (xB 7 8 zk zk zk ?_))))))))))⟩
  intro a7 aa
  have t := t.trans (ac.below ag)
  have t := t.trans (aa.mono g)
  replace g := Nat.le_trans g (aa.size)
  refine ⟨fun w => (w.heap[i]? = some (.cells [(.map (some m_rs)), af].toArray 69 (0, 0))) ∧ (w.heap[b1]? = some (.cells [(I3 xa), (I3 xo), (U8 xs)].toArray 26 (0, 0))), ?_⟩
  have c := zA c aa
  have b := zA (zC b ac n) aa
  refine mp 0 rfl (pt i 0) (.inr ⟨c, b⟩) zg (mp 1 rfl (pt i 0) (.inr ⟨c, b⟩) zg (mp 2 rfl (pt i 0) (.inr ⟨c, b⟩) zg (mt 3 [3, 7] rfl (.map (some m_rs)) ⟨c, b⟩ (yR i 0 (.map (some m_rs)) zk zf (fun w2 h2 => zW h2.1 rfl)) (mp 4 rfl (pt b1 0) (.inr ⟨c, b⟩) zg (mt 5 [5, 7] rfl (I3 xa) ⟨c, b⟩ (yR b1 0 (I3 xa) zk zf (fun w2 h2 => zW h2.2 rfl)) (mt 6 [6, 7] rfl (Value.agg #[(I3 xa), (I3 xo), (U8 xs)]) ⟨c, b⟩ (R_loadA b1 0 [(I3 xa), (I3 xo), (U8 xs)] zk zf zf (fun w2 h2 => uH h2.2 0 zk)) (yD 7 zk ?_)))))))
  refine yJ 7 rfl ?_ rfl
  have a := zA (zC a ac d) aa
  refine L_glay (k := .i32) (f := vBrk) m_rs xa (xa, xo, xs) rs underlying66 underlying21 a zk zk zk (by first | exact isn za | (omega)) ?_
  intro a8 ap
  replace g := Nat.le_trans g (Nat.le_of_eq ap.size.symm)
  have a := ap.here
  refine zR ?_
  refine ⟨rfl, .inl zk, yO zk (zB (wR (zG (nQ (zS (yC [(I6 0)] ?_))))))⟩
  have e0 : (0 : Int) = (addE rs (xa, xo, xs)) := by exact (addE_0 za za).symm
  have em : (rs ++ [(xa, (xa, xo, xs))]) = (addM rs (xa, xo, xs)) := by exact (addM_0 za za).symm
  rw [em] at a
  replace o := (((o.trans2 (Ch.of_below l.below) (fun _ h => h.elim)).trans2 (Ch.of_wrote ac) (fun k e => e ▸ m)).trans2 (Ch.of_below aa) (fun _ h => h.elim)).trans2 (Ch.of_wrote ap) (fun k e => e ▸ ah)
  exact ⟨e6 e0, a, o⟩
 skip
 refine yJ 10 rfl ?_ rfl
 refine zN [(I3 0), (I3 0), (U8 0)] 26 ?_
 intro au ay j
 have d := yY (yA a) j
 have n := yY (yA b) j
 have ag : B_ ≤ au := by rw [j.num]; exact g
 replace o := (o.trans2 (Ch.of_below u) (fun _ h => h.elim)).trans2 (Ch.of_below s) (fun _ h => h.elim)
 have m : (World.heap w).size ≤ au ∨ (fun k => k = m_rs) au := .inl (by rw [j.num]; exact o.size)
 have t := t.trans (j.below.mono g)
 replace g := Nat.le_trans g (j.below.size)
 have p := j.here
 refine zR ?_
 have c := zA c j.below
 have a := zA a j.below
 have b := zA b j.below
 refine ⟨rfl, .inr ⟨c, b, a⟩, wS 9 11 zk ?_ ?_⟩
 ·skip
  refine yJ 9 rfl ?_ rfl
  refine zr (.bool ((gget rs xa).isSome)) (yK ((gget rs xa).isSome) ?_ ?_)
  ·intro ba
   refine zR ?_
   refine ⟨rfl, .inr ⟨c, b, a⟩, yD 11 zk (yJ 11 rfl ?_ rfl)⟩
   refine wG [(I3 ((lookB rs xa).1)), (I3 ((lookB rs xa).2.1)), (U8 ((lookB rs xa).2.2))] p ?_
   intro a2 am
   replace g := Nat.le_trans g (Nat.le_of_eq am.size.symm)
   refine zR ?_
   refine ⟨rfl, .inl zk, mp 12 rfl (.bool true) (.inl zk) zg (yO zk (zB (wR (zD (nQ (zT (wR (zG (nQ (zS (zH (yC [(I6 81)] ?_))))))))))))⟩
   have e0 : (81 : Int) = (addE rs (xa, xo, xs)) := by exact (addE_2 za za).symm
   have em : rs = (addM rs (xa, xo, xs)) := by exact (addM_2 za za).symm
   have a := zC a am d
   rw [em] at a
   replace o := (o.trans2 (Ch.of_below j.below) (fun _ h => h.elim)).trans2 (Ch.of_wrote am) (fun k e => e ▸ m)
   exact ⟨e6 e0, a, o⟩
  intro bf
  refine zR ?_
  refine ⟨rfl, .inr ⟨c, b, a⟩, yD 11 zk (yJ 11 rfl ?_ rfl)⟩
  refine wG [(I3 ((lookB rs xa).1)), (I3 ((lookB rs xa).2.1)), (U8 ((lookB rs xa).2.2))] p ?_
  intro a6 ab
  replace g := Nat.le_trans g (Nat.le_of_eq ab.size.symm)
  have c := zC c ab (zJ c p zi)
  refine zR ?_
  refine ⟨rfl, .inl zk, mp 12 rfl (.bool false) (.inl zk) zg (yO zk (zB (wR (zD (nQ (zF (zK (zB (zY (xB 7 8 zk zk zk ?_))))))))))⟩
  intro a1 z
  have t := t.trans (ab.below ag)
  have t := t.trans (z.mono g)
  replace g := Nat.le_trans g (z.size)
  refine ⟨fun w => (w.heap[i]? = some (.cells [(.map (some m_rs)), af].toArray 69 (0, 0))) ∧ (w.heap[b1]? = some (.cells [(I3 xa), (I3 xo), (U8 xs)].toArray 26 (0, 0))), ?_⟩
  have c := zA c z
  have b := zA (zC b ab n) z
  refine mp 0 rfl (pt i 0) (.inr ⟨c, b⟩) zg (mp 1 rfl (pt i 0) (.inr ⟨c, b⟩) zg (mp 2 rfl (pt i 0) (.inr ⟨c, b⟩) zg (mt 3 [3, 7] rfl (.map (some m_rs)) ⟨c, b⟩ (yR i 0 (.map (some m_rs)) zk zf (fun w2 h2 => zW h2.1 rfl)) (mp 4 rfl (pt b1 0) (.inr ⟨c, b⟩) zg (mt 5 [5, 7] rfl (I3 xa) ⟨c, b⟩ (yR b1 0 (I3 xa) zk zf (fun w2 h2 => zW h2.2 rfl)) (mt 6 [6, 7] rfl (Value.agg #[(I3 xa), (I3 xo), (U8 xs)]) ⟨c, b⟩ (R_loadA b1 0 [(I3 xa), (I3 xo), (U8 xs)] zk zf zf (fun w2 h2 => uH h2.2 0 zk)) (yD 7 zk ?_)))))))
  refine yJ 7 rfl ?_ rfl
  have a := zA (zC a ab d) z
  refine L_glay (k := .i32) (f := vBrk) m_rs xa (xa, xo, xs) rs underlying66 underlying21 a zk zk zk (by first | exact isn za | (omega)) ?_
  intro bb an
  replace g := Nat.le_trans g (Nat.le_of_eq an.size.symm)
  have a := an.here
  refine zR ?_
  refine ⟨rfl, .inl zk, yO zk (zB (wR (zG (nQ (zS (yC [(I6 0)] ?_))))))⟩
  have e0 : (0 : Int) = (addE rs (xa, xo, xs)) := by exact (addE_0 za za).symm
  have em : (rs ++ [(xa, (xa, xo, xs))]) = (addM rs (xa, xo, xs)) := by exact (addM_0 za za).symm
  rw [em] at a
  replace o := (((o.trans2 (Ch.of_below j.below) (fun _ h => h.elim)).trans2 (Ch.of_wrote ab) (fun k e => e ▸ m)).trans2 (Ch.of_below z) (fun _ h => h.elim)).trans2 (Ch.of_wrote an) (fun k e => e ▸ ah)
  exact ⟨e6 e0, a, o⟩
 skip
 refine yJ 11 rfl ?_ rfl
 refine wG [(I3 ((lookB rs xa).1)), (I3 ((lookB rs xa).2.1)), (U8 ((lookB rs xa).2.2))] p ?_
 intro a3 r
 replace g := Nat.le_trans g (Nat.le_of_eq r.size.symm)
 have c := zC c r (zJ c p zi)
 refine zR ?_
 refine ⟨rfl, .inl zk, yD 9 zk (yJ 9 rfl ?_ rfl)⟩
 refine zr (.bool ((gget rs xa).isSome)) (yK ((gget rs xa).isSome) ?_ ?_)
 ·intro bh
  refine zR ?_
  refine ⟨rfl, .inl zk, mp 12 rfl (.bool true) (.inl zk) zg (yO zk (zB (wR (zD (nQ (zT (wR (zG (nQ (zS (zH (yC [(I6 81)] ?_))))))))))))⟩
  have e0 : (81 : Int) = (addE rs (xa, xo, xs)) := by exact (addE_2 za za).symm
  have em : rs = (addM rs (xa, xo, xs)) := by exact (addM_2 za za).symm
  have a := zC a r d
  rw [em] at a
  replace o := (o.trans2 (Ch.of_below j.below) (fun _ h => h.elim)).trans2 (Ch.of_wrote r) (fun k e => e ▸ m)
  exact ⟨e6 e0, a, o⟩
 intro be
 refine zR ?_
 refine ⟨rfl, .inl zk, mp 12 rfl (.bool false) (.inl zk) zg (yO zk (zB (wR (zD (nQ (zF (zK (zB (zY (xB 7 8 zk zk zk ?_))))))))))⟩
 intro az y
 have t := t.trans (r.below ag)
 have t := t.trans (y.mono g)
 replace g := Nat.le_trans g (y.size)
 refine ⟨fun w => (w.heap[i]? = some (.cells [(.map (some m_rs)), af].toArray 69 (0, 0))) ∧ (w.heap[b1]? = some (.cells [(I3 xa), (I3 xo), (U8 xs)].toArray 26 (0, 0))), ?_⟩
 have c := zA c y
 have b := zA (zC b r n) y
 refine mp 0 rfl (pt i 0) (.inr ⟨c, b⟩) zg (mp 1 rfl (pt i 0) (.inr ⟨c, b⟩) zg (mp 2 rfl (pt i 0) (.inr ⟨c, b⟩) zg (mt 3 [3, 7] rfl (.map (some m_rs)) ⟨c, b⟩ (yR i 0 (.map (some m_rs)) zk zf (fun w2 h2 => zW h2.1 rfl)) (mp 4 rfl (pt b1 0) (.inr ⟨c, b⟩) zg (mt 5 [5, 7] rfl (I3 xa) ⟨c, b⟩ (yR b1 0 (I3 xa) zk zf (fun w2 h2 => zW h2.2 rfl)) (mt 6 [6, 7] rfl (Value.agg #[(I3 xa), (I3 xo), (U8 xs)]) ⟨c, b⟩ (R_loadA b1 0 [(I3 xa), (I3 xo), (U8 xs)] zk zf zf (fun w2 h2 => uH h2.2 0 zk)) (yD 7 zk ?_)))))))
 refine yJ 7 rfl ?_ rfl
 have a := zA (zC a r d) y
 refine L_glay (k := .i32) (f := vBrk) m_rs xa (xa, xo, xs) rs underlying66 underlying21 a zk zk zk (by first | exact isn za | (omega)) ?_
 intro bg al
 replace g := Nat.le_trans g (Nat.le_of_eq al.size.symm)
 have a := al.here
 refine zR ?_
 refine ⟨rfl, .inl zk, yO zk (zB (wR (zG (nQ (zS (yC [(I6 0)] ?_))))))⟩
 have e0 : (0 : Int) = (addE rs (xa, xo, xs)) := by exact (addE_0 za za).symm
 have em : (rs ++ [(xa, (xa, xo, xs))]) = (addM rs (xa, xo, xs)) := by exact (addM_0 za za).symm
 rw [em] at a
 replace o := (((o.trans2 (Ch.of_below j.below) (fun _ h => h.elim)).trans2 (Ch.of_wrote r) (fun k e => e ▸ m)).trans2 (Ch.of_below y) (fun _ h => h.elim)).trans2 (Ch.of_wrote al) (fun k e => e ▸ ah)
 exact ⟨e6 e0, a, o⟩
theorem c_idx (k : Value) (s : List (Int × Int × Int)) (h : Nat) (m_rs : Nat) (rs : List (Int × (Int × Int × Int))) (d : Value) (ts : List (Int × Int)) (w : World) (e : Rd w encBrk k s) (g : w.heap[h]? = some (.cells [(.map (some m_rs)), d].toArray 69 (0, 0))) (b : GmAt .i32 vBrk w (.map (some m_rs)) rs) (c : GmAt .i32 vI32 w d ts) (hl : s.length ≤ 9223372036854775807) :
  Calls Tryz.prog 29 #[k, (.func (.func 30) #[(pt h 0)] #[])] w (Ret fun v w' => v = (I6 (idxL rs s)) ∧ Below w.heap.size w w') := by
 refine wI 19 func29 rfl ?_
 have j := Below.refl w.heap.size w
 refine wR (zG (nW (wR (zD (zln underlying22 (e).len (zD (nQ (zX (yZ (fun m s0 w0 => ∃ (i : Nat), (m = s.length - i) ∧ (s0.ds = []) ∧ ([0, 1, 7, 8].map s0.f = [k, (.func (.func 30) #[(pt h 0)] #[]), (N6 ((s).length)), (N6 i)]) ∧ (Rd w0 encBrk k s) ∧ (GmAt .i32 vBrk w0 (.map (some m_rs)) rs) ∧ (GmAt .i32 vI32 w0 d ts) ∧ (w0.heap[h]? = some (.cells [(.map (some m_rs)), d].toArray 69 (0, 0))) ∧ (Below w.heap.size w w0) ∧ (i ≤ s.length) ∧ (LonI rs s i)) _ ⟨0, rfl, zk, zk, e, b, c, g, j, (Nat.zero_le _), (LonI.zero _ _)⟩ ?_)))))))))
 rintro m1 s2 w3 ⟨i, hm, n, o, e, b, c, g, j, i1, q⟩
 refine yS o (wR (nLt i ((s).length) ?_ ?_))
 ·intro h4
  refine nW (zT (zK (zB (zY (zX (wR (zD (zG (nR (zD (zD (zD ?_))))))))))))
  have r := zV s i zo; obtain ⟨l, p⟩ := r
  refine zEA e qJ i p [(I3 l.1), (I3 l.2.1), (U8 l.2.2)] rfl fun _ => (zc (c_lone h m_rs rs d ts l.1 l.2.1 l.2.2 _ g b c) ?_)
  rintro _ t ⟨rfl, a⟩
  refine yK (loneM rs (l.1, l.2.1, l.2.2)) ?_ ?_
  ·intro z
   have j := j.tr a
   exact nQ (zT (wR (zD (zG (nQ (zS (zP (zH (zH (zP (zH (yC [(N6 i)] (hd := n) ⟨e6 (by exact (idxL_hit q za za).symm), j⟩))))))))))))
  intro y
  refine nQ (zF (zK (zI (zB (zQ (xL i 1 (zD (zR ?_))))))))
  have j := j.tr a
  have g := zA g a
  have b := b.below a
  have e := e.below a
  have c := c.below a
  exact zB ⟨_, zo, (i + 1), rfl, n, zk, e, b, c, g, j, zo, q.step za za⟩
 intro u
 exact nW (zF (yH (zL (zL (yB (zB (wR (zG (nQ (zS (yC [(I6 (-1))] (hd := n) ⟨e6 (by exact (idxL_end q zo).symm), j⟩)))))))))))
theorem c_New_ok (d : Value) (rows : List (Int × Int × Int)) (w : World) (c : Rd w encBrk d rows) (hl : rows.length ≤ 9223372036854775807) (hok : newB rows = none) :
  Calls Tryz.prog 10 #[d] w (Ret fun v w' => ∃ (cb0 mb0 : Nat), v = (.tuple #[(pt cb0 0), (I6 0), (I6 0)]) ∧ w'.heap[cb0]? = some (.cells [(.map (some mb0)), (.map none)].toArray 69 (0, 0)) ∧ w.heap.size ≤ cb0 ∧ w'.heap[mb0]? = some (gmObj .i32 vBrk (kv rows)) ∧ w.heap.size ≤ mb0 ∧ Below w.heap.size w w') := by
 refine wI 36 func10 rfl ?_
 have j := Below.refl w.heap.size w
 have h := c
 refine wR (zG (zG (zG (nR (L_gmk (T := 66) .i32 vBrk ?_)))))
 intro b1 w2 ad
 have q := ad.ge j.size
 have a := ad.here
 refine zr (Value.agg #[(.map (some b1)), (.map none)]) (zN [(.map (some b1)), (.map none)] 69 ?_)
 intro b4 w5 y
 have n := yY (yA a) y
 have o := NE.symm n
 have j := j.tr ad.below
 have ab := y.ge j.size
 have b := y.here
 have j := j.tr y.below
 have c := h.below j
 refine zG (nW (wR (zD (zln underlying22 (c).len (zD (nQ (zX ?_)))))))
 have a := zA a y.below
 refine yZ (fun m s0 w0 => ∃ (i : Nat), (m = rows.length - i) ∧ (s0.ds = []) ∧ ([0, 5, 13, 14, 15].map s0.f = [d, (pt b4 0), d, (N6 ((rows).length)), (N6 i)]) ∧ (Rd w0 encBrk d rows) ∧ (w0.heap[b1]? = some (gmObj .i32 vBrk (kv (rows.take i)))) ∧ (w0.heap[b4]? = some (.cells [(.map (some b1)), (.map none)].toArray 69 (0, 0))) ∧ (Below w.heap.size w w0) ∧ (i ≤ rows.length) ∧ (FstI rows i)) _ ⟨0, rfl, zk, zk, c, a, b, j, (Nat.zero_le _), (FstI.zero _)⟩ ?_
 rintro m7 s8 w9 ⟨i, hm, ah, ai, c, a, b, j, i1, i2⟩
 refine yS ai (wR (nLt i ((rows).length) ?_ ?_))
 ·intro ay
  refine nW (zT (zK (zB (zY (zX (wR (zD ?_)))))))
  have hz := zV rows i zo; obtain ⟨g, u⟩ := hz
  refine zEA c qJ i u [(I3 g.1), (I3 g.2.1), (U8 g.2.2)] rfl fun _ => (zN [(I3 0), (I3 0), (U8 0)] 26 ?_)
  intro ax aw l
  have p := yY (yA a) l
  have ag := l.ge j.size
  have s := l.here
  refine zG (wG [(I3 g.1), (I3 g.2.1), (U8 g.2.2)] s ?_)
  intro au r
  have b := zA b l.below
  have b := zC b r (zJ b s zi)
  have s := r.here
  have j := (j.tr l.below).trans (r.below ag)
  have a := zC (zA a l.below) r p
  refine nR (zD (zOW s (zc (c_add b4 b1 (kv (rows.take i)) (.map none) g.1 g.2.1 g.2.2 w.heap.size _ j.size b a q) ?_)))
  rintro _ av ⟨rfl, ae, z⟩
  have j := z.below j j.size (fun k e => e ▸ q)
  have a := ae
  refine zG (nR (zD (zNe .i64 (addE (kv (rows.take i)) (g.1, g.2.1, g.2.2)) 0 ?_ ?_)))
  ·intro aj
   exfalso; (rw [i2.no za aj] at hok; cases hok)
  intro af
  refine nQ (zF (zK (zI (zB (zQ (xL i 1 (zD (zR ?_))))))))
  have eM : (addM (kv (rows.take i)) (g.1, g.2.1, g.2.2)) = kv (rows.take (i + 1)) := addM_take u af
  rw [eM] at a
  have eF := i2.add u af
  have b := zU b z (fun e => o e)
  have c := h.below j
  exact zB ⟨_, zo, (i + 1), rfl, ah, zk, c, a, b, j, zo, eF⟩
 intro aq
 refine nW (zF (yH (zL (zL (yB (zB (zY (wR (zD (zD (zr (.func (.func 30) #[(pt b4 0)] #[]) (zc (c_idx d rows b4 b1 (kv (rows.take i)) (.map none) [] _ c b (GmAt.of a) (.inl ⟨rfl, rfl⟩) zo) ?_))))))))))))
 rintro _ am ⟨rfl, t⟩
 refine zG (nR (zD (zGe .i64 (idxL (kv (rows.take i)) rows) 0 ?_ ?_)))
 ·intro ak
  exfalso; (rw [new_lone i2 zo ak] at hok; cases hok)
 intro ar
 refine nQ (zF (zK (zB (wR (zD (zG (zG (zG (nQ (zS (yC [(pt b4 0), (I6 0), (I6 0)] (hd := ah) ?_)))))))))))
 have e0 : (0 : Int) = 0 := by rfl
 have e1 : (0 : Int) = 0 := by rfl
 have em : (kv (rows.take i)) = (kv rows) := by exact kv_all zo
 have a := zA a t
 rw [em] at a
 have j := j.tr t
 have b := zA b t
 exact ⟨b4, b1, rfl, b, ab, a, q, j⟩
end Go.Proofs.YtddnhlobnembaaaGreatDoor
end
