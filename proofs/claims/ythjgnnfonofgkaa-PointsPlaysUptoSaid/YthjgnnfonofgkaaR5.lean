/- Joined by my program pack2.py out of my own texts: Wgws Wgwt Wgwu Wgwv. -/
import Derived.Test.YthjgnnfonofgkaaProg
import Derived.Tactics2
import Derived.Test.YthjgnnfonofgkaaR2
import Derived.Test.YthjgnnfonofgkaaR3
import Derived.Test.YthjgnnfonofgkaaR4
set_option linter.unusedVariables false
set_option linter.unusedSimpArgs false
/- === Wgws === -/
section
/- Walks, written by my program walk.py out of the specification gws.py: each theorem says what one function returns and that it leaves memory as it was. -/
namespace Go.Proofs.Ythjgnnfonofgkaa
open Go Go.RowKit Go.FK
set_option maxHeartbeats 4000000
set_option maxRecDepth 100000
theorem vJ (c : Nat) (paP paR paN : Nat → Value) (do_ : Int) (ka : Int) (kb : Int) (kc : Int) (few : Int) (lo : Int) (hi : Int) (val : List UInt8) (w : World) (b : w.heap[c]? = some (.cells (wl paP paR paN).toArray 86 (0, 0))) (hw_p_0 : paP (atW ka) = (.pointer none)) (hw_r_1 : paR (atW ka) = (.slice none 0 0)) (hw_n_2 : paN (atW ka) = (.bool true)) (hlo : -2147483648 ≤ lo ∧ lo ≤ 2147483647) (hhi : -2147483648 ≤ hi ∧ hi ≤ 2147483647) (hdo : 0 ≤ do_ ∧ do_ ≤ 4) :
  Calls Try.prog 79 #[(pt c 0), (Value.agg #[(I6 do_), (I6 ka), (I6 kb), (I6 kc), (I6 few), (I3 lo), (I3 hi), (S val)])] w (Ret fun v w' => v = (.bool true) ∧ Below w.heap.size w w') := by
 refine wL 240 Try.func79 rfl ?_
 have g := Below.refl w.heap.size w
 have bk := Rel.nil
 have bq := bk.ok
 refine wR (zN [(I6 do_), (I6 ka), (I6 kb), (I6 kc), (I6 few), (I3 lo), (I3 hi), (S val)] 44 ?_)
 intro s w2 i
 have cs := i.ge g.size
 have d := i.here
 refine zI (nR (wB 1 d rfl (zc (xB ka _ ) ?_)))
 rintro _ w4 ⟨rfl, j⟩
 have b := zA (zA b i.below) j
 have d := zA d j
 refine zI (nR (zG (zG (zr (pt c 0) (zr (pt c 4) (yY (k := .i64) c 4 (atW ka) Try.underlying83 zk (by first | exact zJ _ | omega) zk zk (yK c (4 + (atW ka) * 1) (.slice none 0 0) zk zk (zK b ((wl_r (by first | exact zJ _ | omega)).trans (congrArg some hw_r_1))) (zI (nW (wR (wB 0 d rfl (nQ (yC (yA (wR (zEq .i64 do_ 0 ?_ ?_))))))))))))))))
 ·intro h7
  refine zI (nQ (zT (zZ (zB (zT (wR (zI (nR (zI (nW (wR (wB 0 d rfl (zEq .i64 do_ 0 ?_ ?_)))))))))))))
  ·intro h8
   refine nQ (zT (wR (zG (zr (pt s 5) (zOA 5 [(I3 lo), (I3 hi)] d (wB 7 d rfl (zc (c_putD (.slice none 0 0) [] lo hi val _ (Rx.nil _ _ _ _ _) (by first | omega | (simp; done)) (by exact bq) (by first | omega | (simp; done)) (by first | omega | (simp; done))) ?_)))))))
   rintro _ dp ⟨q9, rfl, cj, a2⟩
   have b := zA b a2
   have d := zA d a2
   refine zG (zr q9 (zr (I6 (if mayG lo hi = false then 41 else if szF (ptsF (strF [])) lo hi > 0 then 42 else 0)) (zI (zI (nQ (W_pre 10 12 2 zk zk zk zk zk zk zk (zY (zY (zV (pt c 0) zf (zV (pt c 0) zf (xI (k := .i64) c 0 (atW ka) Try.underlying80 zk (by first | exact zJ _ | omega) zk zk (zX c (0 + (atW ka) * 1) (.pointer none) zk zf (zK b ((xP (by first | exact zJ _ | omega)).trans (congrArg some hw_p_0))) (zV (pt s 5) zf (xU s 5 [(I3 lo), (I3 hi)] zk zf zf (cells_at d 5 zk) (zV (pt s 7) zf (zX s 7 (S val) zk zf (zK d rfl) (yM ?_)))))))))))))))))
   intro en ba
   refine yF 10 zk (yL 10 rfl ?_ rfl)
   refine zc (c_put_nil lo hi val _ ) ?_
   rintro _ dl ⟨rfl, bc⟩
   refine zR ?_
   refine ⟨rfl, ip 11 rfl (I6 1) (yS zk ?_)⟩
   have g := ((((g.tr i.below).tr j).tr a2).tr ba).tr bc
   have b := zA (zA b ba) bc
   exact zB (yA (wR (zG (zG (zr (pt c 0) (zr (pt c 8) (yY (k := .i64) c 8 (atW ka) Try.underlying84 zk (by first | exact zJ _ | omega) zk zk (yK c (8 + (atW ka) * 1) (.bool true) zk zk (zK b ((wO (by first | exact zJ _ | omega)).trans (congrArg some hw_n_2))) (nQ (zT (wR (zG (zr (.bool true) (zI (nQ (yB (zP (yG (zP (yJ [(.bool true)] ⟨rfl, g⟩))))))))))))))))))))
  intro b5
  exact absurd h7 b5
 intro b0
 refine zI (nQ (zF (zW (zEq .i64 do_ 1 ?_ ?_))))
 ·intro du
  refine zI (nQ (zT (wR (zI (nR (zI (nW (wR (wB 0 d rfl (zEq .i64 do_ 0 ?_ ?_))))))))))
  ·intro b3
   exact absurd b3 b0
  intro d1
  refine nQ (zF (wR (zG (zr (pt s 5) (zOA 5 [(I3 lo), (I3 hi)] d (wB 7 d rfl (zc (c_layD (.slice none 0 0) [] lo hi val _ (Rx.nil _ _ _ _ _) (by first | omega | (simp; done)) (by first | omega | (simp; done)) (by first | omega | (simp; done))) ?_)))))))
  rintro _ d6 ⟨bw, rfl, bv, ay⟩
  have b := zA b ay
  have d := zA d ay
  refine zG (zr bw (zr (I6 (layE lo hi)) (zI (zI (nQ (W_pre 10 12 2 zk zk zk zk zk zk zk (zY (zY (zV (pt c 0) zf (zV (pt c 0) zf (xI (k := .i64) c 0 (atW ka) Try.underlying80 zk (by first | exact zJ _ | omega) zk zk (zX c (0 + (atW ka) * 1) (.pointer none) zk zf (zK b ((xP (by first | exact zJ _ | omega)).trans (congrArg some hw_p_0))) (zV (pt s 5) zf (xU s 5 [(I3 lo), (I3 hi)] zk zf zf (cells_at d 5 zk) (zV (pt s 7) zf (zX s 7 (S val) zk zf (zK d rfl) (yM ?_)))))))))))))))))
  intro d7 be
  refine yF 10 zk (yL 10 rfl ?_ rfl)
  refine zc (c_lay_nil lo hi val _ ) ?_
  rintro _ ei ⟨rfl, bd⟩
  refine zR ?_
  refine ⟨rfl, ip 11 rfl (I6 1) (yS zk ?_)⟩
  have g := ((((g.tr i.below).tr j).tr ay).tr be).tr bd
  have b := zA (zA b be) bd
  exact zB (yA (wR (zG (zG (zr (pt c 0) (zr (pt c 8) (yY (k := .i64) c 8 (atW ka) Try.underlying84 zk (by first | exact zJ _ | omega) zk zk (yK c (8 + (atW ka) * 1) (.bool true) zk zk (zK b ((wO (by first | exact zJ _ | omega)).trans (congrArg some hw_n_2))) (nQ (zT (wR (zG (zr (.bool true) (zI (nQ (yB (zP (yG (zP (yJ [(.bool true)] ⟨rfl, g⟩))))))))))))))))))))
 intro eh
 refine zI (nQ (zF (wR (zEq .i64 do_ 2 ?_ ?_))))
 ·intro dq
  refine zI (nQ (zT (yA (W_pre 8 14 6 zk zk zk zk zk zk zk (zY (zY (zV (pt c 0) zf (zV (pt c 0) zf (xI (k := .i64) c 0 (atW ka) Try.underlying80 zk (by first | exact zJ _ | omega) zk zk (zX c (0 + (atW ka) * 1) (.pointer none) zk zf (zK b ((xP (by first | exact zJ _ | omega)).trans (congrArg some hw_p_0))) (zV (pt s 5) zf (xU s 5 [(I3 lo), (I3 hi)] zk zf zf (cells_at d 5 zk) (yM ?_)))))))))))))
  intro dy a1
  refine yF 8 zk (yL 8 rfl ?_ rfl)
  refine zc (c_cut_nil lo hi _ ) ?_
  rintro _ ek ⟨rfl, ax⟩
  refine zR ?_
  refine ⟨rfl, ip 9 rfl (.tuple #[(I6 0), (I6 1)]) (ip 10 rfl (I6 0) (ip 11 rfl (I6 1) (ip 12 rfl (I6 0) (ip 13 rfl (I6 1) (yS zk ?_)))))⟩
  have d := zA (zA d a1) ax
  refine zB (wR (zG (zr (pt s 5) (zOA 5 [(I3 lo), (I3 hi)] d (zc (c_cutD (.slice none 0 0) [] lo hi _ (Rx.nil _ _ _ _ _) (by first | omega | (simp; done)) (by exact bq) (by first | omega | (simp; done)) (by first | omega | (simp; done))) ?_)))))
  rintro _ ef ⟨bu, rfl, bz, a9⟩
  have g := ((((g.tr i.below).tr j).tr a1).tr ax).tr a9
  have b := zA (zA (zA b a1) ax) a9
  exact zG (zr bu (zr (I6 (if mayG lo hi = false then 0 else szF (ptsF (strF [])) lo hi)) (zr (I6 (layE lo hi)) (zI (zI (zI (nW (wR (zG (zG (zr (pt c 0) (zr (pt c 8) (yY (k := .i64) c 8 (atW ka) Try.underlying84 zk (by first | exact zJ _ | omega) zk zk (yK c (8 + (atW ka) * 1) (.bool true) zk zk (zK b ((wO (by first | exact zJ _ | omega)).trans (congrArg some hw_n_2))) (nQ (zT (wR (zG (zr (.bool true) (zG (zw (zG (zw (zr (.bool true) (xN (zI (nQ (yB (zP (yG (zP (yJ [(.bool true)] ⟨rfl, g⟩))))))))))))))))))))))))))))))))
 intro eb
 refine zI (nQ (zF (wR (zEq .i64 do_ 3 ?_ ?_))))
 ·intro dj
  refine zI (nQ (zT (yA (yV zk zk (zY (zY (zV (pt c 0) zf (zV (pt c 0) zf (xI (k := .i64) c 0 (atW ka) Try.underlying80 zk (by first | exact zJ _ | omega) zk zk (zX c (0 + (atW ka) * 1) (.pointer none) zk zf (zK b ((xP (by first | exact zJ _ | omega)).trans (congrArg some hw_p_0))) (zV (pt s 5) zf (zV (pt s 5) zf (zX s 5 (I3 lo) zk zf (zK d rfl) (yR 46 [(.pointer none), (I3 lo)] (.tuple #[(S []), (.bool false)]) zg (fun wq hbq => c_at_nil lo wq ) (zY (zV (S []) zf (zV (.bool false) zf (xA (xA (yM ?_))))))))))))))))))))
  intro dz a8
  have g := ((g.tr i.below).tr j).tr a8
  have b := zA b a8
  exact zB (yA (wR (zG (zG (zr (pt c 0) (zr (pt c 8) (yY (k := .i64) c 8 (atW ka) Try.underlying84 zk (by first | exact zJ _ | omega) zk zk (yK c (8 + (atW ka) * 1) (.bool true) zk zk (zK b ((wO (by first | exact zJ _ | omega)).trans (congrArg some hw_n_2))) (nQ (zT (wR (zG (qN [] ([] : List UInt8) (by rfl) zk zk (zG (zw (zG (zw (znt false (xN (zI (nQ (yB (zP (yG (zP (yJ [(.bool true)] ⟨rfl, g⟩))))))))))))))))))))))))))
 intro ec
 refine zI (nQ (zF (zZ (zS (zB (yA (xY 17 zk zk zk ?_)))))))
 intro dv f
 refine ip 0 rfl (pt c 0) (ip 1 rfl (N6 (atW ka)) (ip 2 rfl (pt c 0) (ip 3 rfl (pt c 0) (ip 6 rfl (pt s 5) (I_all3 4 7 13 zk ?_ ?_ ?_)))))
 ·skip
  refine yL 4 rfl ?_ rfl
  refine yY (k := .i64) c 0 (atW ka) Try.underlying80 zk (by first | exact zJ _ | omega) zk zk (zR ?_)
  refine ⟨rfl, I_all3 5 7 13 zk ?_ ?_ ?_⟩
  ·skip
   refine yL 5 rfl ?_ rfl
   have b := zA b f
   refine yK c (0 + (atW ka) * 1) (.pointer none) zk zk (zK b ((xP (by first | exact zJ _ | omega)).trans (congrArg some hw_p_0))) (zR ?_)
   refine ⟨rfl, wM 7 13 zk ?_ ?_⟩
   ·skip
    refine yL 7 rfl ?_ rfl
    have d := zA d f
    refine zOA 5 [(I3 lo), (I3 hi)] d (zR ?_)
    refine ⟨rfl, wM 8 13 zk ?_ ?_⟩
    ·skip
     refine yL 8 rfl ?_ rfl
     refine zc (xJ lo hi _ ) ?_
     rintro _ dx ⟨rfl, bb⟩
     refine zR ?_
     refine ⟨rfl, ip 9 rfl (.tuple #[(Value.agg #[(I3 0), (I3 0)]), (S []), (.bool false)]) (ip 10 rfl (Value.agg #[(I3 0), (I3 0)]) (ip 11 rfl (S []) (ip 12 rfl (.bool false) (yF 13 zk (yL 13 rfl ?_ rfl)))))⟩
     refine zN [(I3 0), (I3 0)] 29 ?_
     intro dt d4 au
     have g := (((g.tr i.below).tr j).tr f).tr bb
     have e := au.ge g.size
     have a := au.here
     refine zR ?_
     refine ⟨rfl, yF 14 zk (yL 14 rfl ?_ rfl)⟩
     refine qC [(I3 0), (I3 0)] a ?_
     intro el a0
     have b := zA (zA b bb) au.below
     have b := zC b a0 (zH b a zi)
     have a := a0.here
     refine zR ?_
     refine ⟨rfl, ip 15 rfl (S []) (ip 16 rfl (.bool false) (yS zk (zB (yA (wR (zG (zG (zr (pt c 0) (zr (pt c 8) (yY (k := .i64) c 8 (atW ka) Try.underlying84 zk (by first | exact zJ _ | omega) zk zk (yK c (8 + (atW ka) * 1) (.bool true) zk zk (zK b ((wO (by first | exact zJ _ | omega)).trans (congrArg some hw_n_2))) (nQ (zT (wR (wG a (zr (Value.agg #[(I3 0), (I3 0)]) (xE [(I3 0), (I3 0)] [(I3 0), (I3 0)] (0 == 0 && 0 == 0) zk zk zk (xF 0 0 0 0) ?_ ?_)))))))))))))))))⟩
     ·intro eg
      have g := (g.tr au.below).trans (a0.below e)
      exact zG (zw (zG (zw (qN [] ([] : List UInt8) (by rfl) zk zk (xN (zG (zw (zG (zw (znt false (xN (zI (nQ (yB (zP (yJ [(.bool true)] ⟨rfl, g⟩))))))))))))))))
     intro bs
     simp at bs
    skip
    refine yL 13 rfl ?_ rfl
    refine zN [(I3 0), (I3 0)] 29 ?_
    intro d5 dh ar
    have g := ((g.tr i.below).tr j).tr f
    have e := ar.ge g.size
    have a := ar.here
    refine zR ?_
    refine ⟨rfl, yF 8 zk (yL 8 rfl ?_ rfl)⟩
    refine zc (xJ lo hi _ ) ?_
    rintro _ d0 ⟨rfl, a4⟩
    refine zR ?_
    refine ⟨rfl, ip 9 rfl (.tuple #[(Value.agg #[(I3 0), (I3 0)]), (S []), (.bool false)]) (ip 10 rfl (Value.agg #[(I3 0), (I3 0)]) (ip 11 rfl (S []) (ip 12 rfl (.bool false) (yF 14 zk (yL 14 rfl ?_ rfl)))))⟩
    have a := zA a a4
    refine qC [(I3 0), (I3 0)] a ?_
    intro dw az
    have b := zA (zA b ar.below) a4
    have b := zC b az (zH b a zi)
    have a := az.here
    refine zR ?_
    refine ⟨rfl, ip 15 rfl (S []) (ip 16 rfl (.bool false) (yS zk (zB (yA (wR (zG (zG (zr (pt c 0) (zr (pt c 8) (yY (k := .i64) c 8 (atW ka) Try.underlying84 zk (by first | exact zJ _ | omega) zk zk (yK c (8 + (atW ka) * 1) (.bool true) zk zk (zK b ((wO (by first | exact zJ _ | omega)).trans (congrArg some hw_n_2))) (nQ (zT (wR (wG a (zr (Value.agg #[(I3 0), (I3 0)]) (xE [(I3 0), (I3 0)] [(I3 0), (I3 0)] (0 == 0 && 0 == 0) zk zk zk (xF 0 0 0 0) ?_ ?_)))))))))))))))))⟩
    ·intro ep
     have g := ((g.tr ar.below).tr a4).trans (az.below e)
     exact zG (zw (zG (zw (qN [] ([] : List UInt8) (by rfl) zk zk (xN (zG (zw (zG (zw (znt false (xN (zI (nQ (yB (zP (yJ [(.bool true)] ⟨rfl, g⟩))))))))))))))))
    intro b4
    simp at b4
   skip
   refine yL 13 rfl ?_ rfl
   refine zN [(I3 0), (I3 0)] 29 ?_
   intro dm ee r
   have g := ((g.tr i.below).tr j).tr f
   have e := r.ge g.size
   have a := r.here
   refine zR ?_
   refine ⟨rfl, yF 7 zk (yL 7 rfl ?_ rfl)⟩
   have d := zA (zA d f) r.below
   refine zOA 5 [(I3 lo), (I3 hi)] d (zR ?_)
   refine ⟨rfl, yF 8 zk (yL 8 rfl ?_ rfl)⟩
   refine zc (xJ lo hi _ ) ?_
   rintro _ dr ⟨rfl, a7⟩
   refine zR ?_
   refine ⟨rfl, ip 9 rfl (.tuple #[(Value.agg #[(I3 0), (I3 0)]), (S []), (.bool false)]) (ip 10 rfl (Value.agg #[(I3 0), (I3 0)]) (ip 11 rfl (S []) (ip 12 rfl (.bool false) (yF 14 zk (yL 14 rfl ?_ rfl)))))⟩
   have a := zA a a7
   refine qC [(I3 0), (I3 0)] a ?_
   intro ed a3
   have b := zA (zA b r.below) a7
   have b := zC b a3 (zH b a zi)
   have a := a3.here
   refine zR ?_
   refine ⟨rfl, ip 15 rfl (S []) (ip 16 rfl (.bool false) (yS zk (zB (yA (wR (zG (zG (zr (pt c 0) (zr (pt c 8) (yY (k := .i64) c 8 (atW ka) Try.underlying84 zk (by first | exact zJ _ | omega) zk zk (yK c (8 + (atW ka) * 1) (.bool true) zk zk (zK b ((wO (by first | exact zJ _ | omega)).trans (congrArg some hw_n_2))) (nQ (zT (wR (wG a (zr (Value.agg #[(I3 0), (I3 0)]) (xE [(I3 0), (I3 0)] [(I3 0), (I3 0)] (0 == 0 && 0 == 0) zk zk zk (xF 0 0 0 0) ?_ ?_)))))))))))))))))⟩
   ·intro em
    have g := ((g.tr r.below).tr a7).trans (a3.below e)
    exact zG (zw (zG (zw (qN [] ([] : List UInt8) (by rfl) zk zk (xN (zG (zw (zG (zw (znt false (xN (zI (nQ (yB (zP (yJ [(.bool true)] ⟨rfl, g⟩))))))))))))))))
   intro bt
   simp at bt
  ·skip
   refine yL 7 rfl ?_ rfl
   have d := zA d f
   refine zOA 5 [(I3 lo), (I3 hi)] d (zR ?_)
   refine ⟨rfl, wM 5 13 zk ?_ ?_⟩
   ·skip
    refine yL 5 rfl ?_ rfl
    have b := zA b f
    refine yK c (0 + (atW ka) * 1) (.pointer none) zk zk (zK b ((xP (by first | exact zJ _ | omega)).trans (congrArg some hw_p_0))) (zR ?_)
    refine ⟨rfl, wM 8 13 zk ?_ ?_⟩
    ·skip
     refine yL 8 rfl ?_ rfl
     refine zc (xJ lo hi _ ) ?_
     rintro _ eo ⟨rfl, bf⟩
     refine zR ?_
     refine ⟨rfl, ip 9 rfl (.tuple #[(Value.agg #[(I3 0), (I3 0)]), (S []), (.bool false)]) (ip 10 rfl (Value.agg #[(I3 0), (I3 0)]) (ip 11 rfl (S []) (ip 12 rfl (.bool false) (yF 13 zk (yL 13 rfl ?_ rfl)))))⟩
     refine zN [(I3 0), (I3 0)] 29 ?_
     intro di ej ap
     have g := (((g.tr i.below).tr j).tr f).tr bf
     have e := ap.ge g.size
     have a := ap.here
     refine zR ?_
     refine ⟨rfl, yF 14 zk (yL 14 rfl ?_ rfl)⟩
     refine qC [(I3 0), (I3 0)] a ?_
     intro d3 av
     have b := zA (zA b bf) ap.below
     have b := zC b av (zH b a zi)
     have a := av.here
     refine zR ?_
     refine ⟨rfl, ip 15 rfl (S []) (ip 16 rfl (.bool false) (yS zk (zB (yA (wR (zG (zG (zr (pt c 0) (zr (pt c 8) (yY (k := .i64) c 8 (atW ka) Try.underlying84 zk (by first | exact zJ _ | omega) zk zk (yK c (8 + (atW ka) * 1) (.bool true) zk zk (zK b ((wO (by first | exact zJ _ | omega)).trans (congrArg some hw_n_2))) (nQ (zT (wR (wG a (zr (Value.agg #[(I3 0), (I3 0)]) (xE [(I3 0), (I3 0)] [(I3 0), (I3 0)] (0 == 0 && 0 == 0) zk zk zk (xF 0 0 0 0) ?_ ?_)))))))))))))))))⟩
     ·intro d9
      have g := (g.tr ap.below).trans (av.below e)
      exact zG (zw (zG (zw (qN [] ([] : List UInt8) (by rfl) zk zk (xN (zG (zw (zG (zw (znt false (xN (zI (nQ (yB (zP (yJ [(.bool true)] ⟨rfl, g⟩))))))))))))))))
     intro b2
     simp at b2
    skip
    refine yL 13 rfl ?_ rfl
    refine zN [(I3 0), (I3 0)] 29 ?_
    intro dg dn aq
    have g := ((g.tr i.below).tr j).tr f
    have e := aq.ge g.size
    have a := aq.here
    refine zR ?_
    refine ⟨rfl, yF 8 zk (yL 8 rfl ?_ rfl)⟩
    refine zc (xJ lo hi _ ) ?_
    rintro _ dk ⟨rfl, aw⟩
    refine zR ?_
    refine ⟨rfl, ip 9 rfl (.tuple #[(Value.agg #[(I3 0), (I3 0)]), (S []), (.bool false)]) (ip 10 rfl (Value.agg #[(I3 0), (I3 0)]) (ip 11 rfl (S []) (ip 12 rfl (.bool false) (yF 14 zk (yL 14 rfl ?_ rfl)))))⟩
    have a := zA a aw
    refine qC [(I3 0), (I3 0)] a ?_
    intro d2 a6
    have b := zA (zA b aq.below) aw
    have b := zC b a6 (zH b a zi)
    have a := a6.here
    refine zR ?_
    refine ⟨rfl, ip 15 rfl (S []) (ip 16 rfl (.bool false) (yS zk (zB (yA (wR (zG (zG (zr (pt c 0) (zr (pt c 8) (yY (k := .i64) c 8 (atW ka) Try.underlying84 zk (by first | exact zJ _ | omega) zk zk (yK c (8 + (atW ka) * 1) (.bool true) zk zk (zK b ((wO (by first | exact zJ _ | omega)).trans (congrArg some hw_n_2))) (nQ (zT (wR (wG a (zr (Value.agg #[(I3 0), (I3 0)]) (xE [(I3 0), (I3 0)] [(I3 0), (I3 0)] (0 == 0 && 0 == 0) zk zk zk (xF 0 0 0 0) ?_ ?_)))))))))))))))))⟩
    ·intro ds
     have g := ((g.tr aq.below).tr aw).trans (a6.below e)
     exact zG (zw (zG (zw (qN [] ([] : List UInt8) (by rfl) zk zk (xN (zG (zw (zG (zw (znt false (xN (zI (nQ (yB (zP (yJ [(.bool true)] ⟨rfl, g⟩))))))))))))))))
    intro bx
    simp at bx
   skip
   refine yL 13 rfl ?_ rfl
   refine zN [(I3 0), (I3 0)] 29 ?_
   intro cu b8 o
   have g := ((g.tr i.below).tr j).tr f
   have e := o.ge g.size
   have a := o.here
   refine zR ?_
   refine ⟨rfl, yF 5 zk (yL 5 rfl ?_ rfl)⟩
   have b := zA (zA b f) o.below
   refine yK c (0 + (atW ka) * 1) (.pointer none) zk zk (zK b ((xP (by first | exact zJ _ | omega)).trans (congrArg some hw_p_0))) (zR ?_)
   refine ⟨rfl, yF 8 zk (yL 8 rfl ?_ rfl)⟩
   refine zc (xJ lo hi _ ) ?_
   rintro _ cx ⟨rfl, aa⟩
   refine zR ?_
   refine ⟨rfl, ip 9 rfl (.tuple #[(Value.agg #[(I3 0), (I3 0)]), (S []), (.bool false)]) (ip 10 rfl (Value.agg #[(I3 0), (I3 0)]) (ip 11 rfl (S []) (ip 12 rfl (.bool false) (yF 14 zk (yL 14 rfl ?_ rfl)))))⟩
   have a := zA a aa
   refine qC [(I3 0), (I3 0)] a ?_
   intro ch am
   have b := zA b aa
   have b := zC b am (zH b a zi)
   have a := am.here
   refine zR ?_
   refine ⟨rfl, ip 15 rfl (S []) (ip 16 rfl (.bool false) (yS zk (zB (yA (wR (zG (zG (zr (pt c 0) (zr (pt c 8) (yY (k := .i64) c 8 (atW ka) Try.underlying84 zk (by first | exact zJ _ | omega) zk zk (yK c (8 + (atW ka) * 1) (.bool true) zk zk (zK b ((wO (by first | exact zJ _ | omega)).trans (congrArg some hw_n_2))) (nQ (zT (wR (wG a (zr (Value.agg #[(I3 0), (I3 0)]) (xE [(I3 0), (I3 0)] [(I3 0), (I3 0)] (0 == 0 && 0 == 0) zk zk zk (xF 0 0 0 0) ?_ ?_)))))))))))))))))⟩
   ·intro ce
    have g := ((g.tr o.below).tr aa).trans (am.below e)
    exact zG (zw (zG (zw (qN [] ([] : List UInt8) (by rfl) zk zk (xN (zG (zw (zG (zw (znt false (xN (zI (nQ (yB (zP (yJ [(.bool true)] ⟨rfl, g⟩))))))))))))))))
   intro bn
   simp at bn
  skip
  refine yL 13 rfl ?_ rfl
  refine zN [(I3 0), (I3 0)] 29 ?_
  intro c3 c0 l
  have g := ((g.tr i.below).tr j).tr f
  have e := l.ge g.size
  have a := l.here
  refine zR ?_
  refine ⟨rfl, wM 5 7 zk ?_ ?_⟩
  ·skip
   refine yL 5 rfl ?_ rfl
   have b := zA (zA b f) l.below
   refine yK c (0 + (atW ka) * 1) (.pointer none) zk zk (zK b ((xP (by first | exact zJ _ | omega)).trans (congrArg some hw_p_0))) (zR ?_)
   refine ⟨rfl, yF 7 zk (yL 7 rfl ?_ rfl)⟩
   have d := zA (zA d f) l.below
   refine zOA 5 [(I3 lo), (I3 hi)] d (zR ?_)
   refine ⟨rfl, yF 8 zk (yL 8 rfl ?_ rfl)⟩
   refine zc (xJ lo hi _ ) ?_
   rintro _ c7 ⟨rfl, ai⟩
   refine zR ?_
   refine ⟨rfl, ip 9 rfl (.tuple #[(Value.agg #[(I3 0), (I3 0)]), (S []), (.bool false)]) (ip 10 rfl (Value.agg #[(I3 0), (I3 0)]) (ip 11 rfl (S []) (ip 12 rfl (.bool false) (yF 14 zk (yL 14 rfl ?_ rfl)))))⟩
   have a := zA a ai
   refine qC [(I3 0), (I3 0)] a ?_
   intro c5 af
   have b := zA b ai
   have b := zC b af (zH b a zi)
   have a := af.here
   refine zR ?_
   refine ⟨rfl, ip 15 rfl (S []) (ip 16 rfl (.bool false) (yS zk (zB (yA (wR (zG (zG (zr (pt c 0) (zr (pt c 8) (yY (k := .i64) c 8 (atW ka) Try.underlying84 zk (by first | exact zJ _ | omega) zk zk (yK c (8 + (atW ka) * 1) (.bool true) zk zk (zK b ((wO (by first | exact zJ _ | omega)).trans (congrArg some hw_n_2))) (nQ (zT (wR (wG a (zr (Value.agg #[(I3 0), (I3 0)]) (xE [(I3 0), (I3 0)] [(I3 0), (I3 0)] (0 == 0 && 0 == 0) zk zk zk (xF 0 0 0 0) ?_ ?_)))))))))))))))))⟩
   ·intro cc
    have g := ((g.tr l.below).tr ai).trans (af.below e)
    exact zG (zw (zG (zw (qN [] ([] : List UInt8) (by rfl) zk zk (xN (zG (zw (zG (zw (znt false (xN (zI (nQ (yB (zP (yJ [(.bool true)] ⟨rfl, g⟩))))))))))))))))
   intro br
   simp at br
  skip
  refine yL 7 rfl ?_ rfl
  have d := zA (zA d f) l.below
  refine zOA 5 [(I3 lo), (I3 hi)] d (zR ?_)
  refine ⟨rfl, yF 5 zk (yL 5 rfl ?_ rfl)⟩
  have b := zA (zA b f) l.below
  refine yK c (0 + (atW ka) * 1) (.pointer none) zk zk (zK b ((xP (by first | exact zJ _ | omega)).trans (congrArg some hw_p_0))) (zR ?_)
  refine ⟨rfl, yF 8 zk (yL 8 rfl ?_ rfl)⟩
  refine zc (xJ lo hi _ ) ?_
  rintro _ c8 ⟨rfl, aj⟩
  refine zR ?_
  refine ⟨rfl, ip 9 rfl (.tuple #[(Value.agg #[(I3 0), (I3 0)]), (S []), (.bool false)]) (ip 10 rfl (Value.agg #[(I3 0), (I3 0)]) (ip 11 rfl (S []) (ip 12 rfl (.bool false) (yF 14 zk (yL 14 rfl ?_ rfl)))))⟩
  have a := zA a aj
  refine qC [(I3 0), (I3 0)] a ?_
  intro df ae
  have b := zA b aj
  have b := zC b ae (zH b a zi)
  have a := ae.here
  refine zR ?_
  refine ⟨rfl, ip 15 rfl (S []) (ip 16 rfl (.bool false) (yS zk (zB (yA (wR (zG (zG (zr (pt c 0) (zr (pt c 8) (yY (k := .i64) c 8 (atW ka) Try.underlying84 zk (by first | exact zJ _ | omega) zk zk (yK c (8 + (atW ka) * 1) (.bool true) zk zk (zK b ((wO (by first | exact zJ _ | omega)).trans (congrArg some hw_n_2))) (nQ (zT (wR (wG a (zr (Value.agg #[(I3 0), (I3 0)]) (xE [(I3 0), (I3 0)] [(I3 0), (I3 0)] (0 == 0 && 0 == 0) zk zk zk (xF 0 0 0 0) ?_ ?_)))))))))))))))))⟩
  ·intro ck
   have g := ((g.tr l.below).tr aj).trans (ae.below e)
   exact zG (zw (zG (zw (qN [] ([] : List UInt8) (by rfl) zk zk (xN (zG (zw (zG (zw (znt false (xN (zI (nQ (yB (zP (yJ [(.bool true)] ⟨rfl, g⟩))))))))))))))))
  intro bj
  simp at bj
 ·skip
  refine yL 7 rfl ?_ rfl
  have d := zA d f
  refine zOA 5 [(I3 lo), (I3 hi)] d (zR ?_)
  refine ⟨rfl, wM 4 13 zk ?_ ?_⟩
  ·skip
   refine yL 4 rfl ?_ rfl
   refine yY (k := .i64) c 0 (atW ka) Try.underlying80 zk (by first | exact zJ _ | omega) zk zk (zR ?_)
   refine ⟨rfl, wM 5 13 zk ?_ ?_⟩
   ·skip
    refine yL 5 rfl ?_ rfl
    have b := zA b f
    refine yK c (0 + (atW ka) * 1) (.pointer none) zk zk (zK b ((xP (by first | exact zJ _ | omega)).trans (congrArg some hw_p_0))) (zR ?_)
    refine ⟨rfl, wM 8 13 zk ?_ ?_⟩
    ·skip
     refine yL 8 rfl ?_ rfl
     refine zc (xJ lo hi _ ) ?_
     rintro _ de ⟨rfl, a5⟩
     refine zR ?_
     refine ⟨rfl, ip 9 rfl (.tuple #[(Value.agg #[(I3 0), (I3 0)]), (S []), (.bool false)]) (ip 10 rfl (Value.agg #[(I3 0), (I3 0)]) (ip 11 rfl (S []) (ip 12 rfl (.bool false) (yF 13 zk (yL 13 rfl ?_ rfl)))))⟩
     refine zN [(I3 0), (I3 0)] 29 ?_
     intro b6 cq p
     have g := (((g.tr i.below).tr j).tr f).tr a5
     have e := p.ge g.size
     have a := p.here
     refine zR ?_
     refine ⟨rfl, yF 14 zk (yL 14 rfl ?_ rfl)⟩
     refine qC [(I3 0), (I3 0)] a ?_
     intro cz an
     have b := zA (zA b a5) p.below
     have b := zC b an (zH b a zi)
     have a := an.here
     refine zR ?_
     refine ⟨rfl, ip 15 rfl (S []) (ip 16 rfl (.bool false) (yS zk (zB (yA (wR (zG (zG (zr (pt c 0) (zr (pt c 8) (yY (k := .i64) c 8 (atW ka) Try.underlying84 zk (by first | exact zJ _ | omega) zk zk (yK c (8 + (atW ka) * 1) (.bool true) zk zk (zK b ((wO (by first | exact zJ _ | omega)).trans (congrArg some hw_n_2))) (nQ (zT (wR (wG a (zr (Value.agg #[(I3 0), (I3 0)]) (xE [(I3 0), (I3 0)] [(I3 0), (I3 0)] (0 == 0 && 0 == 0) zk zk zk (xF 0 0 0 0) ?_ ?_)))))))))))))))))⟩
     ·intro c9
      have g := (g.tr p.below).trans (an.below e)
      exact zG (zw (zG (zw (qN [] ([] : List UInt8) (by rfl) zk zk (xN (zG (zw (zG (zw (znt false (xN (zI (nQ (yB (zP (yJ [(.bool true)] ⟨rfl, g⟩))))))))))))))))
     intro bm
     simp at bm
    skip
    refine yL 13 rfl ?_ rfl
    refine zN [(I3 0), (I3 0)] 29 ?_
    intro dc ci q
    have g := ((g.tr i.below).tr j).tr f
    have e := q.ge g.size
    have a := q.here
    refine zR ?_
    refine ⟨rfl, yF 8 zk (yL 8 rfl ?_ rfl)⟩
    refine zc (xJ lo hi _ ) ?_
    rintro _ c6 ⟨rfl, ah⟩
    refine zR ?_
    refine ⟨rfl, ip 9 rfl (.tuple #[(Value.agg #[(I3 0), (I3 0)]), (S []), (.bool false)]) (ip 10 rfl (Value.agg #[(I3 0), (I3 0)]) (ip 11 rfl (S []) (ip 12 rfl (.bool false) (yF 14 zk (yL 14 rfl ?_ rfl)))))⟩
    have a := zA a ah
    refine qC [(I3 0), (I3 0)] a ?_
    intro cy ao
    have b := zA (zA b q.below) ah
    have b := zC b ao (zH b a zi)
    have a := ao.here
    refine zR ?_
    refine ⟨rfl, ip 15 rfl (S []) (ip 16 rfl (.bool false) (yS zk (zB (yA (wR (zG (zG (zr (pt c 0) (zr (pt c 8) (yY (k := .i64) c 8 (atW ka) Try.underlying84 zk (by first | exact zJ _ | omega) zk zk (yK c (8 + (atW ka) * 1) (.bool true) zk zk (zK b ((wO (by first | exact zJ _ | omega)).trans (congrArg some hw_n_2))) (nQ (zT (wR (wG a (zr (Value.agg #[(I3 0), (I3 0)]) (xE [(I3 0), (I3 0)] [(I3 0), (I3 0)] (0 == 0 && 0 == 0) zk zk zk (xF 0 0 0 0) ?_ ?_)))))))))))))))))⟩
    ·intro db
     have g := ((g.tr q.below).tr ah).trans (ao.below e)
     exact zG (zw (zG (zw (qN [] ([] : List UInt8) (by rfl) zk zk (xN (zG (zw (zG (zw (znt false (xN (zI (nQ (yB (zP (yJ [(.bool true)] ⟨rfl, g⟩))))))))))))))))
    intro bi
    simp at bi
   skip
   refine yL 13 rfl ?_ rfl
   refine zN [(I3 0), (I3 0)] 29 ?_
   intro cb cf m
   have g := ((g.tr i.below).tr j).tr f
   have e := m.ge g.size
   have a := m.here
   refine zR ?_
   refine ⟨rfl, yF 5 zk (yL 5 rfl ?_ rfl)⟩
   have b := zA (zA b f) m.below
   refine yK c (0 + (atW ka) * 1) (.pointer none) zk zk (zK b ((xP (by first | exact zJ _ | omega)).trans (congrArg some hw_p_0))) (zR ?_)
   refine ⟨rfl, yF 8 zk (yL 8 rfl ?_ rfl)⟩
   refine zc (xJ lo hi _ ) ?_
   rintro _ cr ⟨rfl, al⟩
   refine zR ?_
   refine ⟨rfl, ip 9 rfl (.tuple #[(Value.agg #[(I3 0), (I3 0)]), (S []), (.bool false)]) (ip 10 rfl (Value.agg #[(I3 0), (I3 0)]) (ip 11 rfl (S []) (ip 12 rfl (.bool false) (yF 14 zk (yL 14 rfl ?_ rfl)))))⟩
   have a := zA a al
   refine qC [(I3 0), (I3 0)] a ?_
   intro c4 ag
   have b := zA b al
   have b := zC b ag (zH b a zi)
   have a := ag.here
   refine zR ?_
   refine ⟨rfl, ip 15 rfl (S []) (ip 16 rfl (.bool false) (yS zk (zB (yA (wR (zG (zG (zr (pt c 0) (zr (pt c 8) (yY (k := .i64) c 8 (atW ka) Try.underlying84 zk (by first | exact zJ _ | omega) zk zk (yK c (8 + (atW ka) * 1) (.bool true) zk zk (zK b ((wO (by first | exact zJ _ | omega)).trans (congrArg some hw_n_2))) (nQ (zT (wR (wG a (zr (Value.agg #[(I3 0), (I3 0)]) (xE [(I3 0), (I3 0)] [(I3 0), (I3 0)] (0 == 0 && 0 == 0) zk zk zk (xF 0 0 0 0) ?_ ?_)))))))))))))))))⟩
   ·intro c1
    have g := ((g.tr m.below).tr al).trans (ag.below e)
    exact zG (zw (zG (zw (qN [] ([] : List UInt8) (by rfl) zk zk (xN (zG (zw (zG (zw (znt false (xN (zI (nQ (yB (zP (yJ [(.bool true)] ⟨rfl, g⟩))))))))))))))))
   intro bp
   simp at bp
  skip
  refine yL 13 rfl ?_ rfl
  refine zN [(I3 0), (I3 0)] 29 ?_
  intro b7 co n
  have g := ((g.tr i.below).tr j).tr f
  have e := n.ge g.size
  have a := n.here
  refine zR ?_
  refine ⟨rfl, yF 4 zk (yL 4 rfl ?_ rfl)⟩
  refine yY (k := .i64) c 0 (atW ka) Try.underlying80 zk (by first | exact zJ _ | omega) zk zk (zR ?_)
  refine ⟨rfl, yF 5 zk (yL 5 rfl ?_ rfl)⟩
  have b := zA (zA b f) n.below
  refine yK c (0 + (atW ka) * 1) (.pointer none) zk zk (zK b ((xP (by first | exact zJ _ | omega)).trans (congrArg some hw_p_0))) (zR ?_)
  refine ⟨rfl, yF 8 zk (yL 8 rfl ?_ rfl)⟩
  refine zc (xJ lo hi _ ) ?_
  rintro _ cl ⟨rfl, t⟩
  refine zR ?_
  refine ⟨rfl, ip 9 rfl (.tuple #[(Value.agg #[(I3 0), (I3 0)]), (S []), (.bool false)]) (ip 10 rfl (Value.agg #[(I3 0), (I3 0)]) (ip 11 rfl (S []) (ip 12 rfl (.bool false) (yF 14 zk (yL 14 rfl ?_ rfl)))))⟩
  have a := zA a t
  refine qC [(I3 0), (I3 0)] a ?_
  intro cm ad
  have b := zA b t
  have b := zC b ad (zH b a zi)
  have a := ad.here
  refine zR ?_
  refine ⟨rfl, ip 15 rfl (S []) (ip 16 rfl (.bool false) (yS zk (zB (yA (wR (zG (zG (zr (pt c 0) (zr (pt c 8) (yY (k := .i64) c 8 (atW ka) Try.underlying84 zk (by first | exact zJ _ | omega) zk zk (yK c (8 + (atW ka) * 1) (.bool true) zk zk (zK b ((wO (by first | exact zJ _ | omega)).trans (congrArg some hw_n_2))) (nQ (zT (wR (wG a (zr (Value.agg #[(I3 0), (I3 0)]) (xE [(I3 0), (I3 0)] [(I3 0), (I3 0)] (0 == 0 && 0 == 0) zk zk zk (xF 0 0 0 0) ?_ ?_)))))))))))))))))⟩
  ·intro da
   have g := ((g.tr n.below).tr t).trans (ad.below e)
   exact zG (zw (zG (zw (qN [] ([] : List UInt8) (by rfl) zk zk (xN (zG (zw (zG (zw (znt false (xN (zI (nQ (yB (zP (yJ [(.bool true)] ⟨rfl, g⟩))))))))))))))))
  intro bg
  simp at bg
 skip
 refine yL 13 rfl ?_ rfl
 refine zN [(I3 0), (I3 0)] 29 ?_
 intro cg ca h
 have g := ((g.tr i.below).tr j).tr f
 have e := h.ge g.size
 have a := h.here
 refine zR ?_
 refine ⟨rfl, wM 4 7 zk ?_ ?_⟩
 ·skip
  refine yL 4 rfl ?_ rfl
  refine yY (k := .i64) c 0 (atW ka) Try.underlying80 zk (by first | exact zJ _ | omega) zk zk (zR ?_)
  refine ⟨rfl, wM 5 7 zk ?_ ?_⟩
  ·skip
   refine yL 5 rfl ?_ rfl
   have b := zA (zA b f) h.below
   refine yK c (0 + (atW ka) * 1) (.pointer none) zk zk (zK b ((xP (by first | exact zJ _ | omega)).trans (congrArg some hw_p_0))) (zR ?_)
   refine ⟨rfl, yF 7 zk (yL 7 rfl ?_ rfl)⟩
   have d := zA (zA d f) h.below
   refine zOA 5 [(I3 lo), (I3 hi)] d (zR ?_)
   refine ⟨rfl, yF 8 zk (yL 8 rfl ?_ rfl)⟩
   refine zc (xJ lo hi _ ) ?_
   rintro _ cp ⟨rfl, ab⟩
   refine zR ?_
   refine ⟨rfl, ip 9 rfl (.tuple #[(Value.agg #[(I3 0), (I3 0)]), (S []), (.bool false)]) (ip 10 rfl (Value.agg #[(I3 0), (I3 0)]) (ip 11 rfl (S []) (ip 12 rfl (.bool false) (yF 14 zk (yL 14 rfl ?_ rfl)))))⟩
   have a := zA a ab
   refine qC [(I3 0), (I3 0)] a ?_
   intro cv y
   have b := zA b ab
   have b := zC b y (zH b a zi)
   have a := y.here
   refine zR ?_
   refine ⟨rfl, ip 15 rfl (S []) (ip 16 rfl (.bool false) (yS zk (zB (yA (wR (zG (zG (zr (pt c 0) (zr (pt c 8) (yY (k := .i64) c 8 (atW ka) Try.underlying84 zk (by first | exact zJ _ | omega) zk zk (yK c (8 + (atW ka) * 1) (.bool true) zk zk (zK b ((wO (by first | exact zJ _ | omega)).trans (congrArg some hw_n_2))) (nQ (zT (wR (wG a (zr (Value.agg #[(I3 0), (I3 0)]) (xE [(I3 0), (I3 0)] [(I3 0), (I3 0)] (0 == 0 && 0 == 0) zk zk zk (xF 0 0 0 0) ?_ ?_)))))))))))))))))⟩
   ·intro ct
    have g := ((g.tr h.below).tr ab).trans (y.below e)
    exact zG (zw (zG (zw (qN [] ([] : List UInt8) (by rfl) zk zk (xN (zG (zw (zG (zw (znt false (xN (zI (nQ (yB (zP (yJ [(.bool true)] ⟨rfl, g⟩))))))))))))))))
   intro bh
   simp at bh
  skip
  refine yL 7 rfl ?_ rfl
  have d := zA (zA d f) h.below
  refine zOA 5 [(I3 lo), (I3 hi)] d (zR ?_)
  refine ⟨rfl, yF 5 zk (yL 5 rfl ?_ rfl)⟩
  have b := zA (zA b f) h.below
  refine yK c (0 + (atW ka) * 1) (.pointer none) zk zk (zK b ((xP (by first | exact zJ _ | omega)).trans (congrArg some hw_p_0))) (zR ?_)
  refine ⟨rfl, yF 8 zk (yL 8 rfl ?_ rfl)⟩
  refine zc (xJ lo hi _ ) ?_
  rintro _ dd ⟨rfl, u⟩
  refine zR ?_
  refine ⟨rfl, ip 9 rfl (.tuple #[(Value.agg #[(I3 0), (I3 0)]), (S []), (.bool false)]) (ip 10 rfl (Value.agg #[(I3 0), (I3 0)]) (ip 11 rfl (S []) (ip 12 rfl (.bool false) (yF 14 zk (yL 14 rfl ?_ rfl)))))⟩
  have a := zA a u
  refine qC [(I3 0), (I3 0)] a ?_
  intro c2 ac
  have b := zA b u
  have b := zC b ac (zH b a zi)
  have a := ac.here
  refine zR ?_
  refine ⟨rfl, ip 15 rfl (S []) (ip 16 rfl (.bool false) (yS zk (zB (yA (wR (zG (zG (zr (pt c 0) (zr (pt c 8) (yY (k := .i64) c 8 (atW ka) Try.underlying84 zk (by first | exact zJ _ | omega) zk zk (yK c (8 + (atW ka) * 1) (.bool true) zk zk (zK b ((wO (by first | exact zJ _ | omega)).trans (congrArg some hw_n_2))) (nQ (zT (wR (wG a (zr (Value.agg #[(I3 0), (I3 0)]) (xE [(I3 0), (I3 0)] [(I3 0), (I3 0)] (0 == 0 && 0 == 0) zk zk zk (xF 0 0 0 0) ?_ ?_)))))))))))))))))⟩
  ·intro b9
   have g := ((g.tr h.below).tr u).trans (ac.below e)
   exact zG (zw (zG (zw (qN [] ([] : List UInt8) (by rfl) zk zk (xN (zG (zw (zG (zw (znt false (xN (zI (nQ (yB (zP (yJ [(.bool true)] ⟨rfl, g⟩))))))))))))))))
  intro bo
  simp at bo
 skip
 refine yL 7 rfl ?_ rfl
 have d := zA (zA d f) h.below
 refine zOA 5 [(I3 lo), (I3 hi)] d (zR ?_)
 refine ⟨rfl, yF 4 zk (yL 4 rfl ?_ rfl)⟩
 refine yY (k := .i64) c 0 (atW ka) Try.underlying80 zk (by first | exact zJ _ | omega) zk zk (zR ?_)
 refine ⟨rfl, yF 5 zk (yL 5 rfl ?_ rfl)⟩
 have b := zA (zA b f) h.below
 refine yK c (0 + (atW ka) * 1) (.pointer none) zk zk (zK b ((xP (by first | exact zJ _ | omega)).trans (congrArg some hw_p_0))) (zR ?_)
 refine ⟨rfl, yF 8 zk (yL 8 rfl ?_ rfl)⟩
 refine zc (xJ lo hi _ ) ?_
 rintro _ cn ⟨rfl, z⟩
 refine zR ?_
 refine ⟨rfl, ip 9 rfl (.tuple #[(Value.agg #[(I3 0), (I3 0)]), (S []), (.bool false)]) (ip 10 rfl (Value.agg #[(I3 0), (I3 0)]) (ip 11 rfl (S []) (ip 12 rfl (.bool false) (yF 14 zk (yL 14 rfl ?_ rfl)))))⟩
 have a := zA a z
 refine qC [(I3 0), (I3 0)] a ?_
 intro cw ak
 have b := zA b z
 have b := zC b ak (zH b a zi)
 have a := ak.here
 refine zR ?_
 refine ⟨rfl, ip 15 rfl (S []) (ip 16 rfl (.bool false) (yS zk (zB (yA (wR (zG (zG (zr (pt c 0) (zr (pt c 8) (yY (k := .i64) c 8 (atW ka) Try.underlying84 zk (by first | exact zJ _ | omega) zk zk (yK c (8 + (atW ka) * 1) (.bool true) zk zk (zK b ((wO (by first | exact zJ _ | omega)).trans (congrArg some hw_n_2))) (nQ (zT (wR (wG a (zr (Value.agg #[(I3 0), (I3 0)]) (xE [(I3 0), (I3 0)] [(I3 0), (I3 0)] (0 == 0 && 0 == 0) zk zk zk (xF 0 0 0 0) ?_ ?_)))))))))))))))))⟩
 ·intro cd
  have g := ((g.tr h.below).tr z).trans (ak.below e)
  exact zG (zw (zG (zw (qN [] ([] : List UInt8) (by rfl) zk zk (xN (zG (zw (zG (zw (znt false (xN (zI (nQ (yB (zP (yJ [(.bool true)] ⟨rfl, g⟩))))))))))))))))
 intro bl
 simp at bl
theorem s_change (l : Nat) (paP paR paN : Nat → Value) (do_ : Int) (ka : Int) (kb : Int) (kc : Int) (few : Int) (lo : Int) (hi : Int) (val : List UInt8) (t : Value) (ds : List (Int × Int × List UInt8 × Bool)) (i : Nat) (c : Value) (xs : List (Int × Int × List UInt8)) (B_ : Nat) (w : World) (hs0 : B_ ≤ w.heap.size) (j : w.heap[l]? = some (.cells (wl paP paR paN).toArray 86 (0, 0))) (y : B_ ≤ l) (hw_p_0 : paP (atW ka) = (pt i 0)) (hw_r_1 : paR (atW ka) = t) (hw_n_2 : paN (atW ka) = (.bool false)) (n : Rx w 0 187 4 encD t ds) (m : w.heap[i]? = some (.cells [c, (.bool true)].toArray 136 (0, 0))) (u : B_ ≤ i) (b : Row w B_ 138 3 encSpanS c xs) (hrel : Rel xs ds) (hln : ds.length ≤ 1073741822) (hlo : -2147483648 ≤ lo ∧ lo ≤ 2147483647) (hhi : -2147483648 ≤ hi ∧ hi ≤ 2147483647) (hdo : 0 ≤ do_ ∧ do_ ≤ 4) (ne_w_m : NE l i) (ne_m_w : NE i l) :
  Calls Try.prog 42 #[(pt l 0), (Value.agg #[(I6 do_), (I6 ka), (I6 kb), (I6 kc), (I6 few), (I3 lo), (I3 hi), (S val)])] w (Ret fun v w' => ∃ q0 v1 : Value, v = .bool true ∧ w'.heap[l]? = some (.cells (wl paP (up paR (atW ka) v1) paN).toArray 86 (0, 0)) ∧ w'.heap[i]? = some (.cells [q0, (.bool true)].toArray 136 (0, 0)) ∧ Row w' B_ 138 3 encSpanS q0 (chgX do_ xs lo hi val) ∧ (∀ g, Value.ownBlock q0 = some g → w.heap.size ≤ g ∨ (Dw l i c) g) ∧ Rx w' 0 187 4 encD v1 (chgD do_ ds lo hi val) ∧ Ch (Dw l i c) w w') := by
 refine wL 109 Try.func42 rfl ?_
 have z := Below.refl B_ w
 have s : B_ ≤ (World.heap w).size := hs0
 have o := Ch.refl (Dw l i c) w
 have q : (World.heap w).size ≤ l ∨ (Dw l i c) l := .inr (.inl rfl)
 have p : (World.heap w).size ≤ i ∨ (Dw l i c) i := .inr (.inr (.inl rfl))
 have a : ∀ g, Value.ownBlock c = some g → (World.heap w).size ≤ g ∨ (Dw l i c) g := fun g h => .inr (.inr (.inr h))
 refine wR (zN [(I6 do_), (I6 ka), (I6 kb), (I6 kc), (I6 few), (I3 lo), (I3 hi), (S val)] 44 ?_)
 intro b1 w2 f
 have bn : B_ ≤ b1 := by rw [f.num]; exact s
 have bj : (World.heap w).size ≤ b1 ∨ (Dw l i c) b1 := .inl (by rw [f.num]; exact o.size)
 have z := z.trans (f.below.mono s)
 replace s := Nat.le_trans s (f.below.size)
 have r := f.here
 refine zI (nR (wB 1 r rfl (zc (xB ka _ ) ?_)))
 replace o := o.trans2 (Ch.of_below f.below) (fun _ h => h.elim)
 rintro _ w4 ⟨rfl, d⟩
 have z := z.trans (d.mono s)
 replace s := Nat.le_trans s (d.size)
 have r := zA r d
 refine zI (nW (wR (wB 0 r rfl (nQ (yC (yA (wR (zEq .i64 do_ 0 ?_ ?_))))))))
 ·intro h7
  have m := zA (zA m f.below) d
  have j := zA (zA j f.below) d
  have n := (n.below f.below).below d
  have b := (b.below f.below).below d
  refine zI (nQ (zT (zZ (zB (zT (wR (zG (wG r (zc (c_change l paP paR paN do_ ka kb kc few lo hi val t ds i c xs B_ _ s j y hw_p_0 hw_r_1 hw_n_2 n m u b (by exact hrel) zo zo zo zo ne_w_m ne_m_w) ?_)))))))))
  replace o := o.trans2 (Ch.of_below d) (fun _ h => h.elim)
  rintro _ bu ⟨q8, v9, rfl, a3, au, bc, a5, ao, aa⟩
  have aj : ∀ g, Value.ownBlock q8 = some g → (World.heap w).size ≤ g ∨ (Dw l i c) g := fun g hg => (a5 g hg).elim (fun x => .inl (Nat.le_trans o.size x)) (fun x => x.elim (fun x => x ▸ q) (fun x => x.elim (fun x => x ▸ p) (fun x => a g x)))
  have z := aa.below z s (fun k e => e.elim (fun x => x ▸ y) (fun x => x.elim (fun x => x ▸ u) (fun x => (World.ownsRow.lt b k x).1)))
  replace s := Nat.le_trans s aa.size
  have j := a3; replace m := au
  refine zI (nQ (yB (yG (zP (yJ [(.bool true)] ?_)))))
  have er : (chgX do_ xs lo hi val) = (chgX do_ xs lo hi val) := by rfl
  have ed : (chgD do_ ds lo hi val) = (chgD do_ ds lo hi val) := by rfl
  replace o := o.trans2 aa (fun k e => e.elim (fun x => x ▸ q) (fun x => x.elim (fun x => x ▸ p) (fun x => a k x)))
  exact ⟨_, v9, rfl, j, m, bc.cast er, aj, ao.cast ed, o⟩
 intro b0
 refine zI (nQ (zF (wR (zEq .i64 do_ 1 ?_ ?_))))
 ·intro b5
  have m := zA (zA m f.below) d
  have j := zA (zA j f.below) d
  have n := (n.below f.below).below d
  have b := (b.below f.below).below d
  refine zI (nQ (zT (zZ (zB (zT (wR (zG (wG r (zc (c_change l paP paR paN do_ ka kb kc few lo hi val t ds i c xs B_ _ s j y hw_p_0 hw_r_1 hw_n_2 n m u b (by exact hrel) zo zo zo zo ne_w_m ne_m_w) ?_)))))))))
  replace o := o.trans2 (Ch.of_below d) (fun _ h => h.elim)
  rintro _ bw ⟨bk, bg, rfl, aw, ar, az, ax, an, af⟩
  have ae : ∀ g, Value.ownBlock bk = some g → (World.heap w).size ≤ g ∨ (Dw l i c) g := fun g hg => (ax g hg).elim (fun x => .inl (Nat.le_trans o.size x)) (fun x => x.elim (fun x => x ▸ q) (fun x => x.elim (fun x => x ▸ p) (fun x => a g x)))
  have z := af.below z s (fun k e => e.elim (fun x => x ▸ y) (fun x => x.elim (fun x => x ▸ u) (fun x => (World.ownsRow.lt b k x).1)))
  replace s := Nat.le_trans s af.size
  have j := aw; replace m := ar
  refine zI (nQ (yB (yG (zP (yJ [(.bool true)] ?_)))))
  have er : (chgX do_ xs lo hi val) = (chgX do_ xs lo hi val) := by rfl
  have ed : (chgD do_ ds lo hi val) = (chgD do_ ds lo hi val) := by rfl
  replace o := o.trans2 af (fun k e => e.elim (fun x => x ▸ q) (fun x => x.elim (fun x => x ▸ p) (fun x => a k x)))
  exact ⟨_, bg, rfl, j, m, az.cast er, ae, an.cast ed, o⟩
 intro bq
 refine zI (nQ (zF (wR (zEq .i64 do_ 2 ?_ ?_))))
 ·intro b3
  have m := zA (zA m f.below) d
  have j := zA (zA j f.below) d
  have n := (n.below f.below).below d
  have b := (b.below f.below).below d
  refine zI (nQ (zT (zZ (zB (zT (wR (zG (wG r (zc (c_change l paP paR paN do_ ka kb kc few lo hi val t ds i c xs B_ _ s j y hw_p_0 hw_r_1 hw_n_2 n m u b (by exact hrel) zo zo zo zo ne_w_m ne_m_w) ?_)))))))))
  replace o := o.trans2 (Ch.of_below d) (fun _ h => h.elim)
  rintro _ br ⟨be, bd, rfl, a1, a0, a6, bb, ap, ah⟩
  have ai : ∀ g, Value.ownBlock be = some g → (World.heap w).size ≤ g ∨ (Dw l i c) g := fun g hg => (bb g hg).elim (fun x => .inl (Nat.le_trans o.size x)) (fun x => x.elim (fun x => x ▸ q) (fun x => x.elim (fun x => x ▸ p) (fun x => a g x)))
  have z := ah.below z s (fun k e => e.elim (fun x => x ▸ y) (fun x => x.elim (fun x => x ▸ u) (fun x => (World.ownsRow.lt b k x).1)))
  replace s := Nat.le_trans s ah.size
  have j := a1; replace m := a0
  refine zI (nQ (yB (yG (zP (yJ [(.bool true)] ?_)))))
  have er : (chgX do_ xs lo hi val) = (chgX do_ xs lo hi val) := by rfl
  have ed : (chgD do_ ds lo hi val) = (chgD do_ ds lo hi val) := by rfl
  replace o := o.trans2 ah (fun k e => e.elim (fun x => x ▸ q) (fun x => x.elim (fun x => x ▸ p) (fun x => a k x)))
  exact ⟨_, bd, rfl, j, m, a6.cast er, ai, ap.cast ed, o⟩
 intro bo
 refine zI (nQ (zF (wR (zEq .i64 do_ 3 ?_ ?_))))
 ·intro bs
  have m := zA (zA m f.below) d
  have j := zA (zA j f.below) d
  have n := (n.below f.below).below d
  have b := (b.below f.below).below d
  refine zI (nQ (zT (zZ (zB (zT (wR (zG (wG r (zc (c_change l paP paR paN do_ ka kb kc few lo hi val t ds i c xs B_ _ s j y hw_p_0 hw_r_1 hw_n_2 n m u b (by exact hrel) zo zo zo zo ne_w_m ne_m_w) ?_)))))))))
  replace o := o.trans2 (Ch.of_below d) (fun _ h => h.elim)
  rintro _ bp ⟨bm, bl, rfl, ay, a8, a7, ba, aq, ab⟩
  have ag : ∀ g, Value.ownBlock bm = some g → (World.heap w).size ≤ g ∨ (Dw l i c) g := fun g hg => (ba g hg).elim (fun x => .inl (Nat.le_trans o.size x)) (fun x => x.elim (fun x => x ▸ q) (fun x => x.elim (fun x => x ▸ p) (fun x => a g x)))
  have z := ab.below z s (fun k e => e.elim (fun x => x ▸ y) (fun x => x.elim (fun x => x ▸ u) (fun x => (World.ownsRow.lt b k x).1)))
  replace s := Nat.le_trans s ab.size
  have j := ay; replace m := a8
  refine zI (nQ (yB (yG (zP (yJ [(.bool true)] ?_)))))
  have er : (chgX do_ xs lo hi val) = (chgX do_ xs lo hi val) := by rfl
  have ed : (chgD do_ ds lo hi val) = (chgD do_ ds lo hi val) := by rfl
  replace o := o.trans2 ab (fun k e => e.elim (fun x => x ▸ q) (fun x => x.elim (fun x => x ▸ p) (fun x => a k x)))
  exact ⟨_, bl, rfl, j, m, a7.cast er, ag, aq.cast ed, o⟩
 intro b2
 refine zI (nQ (zF (zW (zEq .i64 do_ 4 ?_ ?_))))
 ·intro bz
  have m := zA (zA m f.below) d
  have j := zA (zA j f.below) d
  have n := (n.below f.below).below d
  have b := (b.below f.below).below d
  refine zI (nQ (zT (wR (zG (wG r (zc (c_change l paP paR paN do_ ka kb kc few lo hi val t ds i c xs B_ _ s j y hw_p_0 hw_r_1 hw_n_2 n m u b (by exact hrel) zo zo zo zo ne_w_m ne_m_w) ?_))))))
  replace o := o.trans2 (Ch.of_below d) (fun _ h => h.elim)
  rintro _ bx ⟨bf, bh, rfl, av, a2, a9, a4, am, ac⟩
  have ad : ∀ g, Value.ownBlock bf = some g → (World.heap w).size ≤ g ∨ (Dw l i c) g := fun g hg => (a4 g hg).elim (fun x => .inl (Nat.le_trans o.size x)) (fun x => x.elim (fun x => x ▸ q) (fun x => x.elim (fun x => x ▸ p) (fun x => a g x)))
  have z := ac.below z s (fun k e => e.elim (fun x => x ▸ y) (fun x => x.elim (fun x => x ▸ u) (fun x => (World.ownsRow.lt b k x).1)))
  replace s := Nat.le_trans s ac.size
  have j := av; replace m := a2
  refine zI (nQ (yB (yG (zP (yJ [(.bool true)] ?_)))))
  have er : (chgX do_ xs lo hi val) = (chgX do_ xs lo hi val) := by rfl
  have ed : (chgD do_ ds lo hi val) = (chgD do_ ds lo hi val) := by rfl
  replace o := o.trans2 ac (fun k e => e.elim (fun x => x ▸ q) (fun x => x.elim (fun x => x ▸ p) (fun x => a k x)))
  exact ⟨_, bh, rfl, j, m, a9.cast er, ad, am.cast ed, o⟩
 intro bt
 exfalso; omega
theorem s_change_nil (f : Nat) (paP paR paN : Nat → Value) (do_ : Int) (ka : Int) (kb : Int) (kc : Int) (few : Int) (lo : Int) (hi : Int) (val : List UInt8) (w : World) (a : w.heap[f]? = some (.cells (wl paP paR paN).toArray 86 (0, 0))) (hw_p_0 : paP (atW ka) = (.pointer none)) (hw_r_1 : paR (atW ka) = (.slice none 0 0)) (hw_n_2 : paN (atW ka) = (.bool true)) (hlo : -2147483648 ≤ lo ∧ lo ≤ 2147483647) (hhi : -2147483648 ≤ hi ∧ hi ≤ 2147483647) (hdo : 0 ≤ do_ ∧ do_ ≤ 4) :
  Calls Try.prog 42 #[(pt f 0), (Value.agg #[(I6 do_), (I6 ka), (I6 kb), (I6 kc), (I6 few), (I3 lo), (I3 hi), (S val)])] w (Ret fun v w' => v = (.bool true) ∧ Below w.heap.size w w') := by
 refine wL 109 Try.func42 rfl ?_
 have e := Below.refl w.heap.size w
 refine wR (zN [(I6 do_), (I6 ka), (I6 kb), (I6 kc), (I6 few), (I3 lo), (I3 hi), (S val)] 44 ?_)
 intro b1 w2 c
 have l := c.ge e.size
 have b := c.here
 refine zI (nR (wB 1 b rfl (zc (xB ka _ ) ?_)))
 rintro _ w4 ⟨rfl, d⟩
 have b := zA b d
 refine zI (nW (wR (wB 0 b rfl (nQ (yC (yA (wR (zEq .i64 do_ 0 ?_ ?_))))))))
 ·intro h7
  have a := zA (zA a c.below) d
  refine zI (nQ (zT (zZ (zB (zT (wR (zG (wG b (zc (vJ f paP paR paN do_ ka kb kc few lo hi val _ a hw_p_0 hw_r_1 hw_n_2 zo zo zo) ?_)))))))))
  rintro _ w8 ⟨rfl, k⟩
  have e := ((e.tr c.below).tr d).tr k
  exact zI (nQ (yB (yG (zP (yJ [(.bool true)] ⟨rfl, e⟩)))))
 intro n
 refine zI (nQ (zF (wR (zEq .i64 do_ 1 ?_ ?_))))
 ·intro r
  have a := zA (zA a c.below) d
  refine zI (nQ (zT (zZ (zB (zT (wR (zG (wG b (zc (vJ f paP paR paN do_ ka kb kc few lo hi val _ a hw_p_0 hw_r_1 hw_n_2 zo zo zo) ?_)))))))))
  rintro _ p ⟨rfl, h⟩
  have e := ((e.tr c.below).tr d).tr h
  exact zI (nQ (yB (yG (zP (yJ [(.bool true)] ⟨rfl, e⟩)))))
 intro u
 refine zI (nQ (zF (wR (zEq .i64 do_ 2 ?_ ?_))))
 ·intro t
  have a := zA (zA a c.below) d
  refine zI (nQ (zT (zZ (zB (zT (wR (zG (wG b (zc (vJ f paP paR paN do_ ka kb kc few lo hi val _ a hw_p_0 hw_r_1 hw_n_2 zo zo zo) ?_)))))))))
  rintro _ y ⟨rfl, i⟩
  have e := ((e.tr c.below).tr d).tr i
  exact zI (nQ (yB (yG (zP (yJ [(.bool true)] ⟨rfl, e⟩)))))
 intro m
 refine zI (nQ (zF (wR (zEq .i64 do_ 3 ?_ ?_))))
 ·intro z
  have a := zA (zA a c.below) d
  refine zI (nQ (zT (zZ (zB (zT (wR (zG (wG b (zc (vJ f paP paR paN do_ ka kb kc few lo hi val _ a hw_p_0 hw_r_1 hw_n_2 zo zo zo) ?_)))))))))
  rintro _ s ⟨rfl, g⟩
  have e := ((e.tr c.below).tr d).tr g
  exact zI (nQ (yB (yG (zP (yJ [(.bool true)] ⟨rfl, e⟩)))))
 intro q
 refine zI (nQ (zF (zW (zEq .i64 do_ 4 ?_ ?_))))
 ·intro o
  have a := zA (zA a c.below) d
  refine zI (nQ (zT (wR (zG (wG b (zc (vJ f paP paR paN do_ ka kb kc few lo hi val _ a hw_p_0 hw_r_1 hw_n_2 zo zo zo) ?_))))))
  rintro _ ab ⟨rfl, j⟩
  have e := ((e.tr c.below).tr d).tr j
  exact zI (nQ (yB (yG (zP (yJ [(.bool true)] ⟨rfl, e⟩)))))
 intro aa
 exfalso; omega
theorem s_all (h : Nat) (paP paR paN : Nat → Value) (ka : Int) (kb : Int) (kc : Int) (few : Int) (lo : Int) (hi : Int) (val : List UInt8) (e : Value) (ds : List (Int × Int × List UInt8 × Bool)) (i : Nat) (f : Value) (xs : List (Int × Int × List UInt8)) (w : World) (j : w.heap[h]? = some (.cells (wl paP paR paN).toArray 86 (0, 0))) (hw_p_0 : paP (atW ka) = (pt i 0)) (hw_r_1 : paR (atW ka) = e) (hw_n_2 : paN (atW ka) = (.bool false)) (d : Rx w 0 187 4 encD e ds) (k : w.heap[i]? = some (.cells [f, (.bool true)].toArray 136 (0, 0))) (g : Rd w encSpanS f xs) (hrel : Rel xs ds) (hln : ds.length ≤ 1073741822) :
  Calls Try.prog 42 #[(pt h 0), (Value.agg #[(I6 5), (I6 ka), (I6 kb), (I6 kc), (I6 few), (I3 lo), (I3 hi), (S val)])] w (Ret fun v w' => v = (.bool true) ∧ Below w.heap.size w w') := by
 refine wL 109 Try.func42 rfl ?_
 have l := Below.refl w.heap.size w
 refine wR (zN [(I6 5), (I6 ka), (I6 kb), (I6 kc), (I6 few), (I3 lo), (I3 hi), (S val)] 44 ?_)
 intro p q b
 have n := b.ge l.size
 have a := b.here
 refine zI (nR (wB 1 a rfl (zc (xB ka _ ) ?_)))
 rintro _ o ⟨rfl, c⟩
 have k := zA (zA k b.below) c
 have j := zA (zA j b.below) c
 have a := zA a c
 have d := (d.below b.below).below c
 have g := (g.below b.below).below c
 refine zI (nW (wR (wB 0 a rfl (nQ (yC (yA (wR (zr (.bool false) (zI (nQ (zF (wR (zr (.bool false) (zI (nQ (zF (wR (zr (.bool false) (zI (nQ (zF (wR (zr (.bool false) (zI (nQ (zF (zW (zr (.bool false) (zI (nQ (zF (wR (zr (.bool true) (zI (nQ (zT (wR (zG (zG (wB 4 a rfl (zc (c_whole h paP paR paN (atW ka) few e ds i f xs _ j hw_p_0 hw_r_1 hw_n_2 d k g (by first | omega | exact zJ _) (by exact hrel) (by first | omega | exact zJ _)) ?_)))))))))))))))))))))))))))))))))))))))))
 rintro _ r ⟨rfl, m⟩
 have l := ((l.tr b.below).tr c).tr m
 exact zI (nQ (yB (yG (zP (yJ [(.bool true)] ⟨rfl, l⟩)))))
theorem s_all_nil (c : Nat) (paP paR paN : Nat → Value) (ka : Int) (kb : Int) (kc : Int) (few : Int) (lo : Int) (hi : Int) (val : List UInt8) (w : World) (e : w.heap[c]? = some (.cells (wl paP paR paN).toArray 86 (0, 0))) (hw_p_0 : paP (atW ka) = (.pointer none)) (hw_r_1 : paR (atW ka) = (.slice none 0 0)) (hw_n_2 : paN (atW ka) = (.bool true)) :
  Calls Try.prog 42 #[(pt c 0), (Value.agg #[(I6 5), (I6 ka), (I6 kb), (I6 kc), (I6 few), (I3 lo), (I3 hi), (S val)])] w (Ret fun v w' => v = (.bool true) ∧ Below w.heap.size w w') := by
 refine wL 109 Try.func42 rfl ?_
 have f := Below.refl w.heap.size w
 refine wR (zN [(I6 5), (I6 ka), (I6 kb), (I6 kc), (I6 few), (I3 lo), (I3 hi), (S val)] 44 ?_)
 intro j k b
 have h := b.ge f.size
 have a := b.here
 refine zI (nR (wB 1 a rfl (zc (xB ka _ ) ?_)))
 rintro _ i ⟨rfl, d⟩
 have e := zA (zA e b.below) d
 have a := zA a d
 refine zI (nW (wR (wB 0 a rfl (nQ (yC (yA (wR (zr (.bool false) (zI (nQ (zF (wR (zr (.bool false) (zI (nQ (zF (wR (zr (.bool false) (zI (nQ (zF (wR (zr (.bool false) (zI (nQ (zF (zW (zr (.bool false) (zI (nQ (zF (wR (zr (.bool true) (zI (nQ (zT (wR (zG (zG (wB 4 a rfl (zc (c_whole_nil c paP paR paN (atW ka) few _ e hw_p_0 hw_n_2 (by first | omega | exact zJ _)) ?_)))))))))))))))))))))))))))))))))))))))))
 rintro _ l ⟨rfl, g⟩
 have f := ((f.tr b.below).tr d).tr g
 exact zI (nQ (yB (yG (zP (yJ [(.bool true)] ⟨rfl, f⟩)))))
theorem s_none (a : Nat) (paP paR paN : Nat → Value) (ka : Int) (kb : Int) (kc : Int) (few : Int) (lo : Int) (hi : Int) (val : List UInt8) (B_ : Nat) (w : World) (hs0 : B_ ≤ w.heap.size) (b : w.heap[a]? = some (.cells (wl paP paR paN).toArray 86 (0, 0))) (s : B_ ≤ a) :
  Calls Try.prog 42 #[(pt a 0), (Value.agg #[(I6 10), (I6 ka), (I6 kb), (I6 kc), (I6 few), (I3 lo), (I3 hi), (S val)])] w (Ret fun v w' => v = .bool true ∧ w'.heap[a]? = some (.cells (wl (up paP (atW ka) (.pointer none)) (up paR (atW ka) (.slice none 0 0)) (up paN (atW ka) (.bool true))).toArray 86 (0, 0)) ∧ Ch (fun k => k = a) w w') := by
 refine wL 109 Try.func42 rfl ?_
 have o := Below.refl B_ w
 have f : B_ ≤ (World.heap w).size := hs0
 have n := Ch.refl (fun k => k = a) w
 have j : (World.heap w).size ≤ a ∨ (fun k => k = a) a := .inr rfl
 refine wR (zN [(I6 10), (I6 ka), (I6 kb), (I6 kc), (I6 few), (I3 lo), (I3 hi), (S val)] 44 ?_)
 intro q y c
 have r : B_ ≤ q := by rw [c.num]; exact f
 have p : (World.heap w).size ≤ q ∨ (fun k => k = a) q := .inl (by rw [c.num]; exact n.size)
 have o := o.trans (c.below.mono f)
 replace f := Nat.le_trans f (c.below.size)
 have d := c.here
 refine zI (nR (wB 1 d rfl (zc (xB ka _ ) ?_)))
 replace n := n.trans2 (Ch.of_below c.below) (fun _ h => h.elim)
 rintro _ z ⟨rfl, i⟩
 have o := o.trans (i.mono f)
 replace f := Nat.le_trans f (i.size)
 have b := zA (zA b c.below) i
 have d := zA d i
 refine zI (nW (wR (wB 0 d rfl (nQ (yC (yA (wR (zr (.bool false) (zI (nQ (zF (wR (zr (.bool false) (zI (nQ (zF (wR (zr (.bool false) (zI (nQ (zF (wR (zr (.bool false) (zI (nQ (zF (zW (zr (.bool false) (zI (nQ (zF (wR (zr (.bool false) (zI (nQ (zF (yA (wR (zr (.bool false) (zI (nQ (zF (wR (zr (.bool false) (zI (nQ (zF (zW (zr (.bool false) (zI (nQ (zF (wR (zr (.bool false) (zI (nQ (zF (wR (zr (.bool true) (zI (nQ (zT (wR (zG (zG (zr (pt a 0) (zr (pt a 0) (yY (k := .i64) a 0 (atW ka) Try.underlying80 zk (by first | exact zJ _ | omega) zk zk (yQ a (0 + (atW ka) * 1) (.pointer none) (wl paP paR paN) _ 86 zk zk rfl zk b (wl_lp (by first | exact zJ _ | omega)) (wl_tp _ (by first | exact zJ _ | omega)) ?_)))))))))))))))))))))))))))))))))))))))))))))))))))))))))))))))))))))
 intro w7 m
 replace f := Nat.le_trans f (Nat.le_of_eq m.size.symm)
 have b := m.here
 refine nR (zG (zG (zr (pt a 0) (zr (pt a 4) (yY (k := .i64) a 4 (atW ka) Try.underlying83 zk (by first | exact zJ _ | omega) zk zk (yQ a (4 + (atW ka) * 1) (.slice none 0 0) (wl (up paP (atW ka) (.pointer none)) paR paN) _ 86 zk zk rfl zk b (wl_lr (by first | exact zJ _ | omega)) (wl_tr _ (by first | exact zJ _ | omega)) ?_))))))
 intro u l
 replace f := Nat.le_trans f (Nat.le_of_eq l.size.symm)
 have b := l.here
 refine nQ (zW (zG (zG (zr (pt a 0) (zr (pt a 8) (yY (k := .i64) a 8 (atW ka) Try.underlying84 zk (by first | exact zJ _ | omega) zk zk (yQ a (8 + (atW ka) * 1) (.bool true) (wl (up paP (atW ka) (.pointer none)) (up paR (atW ka) (.slice none 0 0)) paN) _ 86 zk zk rfl zk b (wl_ln (by first | exact zJ _ | omega)) (wl_tn _ (by first | exact zJ _ | omega)) ?_)))))))
 intro t g
 replace f := Nat.le_trans f (Nat.le_of_eq g.size.symm)
 have b := g.here
 refine zR (zS (zB (wR (zI (nQ (yB (yJ [(.bool true)] ?_)))))))
 replace n := (((n.trans2 (Ch.of_below i) (fun _ h => h.elim)).trans2 (Ch.of_wrote m) (fun k e => e ▸ j)).trans2 (Ch.of_wrote l) (fun k e => e ▸ j)).trans2 (Ch.of_wrote g) (fun k e => e ▸ j)
 exact ⟨rfl, b, n⟩
theorem s_new (a : Nat) (paP paR paN : Nat → Value) (ka : Int) (kb : Int) (kc : Int) (few : Int) (lo : Int) (hi : Int) (val : List UInt8) (B_ : Nat) (w : World) (hs0 : B_ ≤ w.heap.size) (c : w.heap[a]? = some (.cells (wl paP paR paN).toArray 86 (0, 0))) (ae : B_ ≤ a) :
  Calls Try.prog 42 #[(pt a 0), (Value.agg #[(I6 11), (I6 ka), (I6 kb), (I6 kc), (I6 few), (I3 lo), (I3 hi), (S val)])] w (Ret fun v w' => ∃ (cb0 : Nat), v = .bool true ∧ w'.heap[a]? = some (.cells (wl (up paP (atW ka) (pt cb0 0)) (up paR (atW ka) (.slice none 0 0)) (up paN (atW ka) (.bool false))).toArray 86 (0, 0)) ∧ w'.heap[cb0]? = some (.cells [(.slice none 0 0), (.bool true)].toArray 136 (0, 0)) ∧ ((World.heap w).size ≤ cb0 ∨ (fun k => k = a) cb0) ∧ Ch (fun k => k = a) w w') := by
 refine wL 109 Try.func42 rfl ?_
 have u := Below.refl B_ w
 have f : B_ ≤ (World.heap w).size := hs0
 have t := Ch.refl (fun k => k = a) w
 have r : (World.heap w).size ≤ a ∨ (fun k => k = a) a := .inr rfl
 refine wR (zN [(I6 11), (I6 ka), (I6 kb), (I6 kc), (I6 few), (I3 lo), (I3 hi), (S val)] 44 ?_)
 intro z w2 i
 have aa : B_ ≤ z := by rw [i.num]; exact f
 have y : (World.heap w).size ≤ z ∨ (fun k => k = a) z := .inl (by rw [i.num]; exact t.size)
 have u := u.trans (i.below.mono f)
 replace f := Nat.le_trans f (i.below.size)
 have m := i.here
 refine zI (nR (wB 1 m rfl (zc (xB ka _ ) ?_)))
 replace t := t.trans2 (Ch.of_below i.below) (fun _ h => h.elim)
 rintro _ w4 ⟨rfl, q⟩
 have u := u.trans (q.mono f)
 replace f := Nat.le_trans f (q.size)
 have m := zA m q
 refine zI (nW (wR (wB 0 m rfl (nQ (yC (yA (wR (zr (.bool false) (zI (nQ (zF (wR (zr (.bool false) (zI (nQ (zF (wR (zr (.bool false) (zI (nQ (zF (wR (zr (.bool false) (zI (nQ (zF (zW (zr (.bool false) (zI (nQ (zF (wR (zr (.bool false) (zI (nQ (zF (yA (wR (zr (.bool false) (zI (nQ (zF (wR (zr (.bool false) (zI (nQ (zF (zW (zr (.bool false) (zI (nQ (zF (wR (zr (.bool false) (zI (nQ (zF (wR (zr (.bool false) (zI (nQ (zF (wR (zr (.bool true) (zI (nQ (zT (yA (vH 6 7 zk zk zk ?_)))))))))))))))))))))))))))))))))))))))))))))))))))))))))))))))))))))
 intro w7 s
 have u := u.trans (s.mono f)
 replace f := Nat.le_trans f (s.size)
 refine ⟨fun _ => True, ?_⟩
 refine jp 0 [0, 3, 4, 5, 6] rfl (pt a 0) trivial (hq := (zD (zQ (zD zU)))) (jp 1 [1, 5, 6] rfl (N6 (atW ka)) trivial (hq := (zD (zQ (zD zU)))) (jp 3 [3, 4, 5, 6] rfl (pt a 0) trivial (hq := (zD (zQ (zD zU)))) (jp 4 [4, 5, 6] rfl (pt a 0) trivial (hq := (zD (zQ (zD zU)))) (qH 2 zk (J_op 2 rfl ?_ rfl)))))
 refine zc (qZ  _ ) ?_
 replace t := (t.trans2 (Ch.of_below q) (fun _ h => h.elim)).trans2 (Ch.of_below s) (fun _ h => h.elim)
 rintro _ w9 ⟨d, rfl, b, g, l⟩
 have p : (World.heap w).size ≤ d ∨ (fun k => k = a) d := .inl (Nat.le_trans t.size g)
 replace g := Nat.le_trans f g
 have u := u.trans (l.mono f)
 replace f := Nat.le_trans f (l.size)
 refine zR ?_
 refine ⟨rfl, .inr trivial, jt 5 [5, 6] rfl (pt a (0 + (atW ka) * 1)) trivial (R_ax (k := .i64) a 0 (atW ka) Try.underlying80 zk (by first | exact zJ _ | omega) zk zk) (hq := (zD (zQ (zD zU)))) (qH 6 zk (J_op 6 rfl ?_ rfl))⟩
 have c := zA (zA (zA (zA c i.below) q) s) l
 refine yQ a (0 + (atW ka) * 1) (pt d 0) (wl paP paR paN) _ 86 zk zk rfl zk c (wl_lp (by first | exact zJ _ | omega)) (wl_tp _ (by first | exact zJ _ | omega)) ?_
 intro ab o
 replace f := Nat.le_trans f (Nat.le_of_eq o.size.symm)
 have b := zC b o (zH b c zi)
 have c := o.here
 refine zR ?_
 refine ⟨rfl, .inl rfl, J_done zk (zB (wR (zG (zG (zr (pt a 0) (zr (pt a 4) (yY (k := .i64) a 4 (atW ka) Try.underlying83 zk (by first | exact zJ _ | omega) zk zk (yQ a (4 + (atW ka) * 1) (.slice none 0 0) (wl (up paP (atW ka) (pt d 0)) paR paN) _ 86 zk zk rfl zk c (wl_lr (by first | exact zJ _ | omega)) (wl_tr _ (by first | exact zJ _ | omega)) ?_))))))))⟩
 intro ac j
 replace f := Nat.le_trans f (Nat.le_of_eq j.size.symm)
 have b := zC b j (zH b c zi)
 have c := j.here
 refine nR (zG (zG (zr (pt a 0) (zr (pt a 8) (yY (k := .i64) a 8 (atW ka) Try.underlying84 zk (by first | exact zJ _ | omega) zk zk (yQ a (8 + (atW ka) * 1) (.bool false) (wl (up paP (atW ka) (pt d 0)) (up paR (atW ka) (.slice none 0 0)) paN) _ 86 zk zk rfl zk c (wl_ln (by first | exact zJ _ | omega)) (wl_tn _ (by first | exact zJ _ | omega)) ?_))))))
 intro ad n
 replace f := Nat.le_trans f (Nat.le_of_eq n.size.symm)
 have b := zC b n (zH b c zi)
 have c := n.here
 refine nR (zG (zG (zr (pt a 0) (zr (pt a 0) (yY (k := .i64) a 0 (atW ka) Try.underlying80 zk (by first | exact zJ _ | omega) zk zk (yK a (0 + (atW ka) * 1) (pt d 0) zk zk (zK c ((xP (by first | exact zJ _ | omega)).trans (congrArg some (up_same _ _ _)))) (zr (.bool true) (zI (nQ (yB (yG (zP (yJ [(.bool true)] ?_)))))))))))))
 replace t := (((t.trans2 (Ch.of_below l) (fun _ h => h.elim)).trans2 (Ch.of_wrote o) (fun k e => e ▸ r)).trans2 (Ch.of_wrote j) (fun k e => e ▸ r)).trans2 (Ch.of_wrote n) (fun k e => e ▸ r)
 exact ⟨d, rfl, c, b, p, t⟩
theorem s_else (d : Nat) (paP paR paN : Nat → Value) (do_ : Int) (ka : Int) (kb : Int) (kc : Int) (few : Int) (lo : Int) (hi : Int) (val : List UInt8) (w : World) (ae : w.heap[d]? = some (.cells (wl paP paR paN).toArray 86 (0, 0))) (hdo : do_ < 0 ∨ 11 < do_) :
  Calls Try.prog 42 #[(pt d 0), (Value.agg #[(I6 do_), (I6 ka), (I6 kb), (I6 kc), (I6 few), (I3 lo), (I3 hi), (S val)])] w (Ret fun v w' => v = (.bool true) ∧ Below w.heap.size w w') := by
 refine wL 109 Try.func42 rfl ?_
 have e := Below.refl w.heap.size w
 refine wR (zN [(I6 do_), (I6 ka), (I6 kb), (I6 kc), (I6 few), (I3 lo), (I3 hi), (S val)] 44 ?_)
 intro b1 w2 b
 have f := b.ge e.size
 have a := b.here
 refine zI (nR (wB 1 a rfl (zc (xB ka _ ) ?_)))
 rintro _ w4 ⟨rfl, c⟩
 have a := zA a c
 refine zI (nW (wR (wB 0 a rfl (nQ (yC (yA (wR (zEq .i64 do_ 0 ?_ ?_))))))))
 ·intro h7
  exfalso; omega
 intro h8
 refine zI (nQ (zF (wR (zEq .i64 do_ 1 ?_ ?_))))
 ·intro h9
  exfalso; omega
 intro h
 refine zI (nQ (zF (wR (zEq .i64 do_ 2 ?_ ?_))))
 ·intro j
  exfalso; omega
 intro p
 refine zI (nQ (zF (wR (zEq .i64 do_ 3 ?_ ?_))))
 ·intro ac
  exfalso; omega
 intro n
 refine zI (nQ (zF (zW (zEq .i64 do_ 4 ?_ ?_))))
 ·intro m
  exfalso; omega
 intro u
 refine zI (nQ (zF (wR (zEq .i64 do_ 5 ?_ ?_))))
 ·intro r
  exfalso; omega
 intro q
 refine zI (nQ (zF (yA (wR (zEq .i64 do_ 6 ?_ ?_)))))
 ·intro o
  exfalso; omega
 intro t
 refine zI (nQ (zF (wR (zEq .i64 do_ 8 ?_ ?_))))
 ·intro g
  exfalso; omega
 intro z
 refine zI (nQ (zF (zW (zEq .i64 do_ 9 ?_ ?_))))
 ·intro ab
  exfalso; omega
 intro ad
 refine zI (nQ (zF (wR (zEq .i64 do_ 7 ?_ ?_))))
 ·intro i
  exfalso; omega
 intro l
 refine zI (nQ (zF (wR (zEq .i64 do_ 10 ?_ ?_))))
 ·intro k
  exfalso; omega
 intro s
 refine zI (nQ (zF (wR (zEq .i64 do_ 11 ?_ ?_))))
 ·intro aa
  exfalso; omega
 intro y
 have e := (e.tr b.below).tr c
 exact zI (nQ (zF (zZ (zS (zB (wR (zI (nQ (yB (yJ [(.bool true)] ⟨rfl, e⟩))))))))))
theorem s_copy (a : Nat) (paP paR paN : Nat → Value) (ka : Int) (kb : Int) (kc : Int) (few : Int) (lo : Int) (hi : Int) (val : List UInt8) (n : Value) (ds : List (Int × Int × List UInt8 × Bool)) (ah : Nat) (aj : Value) (xs : List (Int × Int × List UInt8)) (B_ : Nat) (w : World) (hs0 : B_ ≤ w.heap.size) (b : w.heap[a]? = some (.cells (wl paP paR paN).toArray 86 (0, 0))) (an : B_ ≤ a) (hw_p_0 : paP (atW ka) = (pt ah 0)) (hw_r_1 : paR (atW ka) = n) (hw_n_2 : paN (atW ka) = (.bool false)) (l : Rx w 0 187 4 encD n ds) (ao : w.heap[ah]? = some (.cells [aj, (.bool true)].toArray 136 (0, 0))) (ai : Rd w encSpanS aj xs) (hrel : Rel xs ds) :
  Calls Try.prog 42 #[(pt a 0), (Value.agg #[(I6 6), (I6 ka), (I6 kb), (I6 kc), (I6 few), (I3 lo), (I3 hi), (S val)])] w (Ret fun v w' => ∃ (cb0 : Nat) (q0 : Value), v = .bool true ∧ w'.heap[a]? = some (.cells (wl (up paP (atW kb) (pt cb0 0)) (up paR (atW kb) n) (up paN (atW kb) (.bool false))).toArray 86 (0, 0)) ∧ w'.heap[cb0]? = some (.cells [q0, (.bool true)].toArray 136 (0, 0)) ∧ ((World.heap w).size ≤ cb0 ∨ (fun k => k = a) cb0) ∧ Row w' B_ 138 3 encSpanS q0 xs ∧ (∀ g, Value.ownBlock q0 = some g → (World.heap w).size ≤ g ∨ (fun k => k = a) g) ∧ Ch (fun k => k = a) w w') := by
 refine wL 109 Try.func42 rfl ?_
 have o := Below.refl B_ w
 have i : B_ ≤ (World.heap w).size := hs0
 have hc := Ch.refl (fun k => k = a) w
 have ak : (World.heap w).size ≤ a ∨ (fun k => k = a) a := .inr rfl
 have a5 := hrel.rise.len
 have a6 := hrel.ok
 have a2 := hrel.rise
 refine wR (zN [(I6 6), (I6 ka), (I6 kb), (I6 kc), (I6 few), (I3 lo), (I3 hi), (S val)] 44 ?_)
 intro b1 w2 t
 have ax : B_ ≤ b1 := by rw [t.num]; exact i
 have au : (World.heap w).size ≤ b1 ∨ (fun k => k = a) b1 := .inl (by rw [t.num]; exact hc.size)
 have o := o.trans (t.below.mono i)
 replace i := Nat.le_trans i (t.below.size)
 have ac := t.here
 refine zI (nR (wB 1 ac rfl (zc (xB ka _ ) ?_)))
 replace hc := hc.trans2 (Ch.of_below t.below) (fun _ h => h.elim)
 rintro _ w4 ⟨rfl, ae⟩
 have o := o.trans (ae.mono i)
 replace i := Nat.le_trans i (ae.size)
 have ac := zA ac ae
 refine zI (nW (wR (wB 0 ac rfl (nQ (yC (yA (wR (zr (.bool false) (zI (nQ (zF (wR (zr (.bool false) (zI (nQ (zF (wR (zr (.bool false) (zI (nQ (zF (wR (zr (.bool false) (zI (nQ (zF (zW (zr (.bool false) (zI (nQ (zF (wR (zr (.bool false) (zI (nQ (zF (yA (wR (zr (.bool true) (zI (nQ (zT (zZ (zB (zT (wR (zG (wG ac (qW 80 [(pt a 0), (Value.agg #[(I6 6), (I6 ka), (I6 kb), (I6 kc), (I6 few), (I3 lo), (I3 hi), (S val)])] zk zk (wL 196 Try.func80 rfl (wR (zN [(I6 6), (I6 ka), (I6 kb), (I6 kc), (I6 few), (I3 lo), (I3 hi), (S val)] 44 ?_))))))))))))))))))))))))))))))))))))))))))))))))))))
 intro b7 w8 s
 have ar : B_ ≤ b7 := by rw [s.num]; exact i
 replace hc := hc.trans2 (Ch.of_below ae) (fun _ h => h.elim)
 have ap : (World.heap w).size ≤ b7 ∨ (fun k => k = a) b7 := .inl (by rw [s.num]; exact hc.size)
 have o := o.trans (s.below.mono i)
 replace i := Nat.le_trans i (s.below.size)
 have f := s.here
 refine zI (nW (yV zk zk (zV (pt b7 1) zf (zX b7 1 (I6 ka) zk zf (zK f rfl) (yR 78 [(I6 ka)] (N6 (atW ka)) zg (fun wq hbq => xB ka wq ) (zV (pt b7 2) zf (zX b7 2 (I6 kb) zk zf (zK f rfl) (yR 78 [(I6 kb)] (N6 (atW kb)) zg (fun wq hbq => xB kb wq ) (zV (pt b7 3) zf (zX b7 3 (I6 kc) zk zf (zK f rfl) (yR 78 [(I6 kc)] (N6 (atW kc)) zg (fun wq hbq => xB kc wq ) (xA (xA (xA (yM ?_)))))))))))))))
 intro ay m
 have o := o.trans (m.mono i)
 replace i := Nat.le_trans i (m.size)
 have f := zA f m
 refine zB (yA (wR (wB 0 f rfl (nQ (yC (wR (zr (.bool true) (zI (nQ (zT (yA (vH 12 13 zk zk zk ?_))))))))))))
 intro a9 q
 have o := o.trans (q.mono i)
 replace i := Nat.le_trans i (q.size)
 refine ⟨fun w => (w.heap[a]? = some (.cells (wl paP paR paN).toArray 86 (0, 0))), ?_⟩
 have b := zA (zA (zA (zA (zA b t.below) ae) s.below) m) q
 refine jp 0 [0, 9, 10, 11, 12] rfl (pt a 0) b (hq := (zD (zQ (zD zU)))) (jp 1 [1, 11, 12] rfl (N6 (atW kb)) b (hq := (zD (zQ (zD zU)))) (jp 2 [2, 4, 5, 6, 7, 8, 11, 12] rfl (pt a 0) b (hq := (zD (zQ (zD zU)))) (jp 3 [3, 6, 7, 8, 11, 12] rfl (N6 (atW ka)) b (hq := (zD (zQ (zD zU)))) (jp 4 [4, 5, 6, 7, 8, 11, 12] rfl (pt a 0) b (hq := (zD (zQ (zD zU)))) (jp 5 [5, 6, 7, 8, 11, 12] rfl (pt a 0) b (hq := (zD (zQ (zD zU)))) (jt 6 [6, 7, 8, 11, 12] rfl (pt a (0 + (atW ka) * 1)) b (R_ax (k := .i64) a 0 (atW ka) Try.underlying80 zk (by first | exact zJ _ | omega) zk zk) (hq := (zD (zQ (zD zU)))) (jt 7 [7, 8, 11, 12] rfl (pt ah 0) b (R_load a (0 + (atW ka) * 1) (pt ah 0) zk zf (fun w2 h2 => zK h2 ((xP (by first | exact zJ _ | omega)).trans (congrArg some hw_p_0)))) (hq := (zD (zQ (zD zU)))) (jp 9 [9, 10, 11, 12] rfl (pt a 0) b (hq := (zD (zQ (zD zU)))) (jp 10 [10, 11, 12] rfl (pt a 0) b (hq := (zD (zQ (zD zU)))) (qH 8 zk ?_))))))))))
 refine J_op 8 rfl ?_ rfl
 have ao := zA (zA (zA (zA (zA ao t.below) ae) s.below) m) q
 have ai := ((((ai.below t.below).below ae).below s.below).below m).below q
 refine zc (c_copy_S ah aj xs _ ao ai zo) ?_
 replace hc := ((hc.trans2 (Ch.of_below s.below) (fun _ h => h.elim)).trans2 (Ch.of_below m) (fun _ h => h.elim)).trans2 (Ch.of_below q) (fun _ h => h.elim)
 rintro _ a7 ⟨aq, j, rfl, d, c, ab, ad⟩
 have al : (World.heap w).size ≤ j ∨ (fun k => k = a) j := .inl (Nat.le_trans hc.size ab)
 replace ab := Nat.le_trans i ab
 have af : ∀ g, Value.ownBlock aq = some g → (World.heap w).size ≤ g ∨ (fun k => k = a) g := fun g hg => .inl (Nat.le_trans hc.size (World.ownsRow.lt d g hg).1)
 have d := d.base i
 have o := o.trans (ad.mono i)
 replace i := Nat.le_trans i (ad.size)
 refine zR ?_
 have b := zA b ad
 refine ⟨rfl, .inr b, jt 11 [11, 12] rfl (pt a (0 + (atW kb) * 1)) b (R_ax (k := .i64) a 0 (atW kb) Try.underlying80 zk (by first | exact zJ _ | omega) zk zk) (hq := (zD (zQ (zD zU)))) (qH 12 zk (J_op 12 rfl ?_ rfl))⟩
 refine yQ a (0 + (atW kb) * 1) (pt j 0) (wl paP paR paN) _ 86 zk zk rfl zk b (wl_lp (by first | exact zJ _ | omega)) (wl_tp _ (by first | exact zJ _ | omega)) ?_
 intro a0 p
 replace i := Nat.le_trans i (Nat.le_of_eq p.size.symm)
 have c := zC c p (zH c b zi)
 have l := (((((l.below t.below).below ae).below s.below).below m).below q).below ad
 have l := l.wrote p (l.ne b zi)
 have d := d.wrote p (d.ne b zi)
 have b := p.here
 refine zR ?_
 refine ⟨rfl, .inl rfl, J_done zk (zB (yA (vH 11 12 zk zk zk ?_)))⟩
 intro a4 r
 have o := o.trans (p.below an)
 have o := o.trans (r.mono i)
 replace i := Nat.le_trans i (r.size)
 refine ⟨fun w => (w.heap[a]? = some (.cells (wl (up paP (atW kb) (pt j 0)) paR paN).toArray 86 (0, 0))), ?_⟩
 have b := zA b r
 refine jp 0 [0, 8, 9, 10, 11] rfl (pt a 0) b (hq := (zD (zQ (zD zU)))) (jp 1 [1, 10, 11] rfl (N6 (atW kb)) b (hq := (zD (zQ (zD zU)))) (jp 2 [2, 4, 5, 6, 7, 10, 11] rfl (pt a 0) b (hq := (zD (zQ (zD zU)))) (jp 3 [3, 6, 7, 10, 11] rfl (N6 (atW ka)) b (hq := (zD (zQ (zD zU)))) (jp 4 [4, 5, 6, 7, 10, 11] rfl (pt a 0) b (hq := (zD (zQ (zD zU)))) (jp 5 [5, 6, 7, 10, 11] rfl (pt a 4) b (hq := (zD (zQ (zD zU)))) (jt 6 [6, 7, 10, 11] rfl (pt a (4 + (atW ka) * 1)) b (R_ax (k := .i64) a 4 (atW ka) Try.underlying83 zk (by first | exact zJ _ | omega) zk zk) (hq := (zD (zQ (zD zU)))) (jt 7 [7, 10, 11] rfl n b (R_load a (4 + (atW ka) * 1) n zk zf (fun w2 h2 => zK h2 ((wl_r (by first | exact zJ _ | omega)).trans (congrArg some hw_r_1)))) (hq := (zD (zQ (zD zU)))) (jp 8 [8, 9, 10, 11] rfl (pt a 0) b (hq := (zD (zQ (zD zU)))) (jp 9 [9, 10, 11] rfl (pt a 4) b (hq := (zD (zQ (zD zU)))) (jt 10 [10, 11] rfl (pt a (4 + (atW kb) * 1)) b (R_ax (k := .i64) a 4 (atW kb) Try.underlying83 zk (by first | exact zJ _ | omega) zk zk) (hq := (zD (zQ (zD zU)))) (qH 11 zk ?_)))))))))))
 refine J_op 11 rfl ?_ rfl
 have l := l.below r
 refine yQ a (4 + (atW kb) * 1) n (wl (up paP (atW kb) (pt j 0)) paR paN) _ 86 zk zk l.one zk b (wl_lr (by first | exact zJ _ | omega)) (wl_tr _ (by first | exact zJ _ | omega)) ?_
 intro a1 aa
 replace i := Nat.le_trans i (Nat.le_of_eq aa.size.symm)
 have c := zA c r
 have c := zC c aa (zH c b zi)
 have d := d.below r
 have d := d.wrote aa (d.ne b zi)
 have b := aa.here
 refine zR ?_
 refine ⟨rfl, .inl rfl, J_done zk (zB (yA (vH 11 12 zk zk zk ?_)))⟩
 intro a3 u
 have o := o.trans (aa.below an)
 have o := o.trans (u.mono i)
 replace i := Nat.le_trans i (u.size)
 refine ⟨fun w => (w.heap[a]? = some (.cells (wl (up paP (atW kb) (pt j 0)) (up paR (atW kb) n) paN).toArray 86 (0, 0))), ?_⟩
 have b := zA b u
 refine jp 0 [0, 8, 9, 10, 11] rfl (pt a 0) b (hq := (zD (zQ (zD zU)))) (jp 1 [1, 10, 11] rfl (N6 (atW kb)) b (hq := (zD (zQ (zD zU)))) (jp 2 [2, 4, 5, 6, 7, 10, 11] rfl (pt a 0) b (hq := (zD (zQ (zD zU)))) (jp 3 [3, 6, 7, 10, 11] rfl (N6 (atW ka)) b (hq := (zD (zQ (zD zU)))) (jp 4 [4, 5, 6, 7, 10, 11] rfl (pt a 0) b (hq := (zD (zQ (zD zU)))) (jp 5 [5, 6, 7, 10, 11] rfl (pt a 8) b (hq := (zD (zQ (zD zU)))) (jt 6 [6, 7, 10, 11] rfl (pt a (8 + (atW ka) * 1)) b (R_ax (k := .i64) a 8 (atW ka) Try.underlying84 zk (by first | exact zJ _ | omega) zk zk) (hq := (zD (zQ (zD zU)))) (jt 7 [7, 10, 11] rfl (.bool false) b (R_load a (8 + (atW ka) * 1) (.bool false) zk zf (fun w2 h2 => zK h2 ((wO (by first | exact zJ _ | omega)).trans (congrArg some hw_n_2)))) (hq := (zD (zQ (zD zU)))) (jp 8 [8, 9, 10, 11] rfl (pt a 0) b (hq := (zD (zQ (zD zU)))) (jp 9 [9, 10, 11] rfl (pt a 8) b (hq := (zD (zQ (zD zU)))) (jt 10 [10, 11] rfl (pt a (8 + (atW kb) * 1)) b (R_ax (k := .i64) a 8 (atW kb) Try.underlying84 zk (by first | exact zJ _ | omega) zk zk) (hq := (zD (zQ (zD zU)))) (qH 11 zk ?_)))))))))))
 refine J_op 11 rfl ?_ rfl
 refine yQ a (8 + (atW kb) * 1) (.bool false) (wl (up paP (atW kb) (pt j 0)) (up paR (atW kb) n) paN) _ 86 zk zk rfl zk b (wl_ln (by first | exact zJ _ | omega)) (wl_tn _ (by first | exact zJ _ | omega)) ?_
 intro az z
 replace i := Nat.le_trans i (Nat.le_of_eq z.size.symm)
 have c := zA c u
 have c := zC c z (zH c b zi)
 have d := d.below u
 have d := d.wrote z (d.ne b zi)
 have b := z.here
 refine zR ?_
 refine ⟨rfl, .inl rfl, J_done zk (zB (yA (yV zk zk (zY (zY (zV (pt a 0) zf (zV (pt a 0) zf (xI (k := .i64) a 0 (atW kb) Try.underlying80 zk (by first | exact zJ _ | omega) zk zk (zX a (0 + (atW kb) * 1) (pt j 0) zk zf (zK b ((xP (by first | exact zJ _ | omega)).trans (congrArg some (up_same _ _ _)))) (zV (.bool false) zf (zY (zY (zV (pt a 0) zf (zV (pt a 8) zf (xI (k := .i64) a 8 (atW kb) Try.underlying84 zk (by first | exact zJ _ | omega) zk zk (zX a (8 + (atW kb) * 1) (.bool false) zk zf (zK b ((wO (by first | exact zJ _ | omega)).trans (congrArg some (up_same _ _ _)))) (zV (.bool true) zf (xA (yM ?_)))))))))))))))))))⟩
 intro ba y
 have o := o.trans (z.below an)
 have o := o.trans (y.mono i)
 replace i := Nat.le_trans i (y.size)
 refine zB (yB (yG (zP (yJ [(.bool true)] ?_))))
 show L _ _ _ _ _ _ (Fm.put _ _ (.bool true)) _
 refine zI (nQ (yB (yG (zP (yJ [(.bool true)] ?_)))))
 have er : xs = xs := by rfl
 replace hc := ((((((hc.trans2 (Ch.of_below ad) (fun _ h => h.elim)).trans2 (Ch.of_wrote p) (fun k e => e ▸ ak)).trans2 (Ch.of_below r) (fun _ h => h.elim)).trans2 (Ch.of_wrote aa) (fun k e => e ▸ ak)).trans2 (Ch.of_below u) (fun _ h => h.elim)).trans2 (Ch.of_wrote z) (fun k e => e ▸ ak)).trans2 (Ch.of_below y) (fun _ h => h.elim)
 have c := zA c y
 have b := zA b y
 have d := d.below y
 exact ⟨j, aq, rfl, b, c, al, d.cast er, af, hc⟩
theorem s_copy_nil (a : Nat) (paP paR paN : Nat → Value) (ka : Int) (kb : Int) (kc : Int) (few : Int) (lo : Int) (hi : Int) (val : List UInt8) (B_ : Nat) (w : World) (hs0 : B_ ≤ w.heap.size) (b : w.heap[a]? = some (.cells (wl paP paR paN).toArray 86 (0, 0))) (ab : B_ ≤ a) (hw_p_0 : paP (atW ka) = (.pointer none)) (hw_r_1 : paR (atW ka) = (.slice none 0 0)) (hw_n_2 : paN (atW ka) = (.bool true)) :
  Calls Try.prog 42 #[(pt a 0), (Value.agg #[(I6 6), (I6 ka), (I6 kb), (I6 kc), (I6 few), (I3 lo), (I3 hi), (S val)])] w (Ret fun v w' => v = .bool true ∧ w'.heap[a]? = some (.cells (wl (up paP (atW kb) (.pointer none)) (up paR (atW kb) (.slice none 0 0)) (up paN (atW kb) (.bool true))).toArray 86 (0, 0)) ∧ Ch (fun k => k = a) w w') := by
 refine wL 109 Try.func42 rfl ?_
 have f := Below.refl B_ w
 have d : B_ ≤ (World.heap w).size := hs0
 have z := Ch.refl (fun k => k = a) w
 have y : (World.heap w).size ≤ a ∨ (fun k => k = a) a := .inr rfl
 refine wR (zN [(I6 6), (I6 ka), (I6 kb), (I6 kc), (I6 few), (I3 lo), (I3 hi), (S val)] 44 ?_)
 intro b1 w2 l
 have ah : B_ ≤ b1 := by rw [l.num]; exact d
 have ae : (World.heap w).size ≤ b1 ∨ (fun k => k = a) b1 := .inl (by rw [l.num]; exact z.size)
 have f := f.trans (l.below.mono d)
 replace d := Nat.le_trans d (l.below.size)
 have g := l.here
 refine zI (nR (wB 1 g rfl (zc (xB ka _ ) ?_)))
 replace z := z.trans2 (Ch.of_below l.below) (fun _ h => h.elim)
 rintro _ w4 ⟨rfl, u⟩
 have f := f.trans (u.mono d)
 replace d := Nat.le_trans d (u.size)
 have g := zA g u
 refine zI (nW (wR (wB 0 g rfl (nQ (yC (yA (wR (zr (.bool false) (zI (nQ (zF (wR (zr (.bool false) (zI (nQ (zF (wR (zr (.bool false) (zI (nQ (zF (wR (zr (.bool false) (zI (nQ (zF (zW (zr (.bool false) (zI (nQ (zF (wR (zr (.bool false) (zI (nQ (zF (yA (wR (zr (.bool true) (zI (nQ (zT (zZ (zB (zT (wR (zG (wG g (qW 80 [(pt a 0), (Value.agg #[(I6 6), (I6 ka), (I6 kb), (I6 kc), (I6 few), (I3 lo), (I3 hi), (S val)])] zk zk (wL 196 Try.func80 rfl (wR (zN [(I6 6), (I6 ka), (I6 kb), (I6 kc), (I6 few), (I3 lo), (I3 hi), (S val)] 44 ?_))))))))))))))))))))))))))))))))))))))))))))))))))))
 intro b7 w8 j
 have ad : B_ ≤ b7 := by rw [j.num]; exact d
 replace z := z.trans2 (Ch.of_below u) (fun _ h => h.elim)
 have ac : (World.heap w).size ≤ b7 ∨ (fun k => k = a) b7 := .inl (by rw [j.num]; exact z.size)
 have f := f.trans (j.below.mono d)
 replace d := Nat.le_trans d (j.below.size)
 have c := j.here
 refine zI (nW (yV zk zk (zV (pt b7 1) zf (zX b7 1 (I6 ka) zk zf (zK c rfl) (yR 78 [(I6 ka)] (N6 (atW ka)) zg (fun wq hbq => xB ka wq ) (zV (pt b7 2) zf (zX b7 2 (I6 kb) zk zf (zK c rfl) (yR 78 [(I6 kb)] (N6 (atW kb)) zg (fun wq hbq => xB kb wq ) (zV (pt b7 3) zf (zX b7 3 (I6 kc) zk zf (zK c rfl) (yR 78 [(I6 kc)] (N6 (atW kc)) zg (fun wq hbq => xB kc wq ) (xA (xA (xA (yM ?_)))))))))))))))
 intro ai i
 have f := f.trans (i.mono d)
 replace d := Nat.le_trans d (i.size)
 have c := zA c i
 refine zB (yA (wR (wB 0 c rfl (nQ (yC (wR (zr (.bool true) (zI (nQ (zT (yA (vH 12 13 zk zk zk ?_))))))))))))
 intro aq s
 have f := f.trans (s.mono d)
 replace d := Nat.le_trans d (s.size)
 refine ⟨fun w => (w.heap[a]? = some (.cells (wl paP paR paN).toArray 86 (0, 0))), ?_⟩
 have b := zA (zA (zA (zA (zA b l.below) u) j.below) i) s
 refine jp 0 [0, 9, 10, 11, 12] rfl (pt a 0) b (hq := (zD (zQ (zD zU)))) (jp 1 [1, 11, 12] rfl (N6 (atW kb)) b (hq := (zD (zQ (zD zU)))) (jp 2 [2, 4, 5, 6, 7, 8, 11, 12] rfl (pt a 0) b (hq := (zD (zQ (zD zU)))) (jp 3 [3, 6, 7, 8, 11, 12] rfl (N6 (atW ka)) b (hq := (zD (zQ (zD zU)))) (jp 4 [4, 5, 6, 7, 8, 11, 12] rfl (pt a 0) b (hq := (zD (zQ (zD zU)))) (jp 5 [5, 6, 7, 8, 11, 12] rfl (pt a 0) b (hq := (zD (zQ (zD zU)))) (jt 6 [6, 7, 8, 11, 12] rfl (pt a (0 + (atW ka) * 1)) b (R_ax (k := .i64) a 0 (atW ka) Try.underlying80 zk (by first | exact zJ _ | omega) zk zk) (hq := (zD (zQ (zD zU)))) (jt 7 [7, 8, 11, 12] rfl (.pointer none) b (R_load a (0 + (atW ka) * 1) (.pointer none) zk zf (fun w2 h2 => zK h2 ((xP (by first | exact zJ _ | omega)).trans (congrArg some hw_p_0)))) (hq := (zD (zQ (zD zU)))) (jp 9 [9, 10, 11, 12] rfl (pt a 0) b (hq := (zD (zQ (zD zU)))) (jp 10 [10, 11, 12] rfl (pt a 0) b (hq := (zD (zQ (zD zU)))) (qH 8 zk ?_))))))))))
 refine J_op 8 rfl ?_ rfl
 refine zc (c_copy_nil  _ ) ?_
 replace z := ((z.trans2 (Ch.of_below j.below) (fun _ h => h.elim)).trans2 (Ch.of_below i) (fun _ h => h.elim)).trans2 (Ch.of_below s) (fun _ h => h.elim)
 rintro _ ao ⟨rfl, o⟩
 have f := f.trans (o.mono d)
 replace d := Nat.le_trans d (o.size)
 refine zR ?_
 have b := zA b o
 refine ⟨rfl, .inr b, jt 11 [11, 12] rfl (pt a (0 + (atW kb) * 1)) b (R_ax (k := .i64) a 0 (atW kb) Try.underlying80 zk (by first | exact zJ _ | omega) zk zk) (hq := (zD (zQ (zD zU)))) (qH 12 zk (J_op 12 rfl ?_ rfl))⟩
 refine yQ a (0 + (atW kb) * 1) (.pointer none) (wl paP paR paN) _ 86 zk zk rfl zk b (wl_lp (by first | exact zJ _ | omega)) (wl_tp _ (by first | exact zJ _ | omega)) ?_
 intro ap p
 replace d := Nat.le_trans d (Nat.le_of_eq p.size.symm)
 have b := p.here
 refine zR ?_
 refine ⟨rfl, .inl rfl, J_done zk (zB (yA (vH 11 12 zk zk zk ?_)))⟩
 intro ak t
 have f := f.trans (p.below ab)
 have f := f.trans (t.mono d)
 replace d := Nat.le_trans d (t.size)
 refine ⟨fun w => (w.heap[a]? = some (.cells (wl (up paP (atW kb) (.pointer none)) paR paN).toArray 86 (0, 0))), ?_⟩
 have b := zA b t
 refine jp 0 [0, 8, 9, 10, 11] rfl (pt a 0) b (hq := (zD (zQ (zD zU)))) (jp 1 [1, 10, 11] rfl (N6 (atW kb)) b (hq := (zD (zQ (zD zU)))) (jp 2 [2, 4, 5, 6, 7, 10, 11] rfl (pt a 0) b (hq := (zD (zQ (zD zU)))) (jp 3 [3, 6, 7, 10, 11] rfl (N6 (atW ka)) b (hq := (zD (zQ (zD zU)))) (jp 4 [4, 5, 6, 7, 10, 11] rfl (pt a 0) b (hq := (zD (zQ (zD zU)))) (jp 5 [5, 6, 7, 10, 11] rfl (pt a 4) b (hq := (zD (zQ (zD zU)))) (jt 6 [6, 7, 10, 11] rfl (pt a (4 + (atW ka) * 1)) b (R_ax (k := .i64) a 4 (atW ka) Try.underlying83 zk (by first | exact zJ _ | omega) zk zk) (hq := (zD (zQ (zD zU)))) (jt 7 [7, 10, 11] rfl (.slice none 0 0) b (R_load a (4 + (atW ka) * 1) (.slice none 0 0) zk zf (fun w2 h2 => zK h2 ((wl_r (by first | exact zJ _ | omega)).trans (congrArg some hw_r_1)))) (hq := (zD (zQ (zD zU)))) (jp 8 [8, 9, 10, 11] rfl (pt a 0) b (hq := (zD (zQ (zD zU)))) (jp 9 [9, 10, 11] rfl (pt a 4) b (hq := (zD (zQ (zD zU)))) (jt 10 [10, 11] rfl (pt a (4 + (atW kb) * 1)) b (R_ax (k := .i64) a 4 (atW kb) Try.underlying83 zk (by first | exact zJ _ | omega) zk zk) (hq := (zD (zQ (zD zU)))) (qH 11 zk ?_)))))))))))
 refine J_op 11 rfl ?_ rfl
 refine yQ a (4 + (atW kb) * 1) (.slice none 0 0) (wl (up paP (atW kb) (.pointer none)) paR paN) _ 86 zk zk rfl zk b (wl_lr (by first | exact zJ _ | omega)) (wl_tr _ (by first | exact zJ _ | omega)) ?_
 intro an n
 replace d := Nat.le_trans d (Nat.le_of_eq n.size.symm)
 have b := n.here
 refine zR ?_
 refine ⟨rfl, .inl rfl, J_done zk (zB (yA (vH 11 12 zk zk zk ?_)))⟩
 intro al m
 have f := f.trans (n.below ab)
 have f := f.trans (m.mono d)
 replace d := Nat.le_trans d (m.size)
 refine ⟨fun w => (w.heap[a]? = some (.cells (wl (up paP (atW kb) (.pointer none)) (up paR (atW kb) (.slice none 0 0)) paN).toArray 86 (0, 0))), ?_⟩
 have b := zA b m
 refine jp 0 [0, 8, 9, 10, 11] rfl (pt a 0) b (hq := (zD (zQ (zD zU)))) (jp 1 [1, 10, 11] rfl (N6 (atW kb)) b (hq := (zD (zQ (zD zU)))) (jp 2 [2, 4, 5, 6, 7, 10, 11] rfl (pt a 0) b (hq := (zD (zQ (zD zU)))) (jp 3 [3, 6, 7, 10, 11] rfl (N6 (atW ka)) b (hq := (zD (zQ (zD zU)))) (jp 4 [4, 5, 6, 7, 10, 11] rfl (pt a 0) b (hq := (zD (zQ (zD zU)))) (jp 5 [5, 6, 7, 10, 11] rfl (pt a 8) b (hq := (zD (zQ (zD zU)))) (jt 6 [6, 7, 10, 11] rfl (pt a (8 + (atW ka) * 1)) b (R_ax (k := .i64) a 8 (atW ka) Try.underlying84 zk (by first | exact zJ _ | omega) zk zk) (hq := (zD (zQ (zD zU)))) (jt 7 [7, 10, 11] rfl (.bool true) b (R_load a (8 + (atW ka) * 1) (.bool true) zk zf (fun w2 h2 => zK h2 ((wO (by first | exact zJ _ | omega)).trans (congrArg some hw_n_2)))) (hq := (zD (zQ (zD zU)))) (jp 8 [8, 9, 10, 11] rfl (pt a 0) b (hq := (zD (zQ (zD zU)))) (jp 9 [9, 10, 11] rfl (pt a 8) b (hq := (zD (zQ (zD zU)))) (jt 10 [10, 11] rfl (pt a (8 + (atW kb) * 1)) b (R_ax (k := .i64) a 8 (atW kb) Try.underlying84 zk (by first | exact zJ _ | omega) zk zk) (hq := (zD (zQ (zD zU)))) (qH 11 zk ?_)))))))))))
 refine J_op 11 rfl ?_ rfl
 refine yQ a (8 + (atW kb) * 1) (.bool true) (wl (up paP (atW kb) (.pointer none)) (up paR (atW kb) (.slice none 0 0)) paN) _ 86 zk zk rfl zk b (wl_ln (by first | exact zJ _ | omega)) (wl_tn _ (by first | exact zJ _ | omega)) ?_
 intro am q
 replace d := Nat.le_trans d (Nat.le_of_eq q.size.symm)
 have b := q.here
 refine zR ?_
 refine ⟨rfl, .inl rfl, J_done zk (zB (yA (yV zk zk (zY (zY (zV (pt a 0) zf (zV (pt a 0) zf (xI (k := .i64) a 0 (atW kb) Try.underlying80 zk (by first | exact zJ _ | omega) zk zk (zX a (0 + (atW kb) * 1) (.pointer none) zk zf (zK b ((xP (by first | exact zJ _ | omega)).trans (congrArg some (up_same _ _ _)))) (zV (.bool true) zf (zY (zY (zV (pt a 0) zf (zV (pt a 8) zf (xI (k := .i64) a 8 (atW kb) Try.underlying84 zk (by first | exact zJ _ | omega) zk zk (zX a (8 + (atW kb) * 1) (.bool true) zk zf (zK b ((wO (by first | exact zJ _ | omega)).trans (congrArg some (up_same _ _ _)))) (zV (.bool true) zf (xA (yM ?_)))))))))))))))))))⟩
 intro aj r
 have f := f.trans (q.below ab)
 have f := f.trans (r.mono d)
 replace d := Nat.le_trans d (r.size)
 refine zB (yB (yG (zP (yJ [(.bool true)] ?_))))
 show L _ _ _ _ _ _ (Fm.put _ _ (.bool true)) _
 refine zI (nQ (yB (yG (zP (yJ [(.bool true)] ?_)))))
 replace z := ((((((z.trans2 (Ch.of_below o) (fun _ h => h.elim)).trans2 (Ch.of_wrote p) (fun k e => e ▸ y)).trans2 (Ch.of_below t) (fun _ h => h.elim)).trans2 (Ch.of_wrote n) (fun k e => e ▸ y)).trans2 (Ch.of_below m) (fun _ h => h.elim)).trans2 (Ch.of_wrote q) (fun k e => e ▸ y)).trans2 (Ch.of_below r) (fun _ h => h.elim)
 have b := zA b r
 exact ⟨rfl, b, z⟩
end Go.Proofs.Ythjgnnfonofgkaa
end

/- === Wgwt === -/
section
/- Walks, written by my program walk.py out of the specification gwt.py: each theorem says what one function returns and that it leaves memory as it was. -/
namespace Go.Proofs.Ythjgnnfonofgkaa
open Go Go.RowKit Go.FK
set_option maxHeartbeats 4000000
set_option maxRecDepth 100000
theorem s_same_yy (a : Nat) (paP paR paN : Nat → Value) (ka : Int) (kb : Int) (kc : Int) (few : Int) (lo : Int) (hi : Int) (val : List UInt8) (i : Value) (ds : List (Int × Int × List UInt8 × Bool)) (l : Nat) (q : Value) (xs : List (Int × Int × List UInt8)) (h : Value) (es : List (Int × Int × List UInt8 × Bool)) (g : Nat) (s : Value) (ys : List (Int × Int × List UInt8)) (w : World) (j : w.heap[a]? = some (.cells (wl paP paR paN).toArray 86 (0, 0))) (hw_p_0 : paP (atW ka) = (pt l 0)) (hw_r_1 : paR (atW ka) = i) (hw_n_2 : paN (atW ka) = (.bool false)) (hw_p_3 : paP (atW kb) = (pt g 0)) (hw_r_4 : paR (atW kb) = h) (hw_n_5 : paN (atW kb) = (.bool false)) (o : Rx w 0 187 4 encD i ds) (t : w.heap[l]? = some (.cells [q, (.bool true)].toArray 136 (0, 0))) (p : Rd w encSpanS q xs) (n : Rx w 0 187 4 encD h es) (m : w.heap[g]? = some (.cells [s, (.bool true)].toArray 136 (0, 0))) (r : Rd w encSpanS s ys) (hrel : Rel xs ds) (hln : ds.length ≤ 536870912) (hrel2 : Rel ys es) (hln2 : es.length ≤ 536870912) :
  Calls Try.prog 42 #[(pt a 0), (Value.agg #[(I6 7), (I6 ka), (I6 kb), (I6 kc), (I6 few), (I3 lo), (I3 hi), (S val)])] w (Ret fun v w' => v = (.bool true) ∧ Below w.heap.size w w') := by
 refine wL 109 Try.func42 rfl ?_
 have z := Below.refl w.heap.size w
 have y := Rel.nil
 have ae := y.ok
 have ag := y.rise
 have aj := hrel.rise.len
 have ad := hrel.ok
 have ah := hrel.rise
 have ak := hrel2.rise.len
 have u := hrel2.ok
 have ai := hrel2.rise
 refine wR (zN [(I6 7), (I6 ka), (I6 kb), (I6 kc), (I6 few), (I3 lo), (I3 hi), (S val)] 44 ?_)
 intro b1 w2 b
 have af := b.ge z.size
 have d := b.here
 refine zI (nR (wB 1 d rfl (zc (xB ka _ ) ?_)))
 rintro _ w4 ⟨rfl, f⟩
 have t := zA (zA t b.below) f
 have m := zA (zA m b.below) f
 have j := zA (zA j b.below) f
 have d := zA d f
 have o := (o.below b.below).below f
 have n := (n.below b.below).below f
 have p := (p.below b.below).below f
 have r := (r.below b.below).below f
 refine zI (nW (wR (wB 0 d rfl (nQ (yC (yA (wR (zr (.bool false) (zI (nQ (zF (wR (zr (.bool false) (zI (nQ (zF (wR (zr (.bool false) (zI (nQ (zF (wR (zr (.bool false) (zI (nQ (zF (zW (zr (.bool false) (zI (nQ (zF (wR (zr (.bool false) (zI (nQ (zF (yA (wR (zr (.bool false) (zI (nQ (zF (wR (zr (.bool false) (zI (nQ (zF (zW (zr (.bool false) (zI (nQ (zF (wR (zr (.bool true) (zI (nQ (zT (yA (yV zk zk (zY (zY (zV (pt a 0) zf (zV (pt a 0) zf (xI (k := .i64) a 0 (atW ka) Try.underlying80 zk (by first | exact zJ _ | omega) zk zk (zX a (0 + (atW ka) * 1) (pt l 0) zk zf (zK j ((xP (by first | exact zJ _ | omega)).trans (congrArg some hw_p_0))) (zY (zV (pt b1 2) zf (zX b1 2 (I6 kb) zk zf (zK d rfl) (yR 78 [(I6 kb)] (N6 (atW kb)) zg (fun wq hbq => xB kb wq ) (zV (pt a 0) zf (zV (pt a 0) zf (xI (k := .i64) a 0 (atW kb) Try.underlying80 zk (by first | exact zJ _ | omega) zk zk (zX a (0 + (atW kb) * 1) (pt g 0) zk zf (zK j ((xP (by first | exact zJ _ | omega)).trans (congrArg some hw_p_3))) (yR 40 [(pt l 0), (pt g 0)] (.bool (decide (xs = ys))) zg (fun wq hbq => c_same_S l q xs g s ys wq (zA t hbq) (p.below hbq) (zA m hbq) (r.below hbq) (by first | omega | (simp; done)) (by first | omega | (simp; done))) (zY (zY (zV (pt a 0) zf (zV (pt a 4) zf (xI (k := .i64) a 4 (atW ka) Try.underlying83 zk (by first | exact zJ _ | omega) zk zk (zX a (4 + (atW ka) * 1) i zk zf (zK j ((wl_r (by first | exact zJ _ | omega)).trans (congrArg some hw_r_1))) (zY (zV (pt b1 2) zf (zX b1 2 (I6 kb) zk zf (zK d rfl) (yR 78 [(I6 kb)] (N6 (atW kb)) zg (fun wq hbq => xB kb wq ) (zV (pt a 0) zf (zV (pt a 4) zf (xI (k := .i64) a 4 (atW kb) Try.underlying83 zk (by first | exact zJ _ | omega) zk zk (zX a (4 + (atW kb) * 1) h zk zf (zK j ((wl_r (by first | exact zJ _ | omega)).trans (congrArg some hw_r_4))) (yR 81 [i, h] (.bool (decide (strF ds = strF es))) zg (fun wq hbq => c_sameD i ds h es wq (o.rd.below hbq) (n.rd.below hbq) (by first | omega | (simp; done)) (by exact ad) (by first | omega | (simp; done)) (by exact u)) (Lq_bEq (decide (xs = ys)) (decide (strF ds = strF es)) zk zk (fun c e _ => by cases c <;> cases e <;> kernel_rfl) ?_ ?_))))))))))))))))))))))))))))))))))))))))))))))))))))))))))))))))))))))))))))))))))))))))))
 ·intro h7
  refine xA (yM ?_)
  intro w8 ac
  have z := ((z.tr b.below).tr f).tr ac
  exact zB (yB (yG (zP (yJ [(.bool true)] ⟨rfl, z⟩))))
 intro ab
 exfalso; exact ab (hrel.same hrel2).symm
theorem s_over_yy (a : Nat) (paP paR paN : Nat → Value) (ka : Int) (kb : Int) (kc : Int) (few : Int) (lo : Int) (hi : Int) (val : List UInt8) (ai : Value) (ds : List (Int × Int × List UInt8 × Bool)) (aw : Nat) (ap : Value) (xs : List (Int × Int × List UInt8)) (ah : Value) (es : List (Int × Int × List UInt8 × Bool)) (ag : Nat) (ar : Value) (ys : List (Int × Int × List UInt8)) (B_ : Nat) (w : World) (hs0 : B_ ≤ w.heap.size) (f : w.heap[a]? = some (.cells (wl paP paR paN).toArray 86 (0, 0))) (bn : B_ ≤ a) (hw_p_0 : paP (atW ka) = (pt aw 0)) (hw_r_1 : paR (atW ka) = ai) (hw_n_2 : paN (atW ka) = (.bool false)) (hw_p_3 : paP (atW kb) = (pt ag 0)) (hw_r_4 : paR (atW kb) = ah) (hw_n_5 : paN (atW kb) = (.bool false)) (am : Rx w 0 187 4 encD ai ds) (ay : w.heap[aw]? = some (.cells [ap, (.bool true)].toArray 136 (0, 0))) (an : Rd w encSpanS ap xs) (al : Rx w 0 187 4 encD ah es) (ak : w.heap[ag]? = some (.cells [ar, (.bool true)].toArray 136 (0, 0))) (au : Rd w encSpanS ar ys) (hrel : Rel xs ds) (hln : ds.length ≤ 536870912) (hrel2 : Rel ys es) (hln2 : es.length ≤ 536870912) :
  Calls Try.prog 42 #[(pt a 0), (Value.agg #[(I6 8), (I6 ka), (I6 kb), (I6 kc), (I6 few), (I3 lo), (I3 hi), (S val)])] w (Ret fun v w' => ∃ (cb0 : Nat) (q0 : Value) (v1 : Value), v = .bool true ∧ w'.heap[a]? = some (.cells (wl (up paP (atW kc) (pt cb0 0)) (up paR (atW kc) v1) (up paN (atW kc) (.bool false))).toArray 86 (0, 0)) ∧ w'.heap[cb0]? = some (.cells [q0, (.bool true)].toArray 136 (0, 0)) ∧ ((World.heap w).size ≤ cb0 ∨ (fun k => k = a) cb0) ∧ Row w' B_ 138 3 encSpanS q0 (overF eqS xs ys) ∧ (∀ g, Value.ownBlock q0 = some g → (World.heap w).size ≤ g ∨ (fun k => k = a) g) ∧ Rx w' 0 187 4 encD v1 (ovrD ds es) ∧ Ch (fun k => k = a) w w') := by
 refine wL 109 Try.func42 rfl ?_
 have hb := Below.refl B_ w
 have i : B_ ≤ (World.heap w).size := hs0
 have hc := Ch.refl (fun k => k = a) w
 have aq : (World.heap w).size ≤ a ∨ (fun k => k = a) a := .inr rfl
 have a2 := Rel.nil
 have a8 := a2.ok
 have ba := a2.rise
 have bg := hrel.rise.len
 have bj := hrel.ok
 have a5 := hrel.rise
 have bl := hrel2.rise.len
 have a1 := hrel2.ok
 have a6 := hrel2.rise
 refine wR (zN [(I6 8), (I6 ka), (I6 kb), (I6 kc), (I6 few), (I3 lo), (I3 hi), (S val)] 44 ?_)
 intro b1 w2 p
 have a9 : B_ ≤ b1 := by rw [p.num]; exact i
 have a4 : (World.heap w).size ≤ b1 ∨ (fun k => k = a) b1 := .inl (by rw [p.num]; exact hc.size)
 have hb := hb.trans (p.below.mono i)
 replace i := Nat.le_trans i (p.below.size)
 have ae := p.here
 refine zI (nR (wB 1 ae rfl (zc (xB ka _ ) ?_)))
 replace hc := hc.trans2 (Ch.of_below p.below) (fun _ h => h.elim)
 rintro _ w4 ⟨rfl, t⟩
 have hb := hb.trans (t.mono i)
 replace i := Nat.le_trans i (t.size)
 have ae := zA ae t
 refine zI (nW (wR (wB 0 ae rfl (nQ (yC (yA (wR (zr (.bool false) (zI (nQ (zF (wR (zr (.bool false) (zI (nQ (zF (wR (zr (.bool false) (zI (nQ (zF (wR (zr (.bool false) (zI (nQ (zF (zW (zr (.bool false) (zI (nQ (zF (wR (zr (.bool false) (zI (nQ (zF (yA (wR (zr (.bool false) (zI (nQ (zF (wR (zr (.bool true) (zI (nQ (zT (zZ (zB (zT (wR (zG (wG ae (qW 80 [(pt a 0), (Value.agg #[(I6 8), (I6 ka), (I6 kb), (I6 kc), (I6 few), (I3 lo), (I3 hi), (S val)])] zk zk (wL 196 Try.func80 rfl (wR (zN [(I6 8), (I6 ka), (I6 kb), (I6 kc), (I6 few), (I3 lo), (I3 hi), (S val)] 44 ?_)))))))))))))))))))))))))))))))))))))))))))))))))))))))))
 intro b7 w8 o
 have a3 : B_ ≤ b7 := by rw [o.num]; exact i
 replace hc := hc.trans2 (Ch.of_below t) (fun _ h => h.elim)
 have az : (World.heap w).size ≤ b7 ∨ (fun k => k = a) b7 := .inl (by rw [o.num]; exact hc.size)
 have hb := hb.trans (o.below.mono i)
 replace i := Nat.le_trans i (o.below.size)
 have j := o.here
 refine zI (nW (yV zk zk (zV (pt b7 1) zf (zX b7 1 (I6 ka) zk zf (zK j rfl) (yR 78 [(I6 ka)] (N6 (atW ka)) zg (fun wq hbq => xB ka wq ) (zV (pt b7 2) zf (zX b7 2 (I6 kb) zk zf (zK j rfl) (yR 78 [(I6 kb)] (N6 (atW kb)) zg (fun wq hbq => xB kb wq ) (zV (pt b7 3) zf (zX b7 3 (I6 kc) zk zf (zK j rfl) (yR 78 [(I6 kc)] (N6 (atW kc)) zg (fun wq hbq => xB kc wq ) (xA (xA (xA (yM ?_)))))))))))))))
 intro bb l
 have hb := hb.trans (l.mono i)
 replace i := Nat.le_trans i (l.size)
 have j := zA j l
 refine zB (yA (wR (wB 0 j rfl (nQ (yC (wR (zr (.bool false) (zI (nQ (zF (wR (zr (.bool true) (zI (nQ (zT (yA (xY 14 zk zk zk ?_)))))))))))))))))
 intro bp n
 have hb := hb.trans (n.mono i)
 replace i := Nat.le_trans i (n.size)
 have f := zA (zA (zA (zA (zA f p.below) t) o.below) l) n
 refine I_pre 0 12 14 2 zk zk zk zk zk zk zk zk zk (zY (zY (zV (pt a 0) zf (zV (pt a 0) zf (xI (k := .i64) a 0 (atW ka) Try.underlying80 zk (by first | exact zJ _ | omega) zk zk (zX a (0 + (atW ka) * 1) (pt aw 0) zk zf (zK f ((xP (by first | exact zJ _ | omega)).trans (congrArg some hw_p_0))) (zY (zY (zV (pt a 0) zf (zV (pt a 0) zf (xI (k := .i64) a 0 (atW kb) Try.underlying80 zk (by first | exact zJ _ | omega) zk zk (zX a (0 + (atW kb) * 1) (pt ag 0) zk zf (zK f ((xP (by first | exact zJ _ | omega)).trans (congrArg some hw_p_3))) (yM ?_)))))))))))))
 intro bh m
 have hb := hb.trans (m.mono i)
 replace i := Nat.le_trans i (m.size)
 refine yF 12 zk (yL 12 rfl ?_ rfl)
 have ay := zA (zA (zA (zA (zA (zA ay p.below) t) o.below) l) n) m
 have ak := zA (zA (zA (zA (zA (zA ak p.below) t) o.below) l) n) m
 have an := (((((an.below p.below).below t).below o.below).below l).below n).below m
 have au := (((((au.below p.below).below t).below o.below).below l).below n).below m
 refine zc (c_over_S aw ap xs ag ar ys _ ay an ak au (by exact a5) (by exact a6)) ?_
 replace hc := (((hc.trans2 (Ch.of_below o.below) (fun _ h => h.elim)).trans2 (Ch.of_below l) (fun _ h => h.elim)).trans2 (Ch.of_below n) (fun _ h => h.elim)).trans2 (Ch.of_below m) (fun _ h => h.elim)
 rintro _ bm ⟨a0, s, rfl, c, b, ad, u⟩
 have ao : (World.heap w).size ≤ s ∨ (fun k => k = a) s := .inl (Nat.le_trans hc.size ad)
 replace ad := Nat.le_trans i ad
 have aj : ∀ g, Value.ownBlock a0 = some g → (World.heap w).size ≤ g ∨ (fun k => k = a) g := fun g hg => .inl (Nat.le_trans hc.size (World.ownsRow.lt c g hg).1)
 have c := c.base i
 have hb := hb.trans (u.mono i)
 replace i := Nat.le_trans i (u.size)
 refine zR ?_
 refine ⟨rfl, ip 13 rfl (pt s 0) (yS zk (zB (yA (xY 14 zk zk zk ?_))))⟩
 intro bf r
 have hb := hb.trans (r.mono i)
 replace i := Nat.le_trans i (r.size)
 have f := zA (zA (zA f m) u) r
 refine I_pre 0 12 14 2 zk zk zk zk zk zk zk zk zk (zY (zY (zV (pt a 0) zf (zV (pt a 4) zf (xI (k := .i64) a 4 (atW ka) Try.underlying83 zk (by first | exact zJ _ | omega) zk zk (zX a (4 + (atW ka) * 1) ai zk zf (zK f ((wl_r (by first | exact zJ _ | omega)).trans (congrArg some hw_r_1))) (zY (zY (zV (pt a 0) zf (zV (pt a 4) zf (xI (k := .i64) a 4 (atW kb) Try.underlying83 zk (by first | exact zJ _ | omega) zk zk (zX a (4 + (atW kb) * 1) ah zk zf (zK f ((wl_r (by first | exact zJ _ | omega)).trans (congrArg some hw_r_4))) (yM ?_)))))))))))))
 intro bd q
 have hb := hb.trans (q.mono i)
 replace i := Nat.le_trans i (q.size)
 refine yF 12 zk (yL 12 rfl ?_ rfl)
 have am := ((((((((am.below p.below).below t).below o.below).below l).below n).below m).below u).below r).below q
 have al := ((((((((al.below p.below).below t).below o.below).below l).below n).below m).below u).below r).below q
 refine zc (c_overD ai ds ah es _ am al.rd (by first | omega | (simp; done)) (by first | omega | (simp; done)) (by exact a1)) ?_
 replace hc := ((hc.trans2 (Ch.of_below u) (fun _ h => h.elim)).trans2 (Ch.of_below r) (fun _ h => h.elim)).trans2 (Ch.of_below q) (fun _ h => h.elim)
 rintro ax be ⟨_, rfl, d, ac⟩
 have d := d.base i
 have hb := hb.trans (ac.mono i)
 replace i := Nat.le_trans i (ac.size)
 refine zR ?_
 refine ⟨rfl, ip 13 rfl ax (yS zk ?_)⟩
 have f := zA (zA f q) ac
 refine zB (wR (zG (zG (zG (zr (pt a 0) (zr (pt a 0) (yY (k := .i64) a 0 (atW kc) Try.underlying80 zk (by first | exact zJ _ | omega) zk zk (yQ a (0 + (atW kc) * 1) (pt s 0) (wl paP paR paN) _ 86 zk zk rfl zk f (wl_lp (by first | exact zJ _ | omega)) (wl_tp _ (by first | exact zJ _ | omega)) ?_))))))))
 intro bq z
 replace i := Nat.le_trans i (Nat.le_of_eq z.size.symm)
 have b := zA (zA (zA b r) q) ac
 have b := zC b z (zH b f zi)
 have c := ((c.below r).below q).below ac
 have c := c.wrote z (c.ne f zi)
 have d := d.wrote z (d.ne f zi)
 have f := z.here
 refine nR (zG (zG (zG (zr (pt a 0) (zr (pt a 4) (yY (k := .i64) a 4 (atW kc) Try.underlying83 zk (by first | exact zJ _ | omega) zk zk (yQ a (4 + (atW kc) * 1) ax (wl (up paP (atW kc) (pt s 0)) paR paN) _ 86 zk zk d.one zk f (wl_lr (by first | exact zJ _ | omega)) (wl_tr _ (by first | exact zJ _ | omega)) ?_)))))))
 intro bc aa
 replace i := Nat.le_trans i (Nat.le_of_eq aa.size.symm)
 have b := zC b aa (zH b f zi)
 have c := c.wrote aa (c.ne f zi)
 have d := d.wrote aa (d.ne f zi)
 have f := aa.here
 refine nR (zG (zG (zr (pt a 0) (zr (pt a 8) (yY (k := .i64) a 8 (atW kc) Try.underlying84 zk (by first | exact zJ _ | omega) zk zk (yQ a (8 + (atW kc) * 1) (.bool false) (wl (up paP (atW kc) (pt s 0)) (up paR (atW kc) ax) paN) _ 86 zk zk rfl zk f (wl_ln (by first | exact zJ _ | omega)) (wl_tn _ (by first | exact zJ _ | omega)) ?_))))))
 intro bo y
 replace i := Nat.le_trans i (Nat.le_of_eq y.size.symm)
 have b := zC b y (zH b f zi)
 have c := c.wrote y (c.ne f zi)
 have d := d.wrote y (d.ne f zi)
 have f := y.here
 refine nR (zG (zr (.bool true) (zI (nQ (yB (yG (zP (yJ [(.bool true)] ?_))))))))
 show L _ _ _ _ _ _ (Fm.put _ _ (.bool true)) _
 refine zI (nQ (yB (yG (zP (yJ [(.bool true)] ?_)))))
 have er : (overF eqS xs ys) = (overF eqS xs ys) := by rfl
 have ed : (ovrD ds es) = (ovrD ds es) := by rfl
 replace hc := (((hc.trans2 (Ch.of_below ac) (fun _ h => h.elim)).trans2 (Ch.of_wrote z) (fun k e => e ▸ aq)).trans2 (Ch.of_wrote aa) (fun k e => e ▸ aq)).trans2 (Ch.of_wrote y) (fun k e => e ▸ aq)
 exact ⟨s, a0, ax, rfl, f, b, ao, c.cast er, aj, d.cast ed, hc⟩
theorem s_same_yn (a : Nat) (paP paR paN : Nat → Value) (ka : Int) (kb : Int) (kc : Int) (few : Int) (lo : Int) (hi : Int) (val : List UInt8) (d : Value) (ds : List (Int × Int × List UInt8 × Bool)) (i : Nat) (m : Value) (xs : List (Int × Int × List UInt8)) (w : World) (h : w.heap[a]? = some (.cells (wl paP paR paN).toArray 86 (0, 0))) (hw_p_0 : paP (atW ka) = (pt i 0)) (hw_r_1 : paR (atW ka) = d) (hw_n_2 : paN (atW ka) = (.bool false)) (hw_p_3 : paP (atW kb) = (.pointer none)) (hw_r_4 : paR (atW kb) = (.slice none 0 0)) (hw_n_5 : paN (atW kb) = (.bool true)) (j : Rx w 0 187 4 encD d ds) (o : w.heap[i]? = some (.cells [m, (.bool true)].toArray 136 (0, 0))) (l : Rd w encSpanS m xs) (hrel : Rel xs ds) (hln : ds.length ≤ 536870912) :
  Calls Try.prog 42 #[(pt a 0), (Value.agg #[(I6 7), (I6 ka), (I6 kb), (I6 kc), (I6 few), (I3 lo), (I3 hi), (S val)])] w (Ret fun v w' => v = (.bool true) ∧ Below w.heap.size w w') := by
 refine wL 109 Try.func42 rfl ?_
 have q := Below.refl w.heap.size w
 have n := Rel.nil
 have p := n.ok
 have z := n.rise
 have ab := hrel.rise.len
 have u := hrel.ok
 have aa := hrel.rise
 refine wR (zN [(I6 7), (I6 ka), (I6 kb), (I6 kc), (I6 few), (I3 lo), (I3 hi), (S val)] 44 ?_)
 intro r w2 f
 have y := f.ge q.size
 have b := f.here
 refine zI (nR (wB 1 b rfl (zc (xB ka _ ) ?_)))
 rintro _ w4 ⟨rfl, g⟩
 have o := zA (zA o f.below) g
 have h := zA (zA h f.below) g
 have b := zA b g
 have j := (j.below f.below).below g
 have l := (l.below f.below).below g
 refine zI (nW (wR (wB 0 b rfl (nQ (yC (yA (wR (zr (.bool false) (zI (nQ (zF (wR (zr (.bool false) (zI (nQ (zF (wR (zr (.bool false) (zI (nQ (zF (wR (zr (.bool false) (zI (nQ (zF (zW (zr (.bool false) (zI (nQ (zF (wR (zr (.bool false) (zI (nQ (zF (yA (wR (zr (.bool false) (zI (nQ (zF (wR (zr (.bool false) (zI (nQ (zF (zW (zr (.bool false) (zI (nQ (zF (wR (zr (.bool true) (zI (nQ (zT (yA (yV zk zk (zY (zY (zV (pt a 0) zf (zV (pt a 0) zf (xI (k := .i64) a 0 (atW ka) Try.underlying80 zk (by first | exact zJ _ | omega) zk zk (zX a (0 + (atW ka) * 1) (pt i 0) zk zf (zK h ((xP (by first | exact zJ _ | omega)).trans (congrArg some hw_p_0))) (zY (zV (pt r 2) zf (zX r 2 (I6 kb) zk zf (zK b rfl) (yR 78 [(I6 kb)] (N6 (atW kb)) zg (fun wq hbq => xB kb wq ) (zV (pt a 0) zf (zV (pt a 0) zf (xI (k := .i64) a 0 (atW kb) Try.underlying80 zk (by first | exact zJ _ | omega) zk zk (zX a (0 + (atW kb) * 1) (.pointer none) zk zf (zK h ((xP (by first | exact zJ _ | omega)).trans (congrArg some hw_p_3))) (yR 40 [(pt i 0), (.pointer none)] (.bool (decide (xs = ([] : List SpS)))) zg (fun wq hbq => c_same_ln i m xs wq (zA o hbq) (l.below hbq) (by first | omega | (simp; done))) (zY (zY (zV (pt a 0) zf (zV (pt a 4) zf (xI (k := .i64) a 4 (atW ka) Try.underlying83 zk (by first | exact zJ _ | omega) zk zk (zX a (4 + (atW ka) * 1) d zk zf (zK h ((wl_r (by first | exact zJ _ | omega)).trans (congrArg some hw_r_1))) (zY (zV (pt r 2) zf (zX r 2 (I6 kb) zk zf (zK b rfl) (yR 78 [(I6 kb)] (N6 (atW kb)) zg (fun wq hbq => xB kb wq ) (zV (pt a 0) zf (zV (pt a 4) zf (xI (k := .i64) a 4 (atW kb) Try.underlying83 zk (by first | exact zJ _ | omega) zk zk (zX a (4 + (atW kb) * 1) (.slice none 0 0) zk zf (zK h ((wl_r (by first | exact zJ _ | omega)).trans (congrArg some hw_r_4))) (yR 81 [d, (.slice none 0 0)] (.bool (decide (strF ds = strF []))) zg (fun wq hbq => c_sameD d ds (.slice none 0 0) [] wq (j.rd.below hbq) (Rd.nil _ _) (by first | omega | (simp; done)) (by exact u) (by first | omega | (simp; done)) (by exact p)) (Lq_bEq (decide (xs = ([] : List SpS))) (decide (strF ds = strF [])) zk zk (fun c e _ => by cases c <;> cases e <;> kernel_rfl) ?_ ?_))))))))))))))))))))))))))))))))))))))))))))))))))))))))))))))))))))))))))))))))))))))))))
 ·intro h7
  refine xA (yM ?_)
  intro w8 t
  have q := ((q.tr f.below).tr g).tr t
  exact zB (yB (yG (zP (yJ [(.bool true)] ⟨rfl, q⟩))))
 intro s
 exfalso; exact s (hrel.same n).symm
theorem s_over_yn (a : Nat) (paP paR paN : Nat → Value) (ka : Int) (kb : Int) (kc : Int) (few : Int) (lo : Int) (hi : Int) (val : List UInt8) (ag : Value) (ds : List (Int × Int × List UInt8 × Bool)) (ao : Nat) (al : Value) (xs : List (Int × Int × List UInt8)) (B_ : Nat) (w : World) (hs0 : B_ ≤ w.heap.size) (f : w.heap[a]? = some (.cells (wl paP paR paN).toArray 86 (0, 0))) (be : B_ ≤ a) (hw_p_0 : paP (atW ka) = (pt ao 0)) (hw_r_1 : paR (atW ka) = ag) (hw_n_2 : paN (atW ka) = (.bool false)) (hw_p_3 : paP (atW kb) = (.pointer none)) (hw_r_4 : paR (atW kb) = (.slice none 0 0)) (hw_n_5 : paN (atW kb) = (.bool true)) (ai : Rx w 0 187 4 encD ag ds) (aq : w.heap[ao]? = some (.cells [al, (.bool true)].toArray 136 (0, 0))) (aj : Rd w encSpanS al xs) (hrel : Rel xs ds) (hln : ds.length ≤ 536870912) :
  Calls Try.prog 42 #[(pt a 0), (Value.agg #[(I6 8), (I6 ka), (I6 kb), (I6 kc), (I6 few), (I3 lo), (I3 hi), (S val)])] w (Ret fun v w' => ∃ (cb0 : Nat) (q0 : Value) (v1 : Value), v = .bool true ∧ w'.heap[a]? = some (.cells (wl (up paP (atW kc) (pt cb0 0)) (up paR (atW kc) v1) (up paN (atW kc) (.bool false))).toArray 86 (0, 0)) ∧ w'.heap[cb0]? = some (.cells [q0, (.bool true)].toArray 136 (0, 0)) ∧ ((World.heap w).size ≤ cb0 ∨ (fun k => k = a) cb0) ∧ Row w' B_ 138 3 encSpanS q0 (overF eqS xs ([] : List SpS)) ∧ (∀ g, Value.ownBlock q0 = some g → (World.heap w).size ≤ g ∨ (fun k => k = a) g) ∧ Rx w' 0 187 4 encD v1 (ovrD ds ([] : List DoneV)) ∧ Ch (fun k => k = a) w w') := by
 refine wL 109 Try.func42 rfl ?_
 have z := Below.refl B_ w
 have i : B_ ≤ (World.heap w).size := hs0
 have hc := Ch.refl (fun k => k = a) w
 have am : (World.heap w).size ≤ a ∨ (fun k => k = a) a := .inr rfl
 have aw := Rel.nil
 have au := aw.ok
 have a2 := aw.rise
 have a7 := hrel.rise.len
 have ba := hrel.ok
 have az := hrel.rise
 refine wR (zN [(I6 8), (I6 ka), (I6 kb), (I6 kc), (I6 few), (I3 lo), (I3 hi), (S val)] 44 ?_)
 intro b1 w2 s
 have a1 : B_ ≤ b1 := by rw [s.num]; exact i
 have ay : (World.heap w).size ≤ b1 ∨ (fun k => k = a) b1 := .inl (by rw [s.num]; exact hc.size)
 have z := z.trans (s.below.mono i)
 replace i := Nat.le_trans i (s.below.size)
 have ad := s.here
 refine zI (nR (wB 1 ad rfl (zc (xB ka _ ) ?_)))
 replace hc := hc.trans2 (Ch.of_below s.below) (fun _ h => h.elim)
 rintro _ w4 ⟨rfl, ae⟩
 have z := z.trans (ae.mono i)
 replace i := Nat.le_trans i (ae.size)
 have ad := zA ad ae
 refine zI (nW (wR (wB 0 ad rfl (nQ (yC (yA (wR (zr (.bool false) (zI (nQ (zF (wR (zr (.bool false) (zI (nQ (zF (wR (zr (.bool false) (zI (nQ (zF (wR (zr (.bool false) (zI (nQ (zF (zW (zr (.bool false) (zI (nQ (zF (wR (zr (.bool false) (zI (nQ (zF (yA (wR (zr (.bool false) (zI (nQ (zF (wR (zr (.bool true) (zI (nQ (zT (zZ (zB (zT (wR (zG (wG ad (qW 80 [(pt a 0), (Value.agg #[(I6 8), (I6 ka), (I6 kb), (I6 kc), (I6 few), (I3 lo), (I3 hi), (S val)])] zk zk (wL 196 Try.func80 rfl (wR (zN [(I6 8), (I6 ka), (I6 kb), (I6 kc), (I6 few), (I3 lo), (I3 hi), (S val)] 44 ?_)))))))))))))))))))))))))))))))))))))))))))))))))))))))))
 intro b7 w8 r
 have ax : B_ ≤ b7 := by rw [r.num]; exact i
 replace hc := hc.trans2 (Ch.of_below ae) (fun _ h => h.elim)
 have ar : (World.heap w).size ≤ b7 ∨ (fun k => k = a) b7 := .inl (by rw [r.num]; exact hc.size)
 have z := z.trans (r.below.mono i)
 replace i := Nat.le_trans i (r.below.size)
 have j := r.here
 refine zI (nW (yV zk zk (zV (pt b7 1) zf (zX b7 1 (I6 ka) zk zf (zK j rfl) (yR 78 [(I6 ka)] (N6 (atW ka)) zg (fun wq hbq => xB ka wq ) (zV (pt b7 2) zf (zX b7 2 (I6 kb) zk zf (zK j rfl) (yR 78 [(I6 kb)] (N6 (atW kb)) zg (fun wq hbq => xB kb wq ) (zV (pt b7 3) zf (zX b7 3 (I6 kc) zk zf (zK j rfl) (yR 78 [(I6 kc)] (N6 (atW kc)) zg (fun wq hbq => xB kc wq ) (xA (xA (xA (yM ?_)))))))))))))))
 intro a3 l
 have z := z.trans (l.mono i)
 replace i := Nat.le_trans i (l.size)
 have j := zA j l
 refine zB (yA (wR (wB 0 j rfl (nQ (yC (wR (zr (.bool false) (zI (nQ (zF (wR (zr (.bool true) (zI (nQ (zT (yA (xY 14 zk zk zk ?_)))))))))))))))))
 intro bg p
 have z := z.trans (p.mono i)
 replace i := Nat.le_trans i (p.size)
 have f := zA (zA (zA (zA (zA f s.below) ae) r.below) l) p
 refine I_pre 0 12 14 2 zk zk zk zk zk zk zk zk zk (zY (zY (zV (pt a 0) zf (zV (pt a 0) zf (xI (k := .i64) a 0 (atW ka) Try.underlying80 zk (by first | exact zJ _ | omega) zk zk (zX a (0 + (atW ka) * 1) (pt ao 0) zk zf (zK f ((xP (by first | exact zJ _ | omega)).trans (congrArg some hw_p_0))) (zY (zY (zV (pt a 0) zf (zV (pt a 0) zf (xI (k := .i64) a 0 (atW kb) Try.underlying80 zk (by first | exact zJ _ | omega) zk zk (zX a (0 + (atW kb) * 1) (.pointer none) zk zf (zK f ((xP (by first | exact zJ _ | omega)).trans (congrArg some hw_p_3))) (yM ?_)))))))))))))
 intro a8 n
 have z := z.trans (n.mono i)
 replace i := Nat.le_trans i (n.size)
 refine yF 12 zk (yL 12 rfl ?_ rfl)
 have aq := zA (zA (zA (zA (zA (zA aq s.below) ae) r.below) l) p) n
 have aj := (((((aj.below s.below).below ae).below r.below).below l).below p).below n
 refine zc (c_over_ln_S ao al xs _ aq aj (by exact az)) ?_
 replace hc := (((hc.trans2 (Ch.of_below r.below) (fun _ h => h.elim)).trans2 (Ch.of_below l) (fun _ h => h.elim)).trans2 (Ch.of_below p) (fun _ h => h.elim)).trans2 (Ch.of_below n) (fun _ h => h.elim)
 rintro _ bd ⟨av, o, rfl, c, b, ab, ac⟩
 have ak : (World.heap w).size ≤ o ∨ (fun k => k = a) o := .inl (Nat.le_trans hc.size ab)
 replace ab := Nat.le_trans i ab
 have ah : ∀ g, Value.ownBlock av = some g → (World.heap w).size ≤ g ∨ (fun k => k = a) g := fun g hg => .inl (Nat.le_trans hc.size (World.ownsRow.lt c g hg).1)
 have c := c.base i
 have z := z.trans (ac.mono i)
 replace i := Nat.le_trans i (ac.size)
 refine zR ?_
 refine ⟨rfl, ip 13 rfl (pt o 0) (yS zk (zB (yA (xY 14 zk zk zk ?_))))⟩
 intro a6 q
 have z := z.trans (q.mono i)
 replace i := Nat.le_trans i (q.size)
 have f := zA (zA (zA f n) ac) q
 refine I_pre 0 12 14 2 zk zk zk zk zk zk zk zk zk (zY (zY (zV (pt a 0) zf (zV (pt a 4) zf (xI (k := .i64) a 4 (atW ka) Try.underlying83 zk (by first | exact zJ _ | omega) zk zk (zX a (4 + (atW ka) * 1) ag zk zf (zK f ((wl_r (by first | exact zJ _ | omega)).trans (congrArg some hw_r_1))) (zY (zY (zV (pt a 0) zf (zV (pt a 4) zf (xI (k := .i64) a 4 (atW kb) Try.underlying83 zk (by first | exact zJ _ | omega) zk zk (zX a (4 + (atW kb) * 1) (.slice none 0 0) zk zf (zK f ((wl_r (by first | exact zJ _ | omega)).trans (congrArg some hw_r_4))) (yM ?_)))))))))))))
 intro a4 m
 have z := z.trans (m.mono i)
 replace i := Nat.le_trans i (m.size)
 refine yF 12 zk (yL 12 rfl ?_ rfl)
 have ai := ((((((((ai.below s.below).below ae).below r.below).below l).below p).below n).below ac).below q).below m
 refine zc (c_overD ag ds (.slice none 0 0) [] _ ai (Rd.nil _ _) (by first | omega | (simp; done)) (by first | omega | (simp; done)) (by exact au)) ?_
 replace hc := ((hc.trans2 (Ch.of_below ac) (fun _ h => h.elim)).trans2 (Ch.of_below q) (fun _ h => h.elim)).trans2 (Ch.of_below m) (fun _ h => h.elim)
 rintro ap a5 ⟨_, rfl, d, aa⟩
 have d := d.base i
 have z := z.trans (aa.mono i)
 replace i := Nat.le_trans i (aa.size)
 refine zR ?_
 refine ⟨rfl, ip 13 rfl ap (yS zk ?_)⟩
 have f := zA (zA f m) aa
 refine zB (wR (zG (zG (zG (zr (pt a 0) (zr (pt a 0) (yY (k := .i64) a 0 (atW kc) Try.underlying80 zk (by first | exact zJ _ | omega) zk zk (yQ a (0 + (atW kc) * 1) (pt o 0) (wl paP paR paN) _ 86 zk zk rfl zk f (wl_lp (by first | exact zJ _ | omega)) (wl_tp _ (by first | exact zJ _ | omega)) ?_))))))))
 intro bb u
 replace i := Nat.le_trans i (Nat.le_of_eq u.size.symm)
 have b := zA (zA (zA b q) m) aa
 have b := zC b u (zH b f zi)
 have c := ((c.below q).below m).below aa
 have c := c.wrote u (c.ne f zi)
 have d := d.wrote u (d.ne f zi)
 have f := u.here
 refine nR (zG (zG (zG (zr (pt a 0) (zr (pt a 4) (yY (k := .i64) a 4 (atW kc) Try.underlying83 zk (by first | exact zJ _ | omega) zk zk (yQ a (4 + (atW kc) * 1) ap (wl (up paP (atW kc) (pt o 0)) paR paN) _ 86 zk zk d.one zk f (wl_lr (by first | exact zJ _ | omega)) (wl_tr _ (by first | exact zJ _ | omega)) ?_)))))))
 intro bh y
 replace i := Nat.le_trans i (Nat.le_of_eq y.size.symm)
 have b := zC b y (zH b f zi)
 have c := c.wrote y (c.ne f zi)
 have d := d.wrote y (d.ne f zi)
 have f := y.here
 refine nR (zG (zG (zr (pt a 0) (zr (pt a 8) (yY (k := .i64) a 8 (atW kc) Try.underlying84 zk (by first | exact zJ _ | omega) zk zk (yQ a (8 + (atW kc) * 1) (.bool false) (wl (up paP (atW kc) (pt o 0)) (up paR (atW kc) ap) paN) _ 86 zk zk rfl zk f (wl_ln (by first | exact zJ _ | omega)) (wl_tn _ (by first | exact zJ _ | omega)) ?_))))))
 intro bf t
 replace i := Nat.le_trans i (Nat.le_of_eq t.size.symm)
 have b := zC b t (zH b f zi)
 have c := c.wrote t (c.ne f zi)
 have d := d.wrote t (d.ne f zi)
 have f := t.here
 refine nR (zG (zr (.bool true) (zI (nQ (yB (yG (zP (yJ [(.bool true)] ?_))))))))
 show L _ _ _ _ _ _ (Fm.put _ _ (.bool true)) _
 refine zI (nQ (yB (yG (zP (yJ [(.bool true)] ?_)))))
 have er : (overF eqS xs ([] : List SpS)) = (overF eqS xs ([] : List SpS)) := by rfl
 have ed : (ovrD ds []) = (ovrD ds ([] : List DoneV)) := by rfl
 replace hc := (((hc.trans2 (Ch.of_below aa) (fun _ h => h.elim)).trans2 (Ch.of_wrote u) (fun k e => e ▸ am)).trans2 (Ch.of_wrote y) (fun k e => e ▸ am)).trans2 (Ch.of_wrote t) (fun k e => e ▸ am)
 exact ⟨o, av, ap, rfl, f, b, ak, c.cast er, ah, d.cast ed, hc⟩
theorem s_same_ny (a : Nat) (paP paR paN : Nat → Value) (ka : Int) (kb : Int) (kc : Int) (few : Int) (lo : Int) (hi : Int) (val : List UInt8) (f : Value) (es : List (Int × Int × List UInt8 × Bool)) (d : Nat) (n : Value) (ys : List (Int × Int × List UInt8)) (w : World) (i : w.heap[a]? = some (.cells (wl paP paR paN).toArray 86 (0, 0))) (hw_p_0 : paP (atW ka) = (.pointer none)) (hw_r_1 : paR (atW ka) = (.slice none 0 0)) (hw_n_2 : paN (atW ka) = (.bool true)) (hw_p_3 : paP (atW kb) = (pt d 0)) (hw_r_4 : paR (atW kb) = f) (hw_n_5 : paN (atW kb) = (.bool false)) (l : Rx w 0 187 4 encD f es) (j : w.heap[d]? = some (.cells [n, (.bool true)].toArray 136 (0, 0))) (m : Rd w encSpanS n ys) (hrel2 : Rel ys es) (hln2 : es.length ≤ 536870912) :
  Calls Try.prog 42 #[(pt a 0), (Value.agg #[(I6 7), (I6 ka), (I6 kb), (I6 kc), (I6 few), (I3 lo), (I3 hi), (S val)])] w (Ret fun v w' => v = (.bool true) ∧ Below w.heap.size w w') := by
 refine wL 109 Try.func42 rfl ?_
 have r := Below.refl w.heap.size w
 have o := Rel.nil
 have p := o.ok
 have z := o.rise
 have ab := hrel2.rise.len
 have q := hrel2.ok
 have aa := hrel2.rise
 refine wR (zN [(I6 7), (I6 ka), (I6 kb), (I6 kc), (I6 few), (I3 lo), (I3 hi), (S val)] 44 ?_)
 intro s w2 g
 have y := g.ge r.size
 have b := g.here
 refine zI (nR (wB 1 b rfl (zc (xB ka _ ) ?_)))
 rintro _ w4 ⟨rfl, h⟩
 have j := zA (zA j g.below) h
 have i := zA (zA i g.below) h
 have b := zA b h
 have l := (l.below g.below).below h
 have m := (m.below g.below).below h
 refine zI (nW (wR (wB 0 b rfl (nQ (yC (yA (wR (zr (.bool false) (zI (nQ (zF (wR (zr (.bool false) (zI (nQ (zF (wR (zr (.bool false) (zI (nQ (zF (wR (zr (.bool false) (zI (nQ (zF (zW (zr (.bool false) (zI (nQ (zF (wR (zr (.bool false) (zI (nQ (zF (yA (wR (zr (.bool false) (zI (nQ (zF (wR (zr (.bool false) (zI (nQ (zF (zW (zr (.bool false) (zI (nQ (zF (wR (zr (.bool true) (zI (nQ (zT (yA (yV zk zk (zY (zY (zV (pt a 0) zf (zV (pt a 0) zf (xI (k := .i64) a 0 (atW ka) Try.underlying80 zk (by first | exact zJ _ | omega) zk zk (zX a (0 + (atW ka) * 1) (.pointer none) zk zf (zK i ((xP (by first | exact zJ _ | omega)).trans (congrArg some hw_p_0))) (zY (zV (pt s 2) zf (zX s 2 (I6 kb) zk zf (zK b rfl) (yR 78 [(I6 kb)] (N6 (atW kb)) zg (fun wq hbq => xB kb wq ) (zV (pt a 0) zf (zV (pt a 0) zf (xI (k := .i64) a 0 (atW kb) Try.underlying80 zk (by first | exact zJ _ | omega) zk zk (zX a (0 + (atW kb) * 1) (pt d 0) zk zf (zK i ((xP (by first | exact zJ _ | omega)).trans (congrArg some hw_p_3))) (yR 40 [(.pointer none), (pt d 0)] (.bool (decide (([] : List SpS) = ys))) zg (fun wq hbq => c_same_nl d n ys wq (zA j hbq) (m.below hbq) (by first | omega | (simp; done))) (zY (zY (zV (pt a 0) zf (zV (pt a 4) zf (xI (k := .i64) a 4 (atW ka) Try.underlying83 zk (by first | exact zJ _ | omega) zk zk (zX a (4 + (atW ka) * 1) (.slice none 0 0) zk zf (zK i ((wl_r (by first | exact zJ _ | omega)).trans (congrArg some hw_r_1))) (zY (zV (pt s 2) zf (zX s 2 (I6 kb) zk zf (zK b rfl) (yR 78 [(I6 kb)] (N6 (atW kb)) zg (fun wq hbq => xB kb wq ) (zV (pt a 0) zf (zV (pt a 4) zf (xI (k := .i64) a 4 (atW kb) Try.underlying83 zk (by first | exact zJ _ | omega) zk zk (zX a (4 + (atW kb) * 1) f zk zf (zK i ((wl_r (by first | exact zJ _ | omega)).trans (congrArg some hw_r_4))) (yR 81 [(.slice none 0 0), f] (.bool (decide (strF [] = strF es))) zg (fun wq hbq => c_sameD (.slice none 0 0) [] f es wq (Rd.nil _ _) (l.rd.below hbq) (by first | omega | (simp; done)) (by exact p) (by first | omega | (simp; done)) (by exact q)) (Lq_bEq (decide (([] : List SpS) = ys)) (decide (strF [] = strF es)) zk zk (fun c e _ => by cases c <;> cases e <;> kernel_rfl) ?_ ?_))))))))))))))))))))))))))))))))))))))))))))))))))))))))))))))))))))))))))))))))))))))))))
 ·intro h7
  refine xA (yM ?_)
  intro w8 u
  have r := ((r.tr g.below).tr h).tr u
  exact zB (yB (yG (zP (yJ [(.bool true)] ⟨rfl, r⟩))))
 intro t
 exfalso; exact t (o.same hrel2).symm
theorem s_over_ny (a : Nat) (paP paR paN : Nat → Value) (ka : Int) (kb : Int) (kc : Int) (few : Int) (lo : Int) (hi : Int) (val : List UInt8) (ah : Value) (es : List (Int × Int × List UInt8 × Bool)) (ag : Nat) (an : Value) (ys : List (Int × Int × List UInt8)) (B_ : Nat) (w : World) (hs0 : B_ ≤ w.heap.size) (f : w.heap[a]? = some (.cells (wl paP paR paN).toArray 86 (0, 0))) (be : B_ ≤ a) (hw_p_0 : paP (atW ka) = (.pointer none)) (hw_r_1 : paR (atW ka) = (.slice none 0 0)) (hw_n_2 : paN (atW ka) = (.bool true)) (hw_p_3 : paP (atW kb) = (pt ag 0)) (hw_r_4 : paR (atW kb) = ah) (hw_n_5 : paN (atW kb) = (.bool false)) (ak : Rx w 0 187 4 encD ah es) (aj : w.heap[ag]? = some (.cells [an, (.bool true)].toArray 136 (0, 0))) (ao : Rd w encSpanS an ys) (hrel2 : Rel ys es) (hln2 : es.length ≤ 536870912) :
  Calls Try.prog 42 #[(pt a 0), (Value.agg #[(I6 8), (I6 ka), (I6 kb), (I6 kc), (I6 few), (I3 lo), (I3 hi), (S val)])] w (Ret fun v w' => ∃ (cb0 : Nat) (q0 : Value) (v1 : Value), v = .bool true ∧ w'.heap[a]? = some (.cells (wl (up paP (atW kc) (pt cb0 0)) (up paR (atW kc) v1) (up paN (atW kc) (.bool false))).toArray 86 (0, 0)) ∧ w'.heap[cb0]? = some (.cells [q0, (.bool true)].toArray 136 (0, 0)) ∧ ((World.heap w).size ≤ cb0 ∨ (fun k => k = a) cb0) ∧ Row w' B_ 138 3 encSpanS q0 (overF eqS ([] : List SpS) ys) ∧ (∀ g, Value.ownBlock q0 = some g → (World.heap w).size ≤ g ∨ (fun k => k = a) g) ∧ Rx w' 0 187 4 encD v1 (ovrD ([] : List DoneV) es) ∧ Ch (fun k => k = a) w w') := by
 refine wL 109 Try.func42 rfl ?_
 have z := Below.refl B_ w
 have i : B_ ≤ (World.heap w).size := hs0
 have hc := Ch.refl (fun k => k = a) w
 have am : (World.heap w).size ≤ a ∨ (fun k => k = a) a := .inr rfl
 have aw := Rel.nil
 have a1 := aw.ok
 have a3 := aw.rise
 have bc := hrel2.rise.len
 have av := hrel2.ok
 have az := hrel2.rise
 refine wR (zN [(I6 8), (I6 ka), (I6 kb), (I6 kc), (I6 few), (I3 lo), (I3 hi), (S val)] 44 ?_)
 intro b1 w2 s
 have a2 : B_ ≤ b1 := by rw [s.num]; exact i
 have ay : (World.heap w).size ≤ b1 ∨ (fun k => k = a) b1 := .inl (by rw [s.num]; exact hc.size)
 have z := z.trans (s.below.mono i)
 replace i := Nat.le_trans i (s.below.size)
 have ad := s.here
 refine zI (nR (wB 1 ad rfl (zc (xB ka _ ) ?_)))
 replace hc := hc.trans2 (Ch.of_below s.below) (fun _ h => h.elim)
 rintro _ w4 ⟨rfl, ae⟩
 have z := z.trans (ae.mono i)
 replace i := Nat.le_trans i (ae.size)
 have ad := zA ad ae
 refine zI (nW (wR (wB 0 ad rfl (nQ (yC (yA (wR (zr (.bool false) (zI (nQ (zF (wR (zr (.bool false) (zI (nQ (zF (wR (zr (.bool false) (zI (nQ (zF (wR (zr (.bool false) (zI (nQ (zF (zW (zr (.bool false) (zI (nQ (zF (wR (zr (.bool false) (zI (nQ (zF (yA (wR (zr (.bool false) (zI (nQ (zF (wR (zr (.bool true) (zI (nQ (zT (zZ (zB (zT (wR (zG (wG ad (qW 80 [(pt a 0), (Value.agg #[(I6 8), (I6 ka), (I6 kb), (I6 kc), (I6 few), (I3 lo), (I3 hi), (S val)])] zk zk (wL 196 Try.func80 rfl (wR (zN [(I6 8), (I6 ka), (I6 kb), (I6 kc), (I6 few), (I3 lo), (I3 hi), (S val)] 44 ?_)))))))))))))))))))))))))))))))))))))))))))))))))))))))))
 intro b7 w8 r
 have ax : B_ ≤ b7 := by rw [r.num]; exact i
 replace hc := hc.trans2 (Ch.of_below ae) (fun _ h => h.elim)
 have ar : (World.heap w).size ≤ b7 ∨ (fun k => k = a) b7 := .inl (by rw [r.num]; exact hc.size)
 have z := z.trans (r.below.mono i)
 replace i := Nat.le_trans i (r.below.size)
 have j := r.here
 refine zI (nW (yV zk zk (zV (pt b7 1) zf (zX b7 1 (I6 ka) zk zf (zK j rfl) (yR 78 [(I6 ka)] (N6 (atW ka)) zg (fun wq hbq => xB ka wq ) (zV (pt b7 2) zf (zX b7 2 (I6 kb) zk zf (zK j rfl) (yR 78 [(I6 kb)] (N6 (atW kb)) zg (fun wq hbq => xB kb wq ) (zV (pt b7 3) zf (zX b7 3 (I6 kc) zk zf (zK j rfl) (yR 78 [(I6 kc)] (N6 (atW kc)) zg (fun wq hbq => xB kc wq ) (xA (xA (xA (yM ?_)))))))))))))))
 intro a4 l
 have z := z.trans (l.mono i)
 replace i := Nat.le_trans i (l.size)
 have j := zA j l
 refine zB (yA (wR (wB 0 j rfl (nQ (yC (wR (zr (.bool false) (zI (nQ (zF (wR (zr (.bool true) (zI (nQ (zT (yA (xY 14 zk zk zk ?_)))))))))))))))))
 intro bg p
 have z := z.trans (p.mono i)
 replace i := Nat.le_trans i (p.size)
 have f := zA (zA (zA (zA (zA f s.below) ae) r.below) l) p
 refine I_pre 0 12 14 2 zk zk zk zk zk zk zk zk zk (zY (zY (zV (pt a 0) zf (zV (pt a 0) zf (xI (k := .i64) a 0 (atW ka) Try.underlying80 zk (by first | exact zJ _ | omega) zk zk (zX a (0 + (atW ka) * 1) (.pointer none) zk zf (zK f ((xP (by first | exact zJ _ | omega)).trans (congrArg some hw_p_0))) (zY (zY (zV (pt a 0) zf (zV (pt a 0) zf (xI (k := .i64) a 0 (atW kb) Try.underlying80 zk (by first | exact zJ _ | omega) zk zk (zX a (0 + (atW kb) * 1) (pt ag 0) zk zf (zK f ((xP (by first | exact zJ _ | omega)).trans (congrArg some hw_p_3))) (yM ?_)))))))))))))
 intro a8 n
 have z := z.trans (n.mono i)
 replace i := Nat.le_trans i (n.size)
 refine yF 12 zk (yL 12 rfl ?_ rfl)
 have aj := zA (zA (zA (zA (zA (zA aj s.below) ae) r.below) l) p) n
 have ao := (((((ao.below s.below).below ae).below r.below).below l).below p).below n
 refine zc (c_over_nl_S ag an ys _ aj ao (by exact az)) ?_
 replace hc := (((hc.trans2 (Ch.of_below r.below) (fun _ h => h.elim)).trans2 (Ch.of_below l) (fun _ h => h.elim)).trans2 (Ch.of_below p) (fun _ h => h.elim)).trans2 (Ch.of_below n) (fun _ h => h.elim)
 rintro _ bd ⟨au, o, rfl, c, b, ab, ac⟩
 have al : (World.heap w).size ≤ o ∨ (fun k => k = a) o := .inl (Nat.le_trans hc.size ab)
 replace ab := Nat.le_trans i ab
 have ai : ∀ g, Value.ownBlock au = some g → (World.heap w).size ≤ g ∨ (fun k => k = a) g := fun g hg => .inl (Nat.le_trans hc.size (World.ownsRow.lt c g hg).1)
 have c := c.base i
 have z := z.trans (ac.mono i)
 replace i := Nat.le_trans i (ac.size)
 refine zR ?_
 refine ⟨rfl, ip 13 rfl (pt o 0) (yS zk (zB (yA (xY 14 zk zk zk ?_))))⟩
 intro a7 q
 have z := z.trans (q.mono i)
 replace i := Nat.le_trans i (q.size)
 have f := zA (zA (zA f n) ac) q
 refine I_pre 0 12 14 2 zk zk zk zk zk zk zk zk zk (zY (zY (zV (pt a 0) zf (zV (pt a 4) zf (xI (k := .i64) a 4 (atW ka) Try.underlying83 zk (by first | exact zJ _ | omega) zk zk (zX a (4 + (atW ka) * 1) (.slice none 0 0) zk zf (zK f ((wl_r (by first | exact zJ _ | omega)).trans (congrArg some hw_r_1))) (zY (zY (zV (pt a 0) zf (zV (pt a 4) zf (xI (k := .i64) a 4 (atW kb) Try.underlying83 zk (by first | exact zJ _ | omega) zk zk (zX a (4 + (atW kb) * 1) ah zk zf (zK f ((wl_r (by first | exact zJ _ | omega)).trans (congrArg some hw_r_4))) (yM ?_)))))))))))))
 intro a5 m
 have z := z.trans (m.mono i)
 replace i := Nat.le_trans i (m.size)
 refine yF 12 zk (yL 12 rfl ?_ rfl)
 have ak := ((((((((ak.below s.below).below ae).below r.below).below l).below p).below n).below ac).below q).below m
 refine zc (c_overD (.slice none 0 0) [] ah es _ (Rx.nil _ _ _ _ _) ak.rd (by first | omega | (simp; done)) (by first | omega | (simp; done)) (by exact av)) ?_
 replace hc := ((hc.trans2 (Ch.of_below ac) (fun _ h => h.elim)).trans2 (Ch.of_below q) (fun _ h => h.elim)).trans2 (Ch.of_below m) (fun _ h => h.elim)
 rintro aq a6 ⟨_, rfl, d, aa⟩
 have d := d.base i
 have z := z.trans (aa.mono i)
 replace i := Nat.le_trans i (aa.size)
 refine zR ?_
 refine ⟨rfl, ip 13 rfl aq (yS zk ?_)⟩
 have f := zA (zA f m) aa
 refine zB (wR (zG (zG (zG (zr (pt a 0) (zr (pt a 0) (yY (k := .i64) a 0 (atW kc) Try.underlying80 zk (by first | exact zJ _ | omega) zk zk (yQ a (0 + (atW kc) * 1) (pt o 0) (wl paP paR paN) _ 86 zk zk rfl zk f (wl_lp (by first | exact zJ _ | omega)) (wl_tp _ (by first | exact zJ _ | omega)) ?_))))))))
 intro ba u
 replace i := Nat.le_trans i (Nat.le_of_eq u.size.symm)
 have b := zA (zA (zA b q) m) aa
 have b := zC b u (zH b f zi)
 have c := ((c.below q).below m).below aa
 have c := c.wrote u (c.ne f zi)
 have d := d.wrote u (d.ne f zi)
 have f := u.here
 refine nR (zG (zG (zG (zr (pt a 0) (zr (pt a 4) (yY (k := .i64) a 4 (atW kc) Try.underlying83 zk (by first | exact zJ _ | omega) zk zk (yQ a (4 + (atW kc) * 1) aq (wl (up paP (atW kc) (pt o 0)) paR paN) _ 86 zk zk d.one zk f (wl_lr (by first | exact zJ _ | omega)) (wl_tr _ (by first | exact zJ _ | omega)) ?_)))))))
 intro bh y
 replace i := Nat.le_trans i (Nat.le_of_eq y.size.symm)
 have b := zC b y (zH b f zi)
 have c := c.wrote y (c.ne f zi)
 have d := d.wrote y (d.ne f zi)
 have f := y.here
 refine nR (zG (zG (zr (pt a 0) (zr (pt a 8) (yY (k := .i64) a 8 (atW kc) Try.underlying84 zk (by first | exact zJ _ | omega) zk zk (yQ a (8 + (atW kc) * 1) (.bool false) (wl (up paP (atW kc) (pt o 0)) (up paR (atW kc) aq) paN) _ 86 zk zk rfl zk f (wl_ln (by first | exact zJ _ | omega)) (wl_tn _ (by first | exact zJ _ | omega)) ?_))))))
 intro bf t
 replace i := Nat.le_trans i (Nat.le_of_eq t.size.symm)
 have b := zC b t (zH b f zi)
 have c := c.wrote t (c.ne f zi)
 have d := d.wrote t (d.ne f zi)
 have f := t.here
 refine nR (zG (zr (.bool true) (zI (nQ (yB (yG (zP (yJ [(.bool true)] ?_))))))))
 show L _ _ _ _ _ _ (Fm.put _ _ (.bool true)) _
 refine zI (nQ (yB (yG (zP (yJ [(.bool true)] ?_)))))
 have er : (overF eqS ([] : List SpS) ys) = (overF eqS ([] : List SpS) ys) := by rfl
 have ed : (ovrD [] es) = (ovrD ([] : List DoneV) es) := by rfl
 replace hc := (((hc.trans2 (Ch.of_below aa) (fun _ h => h.elim)).trans2 (Ch.of_wrote u) (fun k e => e ▸ am)).trans2 (Ch.of_wrote y) (fun k e => e ▸ am)).trans2 (Ch.of_wrote t) (fun k e => e ▸ am)
 exact ⟨o, au, aq, rfl, f, b, al, c.cast er, ai, d.cast ed, hc⟩
theorem s_same_nn (a : Nat) (paP paR paN : Nat → Value) (ka : Int) (kb : Int) (kc : Int) (few : Int) (lo : Int) (hi : Int) (val : List UInt8) (w : World) (d : w.heap[a]? = some (.cells (wl paP paR paN).toArray 86 (0, 0))) (hw_p_0 : paP (atW ka) = (.pointer none)) (hw_r_1 : paR (atW ka) = (.slice none 0 0)) (hw_n_2 : paN (atW ka) = (.bool true)) (hw_p_3 : paP (atW kb) = (.pointer none)) (hw_r_4 : paR (atW kb) = (.slice none 0 0)) (hw_n_5 : paN (atW kb) = (.bool true)) :
  Calls Try.prog 42 #[(pt a 0), (Value.agg #[(I6 7), (I6 ka), (I6 kb), (I6 kc), (I6 few), (I3 lo), (I3 hi), (S val)])] w (Ret fun v w' => v = (.bool true) ∧ Below w.heap.size w w') := by
 refine wL 109 Try.func42 rfl ?_
 have j := Below.refl w.heap.size w
 have f := Rel.nil
 have h := f.ok
 have o := f.rise
 refine wR (zN [(I6 7), (I6 ka), (I6 kb), (I6 kc), (I6 few), (I3 lo), (I3 hi), (S val)] 44 ?_)
 intro l t g
 have p := g.ge j.size
 have b := g.here
 refine zI (nR (wB 1 b rfl (zc (xB ka _ ) ?_)))
 rintro _ q ⟨rfl, i⟩
 have d := zA (zA d g.below) i
 have b := zA b i
 refine zI (nW (wR (wB 0 b rfl (nQ (yC (yA (wR (zr (.bool false) (zI (nQ (zF (wR (zr (.bool false) (zI (nQ (zF (wR (zr (.bool false) (zI (nQ (zF (wR (zr (.bool false) (zI (nQ (zF (zW (zr (.bool false) (zI (nQ (zF (wR (zr (.bool false) (zI (nQ (zF (yA (wR (zr (.bool false) (zI (nQ (zF (wR (zr (.bool false) (zI (nQ (zF (zW (zr (.bool false) (zI (nQ (zF (wR (zr (.bool true) (zI (nQ (zT (yA (yV zk zk (zY (zY (zV (pt a 0) zf (zV (pt a 0) zf (xI (k := .i64) a 0 (atW ka) Try.underlying80 zk (by first | exact zJ _ | omega) zk zk (zX a (0 + (atW ka) * 1) (.pointer none) zk zf (zK d ((xP (by first | exact zJ _ | omega)).trans (congrArg some hw_p_0))) (zY (zV (pt l 2) zf (zX l 2 (I6 kb) zk zf (zK b rfl) (yR 78 [(I6 kb)] (N6 (atW kb)) zg (fun wq hbq => xB kb wq ) (zV (pt a 0) zf (zV (pt a 0) zf (xI (k := .i64) a 0 (atW kb) Try.underlying80 zk (by first | exact zJ _ | omega) zk zk (zX a (0 + (atW kb) * 1) (.pointer none) zk zf (zK d ((xP (by first | exact zJ _ | omega)).trans (congrArg some hw_p_3))) (yR 40 [(.pointer none), (.pointer none)] (.bool (decide (([] : List SpS) = []))) zg (fun wq hbq => c_same_nn  wq ) (zY (zY (zV (pt a 0) zf (zV (pt a 4) zf (xI (k := .i64) a 4 (atW ka) Try.underlying83 zk (by first | exact zJ _ | omega) zk zk (zX a (4 + (atW ka) * 1) (.slice none 0 0) zk zf (zK d ((wl_r (by first | exact zJ _ | omega)).trans (congrArg some hw_r_1))) (zY (zV (pt l 2) zf (zX l 2 (I6 kb) zk zf (zK b rfl) (yR 78 [(I6 kb)] (N6 (atW kb)) zg (fun wq hbq => xB kb wq ) (zV (pt a 0) zf (zV (pt a 4) zf (xI (k := .i64) a 4 (atW kb) Try.underlying83 zk (by first | exact zJ _ | omega) zk zk (zX a (4 + (atW kb) * 1) (.slice none 0 0) zk zf (zK d ((wl_r (by first | exact zJ _ | omega)).trans (congrArg some hw_r_4))) (yR 81 [(.slice none 0 0), (.slice none 0 0)] (.bool (decide (strF [] = strF []))) zg (fun wq hbq => c_sameD (.slice none 0 0) [] (.slice none 0 0) [] wq (Rd.nil _ _) (Rd.nil _ _) (by first | omega | (simp; done)) (by exact h) (by first | omega | (simp; done)) (by exact h)) (Lq_bEq (decide (([] : List SpS) = [])) (decide (strF [] = strF [])) zk zk (fun c e _ => by cases c <;> cases e <;> kernel_rfl) ?_ ?_))))))))))))))))))))))))))))))))))))))))))))))))))))))))))))))))))))))))))))))))))))))))))
 ·intro r
  refine xA (yM ?_)
  intro s n
  have j := ((j.tr g.below).tr i).tr n
  exact zB (yB (yG (zP (yJ [(.bool true)] ⟨rfl, j⟩))))
 intro m
 exfalso; exact m (f.same f).symm
theorem s_over_nn (a : Nat) (paP paR paN : Nat → Value) (ka : Int) (kb : Int) (kc : Int) (few : Int) (lo : Int) (hi : Int) (val : List UInt8) (B_ : Nat) (w : World) (hs0 : B_ ≤ w.heap.size) (f : w.heap[a]? = some (.cells (wl paP paR paN).toArray 86 (0, 0))) (a5 : B_ ≤ a) (hw_p_0 : paP (atW ka) = (.pointer none)) (hw_r_1 : paR (atW ka) = (.slice none 0 0)) (hw_n_2 : paN (atW ka) = (.bool true)) (hw_p_3 : paP (atW kb) = (.pointer none)) (hw_r_4 : paR (atW kb) = (.slice none 0 0)) (hw_n_5 : paN (atW kb) = (.bool true)) :
  Calls Try.prog 42 #[(pt a 0), (Value.agg #[(I6 8), (I6 ka), (I6 kb), (I6 kc), (I6 few), (I3 lo), (I3 hi), (S val)])] w (Ret fun v w' => ∃ (cb0 : Nat) (q0 : Value) (v1 : Value), v = .bool true ∧ w'.heap[a]? = some (.cells (wl (up paP (atW kc) (pt cb0 0)) (up paR (atW kc) v1) (up paN (atW kc) (.bool false))).toArray 86 (0, 0)) ∧ w'.heap[cb0]? = some (.cells [q0, (.bool true)].toArray 136 (0, 0)) ∧ ((World.heap w).size ≤ cb0 ∨ (fun k => k = a) cb0) ∧ Row w' B_ 138 3 encSpanS q0 (overF eqS ([] : List SpS) ([] : List SpS)) ∧ (∀ g, Value.ownBlock q0 = some g → (World.heap w).size ≤ g ∨ (fun k => k = a) g) ∧ Rx w' 0 187 4 encD v1 (ovrD ([] : List DoneV) ([] : List DoneV)) ∧ Ch (fun k => k = a) w w') := by
 refine wL 109 Try.func42 rfl ?_
 have q := Below.refl B_ w
 have i : B_ ≤ (World.heap w).size := hs0
 have hc := Ch.refl (fun k => k = a) w
 have ai : (World.heap w).size ≤ a ∨ (fun k => k = a) a := .inr rfl
 have ao := Rel.nil
 have am := ao.ok
 have av := ao.rise
 refine wR (zN [(I6 8), (I6 ka), (I6 kb), (I6 kc), (I6 few), (I3 lo), (I3 hi), (S val)] 44 ?_)
 intro b1 w2 ab
 have au : B_ ≤ b1 := by rw [ab.num]; exact i
 have aq : (World.heap w).size ≤ b1 ∨ (fun k => k = a) b1 := .inl (by rw [ab.num]; exact hc.size)
 have q := q.trans (ab.below.mono i)
 replace i := Nat.le_trans i (ab.below.size)
 have u := ab.here
 refine zI (nR (wB 1 u rfl (zc (xB ka _ ) ?_)))
 replace hc := hc.trans2 (Ch.of_below ab.below) (fun _ h => h.elim)
 rintro _ w4 ⟨rfl, ah⟩
 have q := q.trans (ah.mono i)
 replace i := Nat.le_trans i (ah.size)
 have u := zA u ah
 refine zI (nW (wR (wB 0 u rfl (nQ (yC (yA (wR (zr (.bool false) (zI (nQ (zF (wR (zr (.bool false) (zI (nQ (zF (wR (zr (.bool false) (zI (nQ (zF (wR (zr (.bool false) (zI (nQ (zF (zW (zr (.bool false) (zI (nQ (zF (wR (zr (.bool false) (zI (nQ (zF (yA (wR (zr (.bool false) (zI (nQ (zF (wR (zr (.bool true) (zI (nQ (zT (zZ (zB (zT (wR (zG (wG u (qW 80 [(pt a 0), (Value.agg #[(I6 8), (I6 ka), (I6 kb), (I6 kc), (I6 few), (I3 lo), (I3 hi), (S val)])] zk zk (wL 196 Try.func80 rfl (wR (zN [(I6 8), (I6 ka), (I6 kb), (I6 kc), (I6 few), (I3 lo), (I3 hi), (S val)] 44 ?_)))))))))))))))))))))))))))))))))))))))))))))))))))))))))
 intro b7 w8 z
 have ap : B_ ≤ b7 := by rw [z.num]; exact i
 replace hc := hc.trans2 (Ch.of_below ah) (fun _ h => h.elim)
 have al : (World.heap w).size ≤ b7 ∨ (fun k => k = a) b7 := .inl (by rw [z.num]; exact hc.size)
 have q := q.trans (z.below.mono i)
 replace i := Nat.le_trans i (z.below.size)
 have j := z.here
 refine zI (nW (yV zk zk (zV (pt b7 1) zf (zX b7 1 (I6 ka) zk zf (zK j rfl) (yR 78 [(I6 ka)] (N6 (atW ka)) zg (fun wq hbq => xB ka wq ) (zV (pt b7 2) zf (zX b7 2 (I6 kb) zk zf (zK j rfl) (yR 78 [(I6 kb)] (N6 (atW kb)) zg (fun wq hbq => xB kb wq ) (zV (pt b7 3) zf (zX b7 3 (I6 kc) zk zf (zK j rfl) (yR 78 [(I6 kc)] (N6 (atW kc)) zg (fun wq hbq => xB kc wq ) (xA (xA (xA (yM ?_)))))))))))))))
 intro aw y
 have q := q.trans (y.mono i)
 replace i := Nat.le_trans i (y.size)
 have j := zA j y
 refine zB (yA (wR (wB 0 j rfl (nQ (yC (wR (zr (.bool false) (zI (nQ (zF (wR (zr (.bool true) (zI (nQ (zT (yA (xY 14 zk zk zk ?_)))))))))))))))))
 intro a7 ae
 have q := q.trans (ae.mono i)
 replace i := Nat.le_trans i (ae.size)
 have f := zA (zA (zA (zA (zA f ab.below) ah) z.below) y) ae
 refine I_pre 0 12 14 2 zk zk zk zk zk zk zk zk zk (zY (zY (zV (pt a 0) zf (zV (pt a 0) zf (xI (k := .i64) a 0 (atW ka) Try.underlying80 zk (by first | exact zJ _ | omega) zk zk (zX a (0 + (atW ka) * 1) (.pointer none) zk zf (zK f ((xP (by first | exact zJ _ | omega)).trans (congrArg some hw_p_0))) (zY (zY (zV (pt a 0) zf (zV (pt a 0) zf (xI (k := .i64) a 0 (atW kb) Try.underlying80 zk (by first | exact zJ _ | omega) zk zk (zX a (0 + (atW kb) * 1) (.pointer none) zk zf (zK f ((xP (by first | exact zJ _ | omega)).trans (congrArg some hw_p_3))) (yM ?_)))))))))))))
 intro a0 ad
 have q := q.trans (ad.mono i)
 replace i := Nat.le_trans i (ad.size)
 refine yF 12 zk (yL 12 rfl ?_ rfl)
 refine zc (c_over_nn_S  _ ) ?_
 replace hc := (((hc.trans2 (Ch.of_below z.below) (fun _ h => h.elim)).trans2 (Ch.of_below y) (fun _ h => h.elim)).trans2 (Ch.of_below ae) (fun _ h => h.elim)).trans2 (Ch.of_below ad) (fun _ h => h.elim)
 rintro _ a4 ⟨an, l, rfl, c, b, t, ac⟩
 have ag : (World.heap w).size ≤ l ∨ (fun k => k = a) l := .inl (Nat.le_trans hc.size t)
 replace t := Nat.le_trans i t
 have af : ∀ g, Value.ownBlock an = some g → (World.heap w).size ≤ g ∨ (fun k => k = a) g := fun g hg => .inl (Nat.le_trans hc.size (World.ownsRow.lt c g hg).1)
 have c := c.base i
 have q := q.trans (ac.mono i)
 replace i := Nat.le_trans i (ac.size)
 refine zR ?_
 refine ⟨rfl, ip 13 rfl (pt l 0) (yS zk (zB (yA (xY 14 zk zk zk ?_))))⟩
 intro az s
 have q := q.trans (s.mono i)
 replace i := Nat.le_trans i (s.size)
 have f := zA (zA (zA f ad) ac) s
 refine I_pre 0 12 14 2 zk zk zk zk zk zk zk zk zk (zY (zY (zV (pt a 0) zf (zV (pt a 4) zf (xI (k := .i64) a 4 (atW ka) Try.underlying83 zk (by first | exact zJ _ | omega) zk zk (zX a (4 + (atW ka) * 1) (.slice none 0 0) zk zf (zK f ((wl_r (by first | exact zJ _ | omega)).trans (congrArg some hw_r_1))) (zY (zY (zV (pt a 0) zf (zV (pt a 4) zf (xI (k := .i64) a 4 (atW kb) Try.underlying83 zk (by first | exact zJ _ | omega) zk zk (zX a (4 + (atW kb) * 1) (.slice none 0 0) zk zf (zK f ((wl_r (by first | exact zJ _ | omega)).trans (congrArg some hw_r_4))) (yM ?_)))))))))))))
 intro ax m
 have q := q.trans (m.mono i)
 replace i := Nat.le_trans i (m.size)
 refine yF 12 zk (yL 12 rfl ?_ rfl)
 refine zc (c_overD (.slice none 0 0) [] (.slice none 0 0) [] _ (Rx.nil _ _ _ _ _) (Rd.nil _ _) (by first | omega | (simp; done)) (by first | omega | (simp; done)) (by exact am)) ?_
 replace hc := ((hc.trans2 (Ch.of_below ac) (fun _ h => h.elim)).trans2 (Ch.of_below s) (fun _ h => h.elim)).trans2 (Ch.of_below m) (fun _ h => h.elim)
 rintro ak ay ⟨_, rfl, d, r⟩
 have d := d.base i
 have q := q.trans (r.mono i)
 replace i := Nat.le_trans i (r.size)
 refine zR ?_
 refine ⟨rfl, ip 13 rfl ak (yS zk ?_)⟩
 have f := zA (zA f m) r
 refine zB (wR (zG (zG (zG (zr (pt a 0) (zr (pt a 0) (yY (k := .i64) a 0 (atW kc) Try.underlying80 zk (by first | exact zJ _ | omega) zk zk (yQ a (0 + (atW kc) * 1) (pt l 0) (wl paP paR paN) _ 86 zk zk rfl zk f (wl_lp (by first | exact zJ _ | omega)) (wl_tp _ (by first | exact zJ _ | omega)) ?_))))))))
 intro a2 o
 replace i := Nat.le_trans i (Nat.le_of_eq o.size.symm)
 have b := zA (zA (zA b s) m) r
 have b := zC b o (zH b f zi)
 have c := ((c.below s).below m).below r
 have c := c.wrote o (c.ne f zi)
 have d := d.wrote o (d.ne f zi)
 have f := o.here
 refine nR (zG (zG (zG (zr (pt a 0) (zr (pt a 4) (yY (k := .i64) a 4 (atW kc) Try.underlying83 zk (by first | exact zJ _ | omega) zk zk (yQ a (4 + (atW kc) * 1) ak (wl (up paP (atW kc) (pt l 0)) paR paN) _ 86 zk zk d.one zk f (wl_lr (by first | exact zJ _ | omega)) (wl_tr _ (by first | exact zJ _ | omega)) ?_)))))))
 intro a8 p
 replace i := Nat.le_trans i (Nat.le_of_eq p.size.symm)
 have b := zC b p (zH b f zi)
 have c := c.wrote p (c.ne f zi)
 have d := d.wrote p (d.ne f zi)
 have f := p.here
 refine nR (zG (zG (zr (pt a 0) (zr (pt a 8) (yY (k := .i64) a 8 (atW kc) Try.underlying84 zk (by first | exact zJ _ | omega) zk zk (yQ a (8 + (atW kc) * 1) (.bool false) (wl (up paP (atW kc) (pt l 0)) (up paR (atW kc) ak) paN) _ 86 zk zk rfl zk f (wl_ln (by first | exact zJ _ | omega)) (wl_tn _ (by first | exact zJ _ | omega)) ?_))))))
 intro a6 n
 replace i := Nat.le_trans i (Nat.le_of_eq n.size.symm)
 have b := zC b n (zH b f zi)
 have c := c.wrote n (c.ne f zi)
 have d := d.wrote n (d.ne f zi)
 have f := n.here
 refine nR (zG (zr (.bool true) (zI (nQ (yB (yG (zP (yJ [(.bool true)] ?_))))))))
 show L _ _ _ _ _ _ (Fm.put _ _ (.bool true)) _
 refine zI (nQ (yB (yG (zP (yJ [(.bool true)] ?_)))))
 have er : (overF eqS ([] : List SpS) ([] : List SpS)) = (overF eqS ([] : List SpS) ([] : List SpS)) := by rfl
 have ed : (ovrD [] []) = (ovrD ([] : List DoneV) ([] : List DoneV)) := by rfl
 replace hc := (((hc.trans2 (Ch.of_below r) (fun _ h => h.elim)).trans2 (Ch.of_wrote o) (fun k e => e ▸ ai)).trans2 (Ch.of_wrote p) (fun k e => e ▸ ai)).trans2 (Ch.of_wrote n) (fun k e => e ▸ ai)
 exact ⟨l, an, ak, rfl, f, b, ag, c.cast er, af, d.cast ed, hc⟩
end Go.Proofs.Ythjgnnfonofgkaa
end

/- === Wgwu === -/
section
/- Walks, written by my program walk.py out of the specification gwu.py: each theorem says what one function returns and that it leaves memory as it was. -/
namespace Go.Proofs.Ythjgnnfonofgkaa
open Go Go.RowKit Go.FK
set_option maxHeartbeats 4000000
set_option maxRecDepth 100000
theorem c_turnC (a7 u al a9 a8 : Nat) (az : Value) (xs : List SpT) (be : Value) (ls : List StrV) (do_ ka kb kc few lo hi : Int) (val : List UInt8) (B_ : Nat) (w : World) (hs0 : B_ ≤ w.heap.size) (z : w.heap[a7]? = some (.cells [az, (.bool true)].toArray 136 (0, 0))) (dv : B_ ≤ a7) (d : w.heap[u]? = some (.cells [(.bool true)].toArray 4 (0, 0))) (db : B_ ≤ u) (m : w.heap[al]? = some (.cells [(I6 0)].toArray 3 (0, 0))) (dg : B_ ≤ al) (aa : w.heap[a9]? = some (.cells [be].toArray 147 (0, 0))) (d3 : B_ ≤ a9) (ab : w.heap[a8]? = some (.cells [(I6 do_), (I6 ka), (I6 kb), (I6 kc), (I6 few), (I3 lo), (I3 hi), (S val)].toArray 44 (0, 0))) (dy : B_ ≤ a8) (j : Row w B_ 138 3 encSpanS az xs) (o : Row w B_ 183 4 encD be ls) (hrx : RiseG 0 xs) (hlm : ls = xs.map spS) (hvl : ∀ s ∈ xs, s.2.2.length ≤ 2097152) :
  Calls Try.prog 119 #[(pt a7 0), (.func (.func 120) #[] #[(pt u 0), (pt al 0), (pt a9 0), (pt a8 0)])] w (Ret fun v w' => ∃ (cb0 : Nat) (q0 : Value), v = (pt cb0 0) ∧ w'.heap[cb0]? = some (.cells [q0, (.bool true)].toArray 136 (0, 0)) ∧ w.heap.size ≤ cb0 ∧ Row w' B_ 138 3 encSpanS q0 (turnAll eqS (trnV few) xs) ∧ (∀ g, Value.ownBlock q0 = some g → w.heap.size ≤ g) ∧ w'.heap[u]? = some (.cells [(.bool true)].toArray 4 (0, 0)) ∧ w'.heap[al]? = some (.cells [(N6 xs.length)].toArray 3 (0, 0)) ∧ Ch (fun k => k = u ∨ k = al) w w') := by
 refine enterM (args := [(pt a7 0), (.func (.func 120) #[] #[(pt u 0), (pt al 0), (pt a9 0), (pt a8 0)])]) Try.func119 rfl (zk : _ = 24) zk ?_
 have hb := Below.refl B_ w
 have hs : B_ ≤ (World.heap w).size := hs0
 have hc := Ch.refl (fun k => k = u ∨ k = al) w
 have cm : (World.heap w).size ≤ u ∨ (fun k => k = u ∨ k = al) u := .inr (.inl rfl)
 have c8 : (World.heap w).size ≤ al ∨ (fun k => k = u ∨ k = al) al := .inr (.inr rfl)
 have du := hrx.len
 have d8 : ls.length = xs.length := by rw [hlm, List.length_map]
 refine wR (zN [(.func (.func 120) #[] #[(pt u 0), (pt al 0), (pt a9 0), (pt a8 0)])] 185 ?_)
 intro b1 w2 a2
 have dk : B_ ≤ b1 := by rw [a2.num]; exact hs
 have di : (World.heap w).size ≤ b1 ∨ (fun k => k = u ∨ k = al) b1 := .inl (by rw [a2.num]; exact hc.size)
 have hb := hb.trans (a2.below.mono hs)
 replace hs := Nat.le_trans hs (a2.below.size)
 have p := a2.here
 refine zI (nR (zc (qZ  _ ) ?_))
 replace hc := hc.trans2 (Ch.of_below a2.below) (fun _ h => h.elim)
 rintro _ w4 ⟨a3, rfl, b, a1, a5⟩
 have z := zA z a2.below
 have b2 := NE_ge (yD z) a1
 have bg : (World.heap w).size ≤ a3 ∨ (fun k => k = u ∨ k = al) a3 := .inl (Nat.le_trans hc.size a1)
 replace a1 := Nat.le_trans hs a1
 have hb := hb.trans (a5.mono hs)
 replace hs := Nat.le_trans hs (a5.size)
 refine zN [(.pointer none)] 66 ?_
 intro b8 w9 ap
 have dc : B_ ≤ b8 := by rw [ap.num]; exact hs
 replace hc := hc.trans2 (Ch.of_below a5) (fun _ h => h.elim)
 have cp : (World.heap w).size ≤ b8 ∨ (fun k => k = u ∨ k = al) b8 := .inl (by rw [ap.num]; exact hc.size)
 have hb := hb.trans (ap.below.mono hs)
 replace hs := Nat.le_trans hs (ap.below.size)
 have i := ap.here
 refine z1 0 (pt a3 0) [(pt a3 0)] i ?_
 intro d2 aw
 replace hs := Nat.le_trans hs (Nat.le_of_eq aw.size.symm)
 have z := zA (zA z a5) ap.below
 have z := zC z aw (zH z i zi)
 have d := zA (zA (zA d a2.below) a5) ap.below
 have d := zC d aw (zH d i zi)
 have m := zA (zA (zA m a2.below) a5) ap.below
 have m := zC m aw (zH m i zi)
 have aa := zA (zA (zA aa a2.below) a5) ap.below
 have aa := zC aa aw (zH aa i zi)
 have ab := zA (zA (zA ab a2.below) a5) ap.below
 have ab := zC ab aw (zH ab i zi)
 have p := zA (zA p a5) ap.below
 have p := zC p aw (zH p i zi)
 have b := zA b ap.below
 have b := zC b aw (zH b i zi)
 have j := ((j.below a2.below).below a5).below ap.below
 have j := j.wrote aw (j.ne i zi)
 have o := ((o.below a2.below).below a5).below ap.below
 have o := o.wrote aw (o.ne i zi)
 have i := aw.here
 refine nW (wR (zG (zc (c_all_S a7 az xs _ z j.rd) ?_)))
 replace hc := (hc.trans2 (Ch.of_below ap.below) (fun _ h => h.elim)).trans2 (Ch.of_wrote aw) (fun k e => e ▸ cp)
 rintro _ af ⟨a4, rfl, f, bf, ar⟩
 have c6 : (World.heap w).size ≤ a4 ∨ (fun k => k = u ∨ k = al) a4 := .inl (Nat.le_trans hc.size bf)
 replace bf := Nat.le_trans hs bf
 have hb := hb.trans (aw.below dc)
 have hb := hb.trans (ar.mono hs)
 replace hs := Nat.le_trans hs (ar.size)
 refine nQ (yC ?_)
 have z := zA z ar
 have bh : a7 < af.heap.size := yD z
 have d := zA d ar
 have bl : u < af.heap.size := yD d
 have m := zA m ar
 have br : al < af.heap.size := yD m
 have aa := zA aa ar
 have bu : a9 < af.heap.size := yD aa
 have ab := zA ab ar
 have bw : a8 < af.heap.size := yD ab
 have p := zA p ar
 have bj : b1 < af.heap.size := yD p
 have b := zA b ar
 have bc : a3 < af.heap.size := yD b
 have i := zA i ar
 have bk : b8 < af.heap.size := yD i
 have a0 : a4 < af.heap.size := yD f
 have ck := hs
 replace hc := hc.trans2 (Ch.of_below ar) (fun _ h => h.elim)
 have bo := hc.size
 have dl := hb
 have j := j.below ar
 refine wQ 72 [(pt a4 0)] xs zk (fun _ _ => rfl) (it_all_S a4 a7 az xs (by first | omega | (simp; done))) ⟨f, z, j.rd⟩ ((fun D A B h hc hd => ⟨zL h.1 hc (fun h => Nat.not_lt.2 (hd _ h) a0), zL h.2.1 hc (fun h => Nat.not_lt.2 (hd _ h) bh), Rd.ch j.rd (Nat.le_refl _) h.2.2 hc hd⟩)) (by intro x; rfl) (fun K cb A => ∃ (mm : List SpT) (n : Nat) (q : Value), (A.heap[a7]? = some (.cells [az, (.bool true)].toArray 136 (0, 0))) ∧ (A.heap[u]? = some (.cells [(.bool true)].toArray 4 (0, 0))) ∧ (A.heap[al]? = some (.cells [(N6 n)].toArray 3 (0, 0))) ∧ (A.heap[a9]? = some (.cells [be].toArray 147 (0, 0))) ∧ (A.heap[a8]? = some (.cells [(I6 do_), (I6 ka), (I6 kb), (I6 kc), (I6 few), (I3 lo), (I3 hi), (S val)].toArray 44 (0, 0))) ∧ (A.heap[b1]? = some (.cells [(.func (.func 120) #[] #[(pt u 0), (pt al 0), (pt a9 0), (pt a8 0)])].toArray 185 (0, 0))) ∧ (A.heap[a3]? = some (.cells [q, (.bool true)].toArray 136 (0, 0))) ∧ (A.heap[b8]? = some (.cells [(pt a3 0)].toArray 66 (0, 0))) ∧ (A.heap[a4]? = some (.cells [(pt a7 0)].toArray 66 (0, 0))) ∧ (Row A B_ 138 3 encSpanS az xs) ∧ (∀ g, Value.ownBlock az = some g → ¬ Iv af.heap.size K g) ∧ (Row A B_ 183 4 encD be ls) ∧ (∀ g, Value.ownBlock be = some g → ¬ Iv af.heap.size K g) ∧ (∀ g, Value.ownBlock q = some g → (World.heap w).size ≤ g ∨ (fun k => k = u ∨ k = al) g) ∧ (Row A B_ 138 3 encSpanS q mm) ∧ (∀ g, Value.ownBlock q = some g → ¬ Iv af.heap.size K g) ∧ (Value.ownBlock az = none ∨ Value.ownBlock az ≠ Value.ownBlock q) ∧ (Value.ownBlock q = none ∨ Value.ownBlock q ≠ Value.ownBlock az) ∧ (Below B_ w A) ∧ (Ch (fun k => k = u ∨ k = al) w A) ∧ (mm = turnAll eqS (trnV few) cb) ∧ (RiseG 0 mm) ∧ (n = cb.length)) (fun K c cb A => False) ?_ ?_ ?_ ?_ ?_ ?_
 ·intro A hA
  have o := o.below ar
  exact ⟨[], 0, (.slice none 0 0), zA z hA, zA d hA, zA m hA, zA aa hA, zA ab hA, zA p hA, zA b hA, zA i hA, zA f hA, j.below hA, qE j _, o.below hA, qE o _, dr_nil _, Row.nil _ _ _ _ _, nr_nil _ _, qD _, (.inl rfl), hb.trans (hA.mono hs), hc.trans2 (Ch.of_below hA) (fun _ h => h.elim), by rfl, by trivial, by rfl⟩
 ·rintro K cb A B ⟨mm, n, q, z, d, m, aa, ab, p, b, i, f, j, au, o, av, ad, a, ae, t, ak, hb, cc, r1, r2, pn⟩ hc
  exact ⟨mm, n, q, zL z hc (fun h => Nat.not_lt.2 h.1 bh), zL d hc (fun h => Nat.not_lt.2 h.1 bl), zL m hc (fun h => Nat.not_lt.2 h.1 br), zL aa hc (fun h => Nat.not_lt.2 h.1 bu), zL ab hc (fun h => Nat.not_lt.2 h.1 bw), zL p hc (fun h => Nat.not_lt.2 h.1 bj), zL b hc (fun h => Nat.not_lt.2 h.1 bc), zL i hc (fun h => Nat.not_lt.2 h.1 bk), zL f hc (fun h => Nat.not_lt.2 h.1 a0), j.ch hc au, au, o.ch hc av, av, ad, a.ch hc ae, ae, t, ak, hc.below hb (Nat.le_trans hs0 hb.size) (fun k h => Nat.le_trans ck h.1), cc.trans2 hc (fun k h => .inl (Nat.le_trans bo h.1)), r1, r2, pn⟩
 ·intro K c _ A B h hc; exact h.elim
 ·intro l K cb x A hi hN dw hK bq
  obtain ⟨mm, n, q, z, d, m, aa, ab, p, b, i, f, j, au, o, av, ad, a, ae, t, ak, hb, cc, r1, r2, pn⟩ := hi
  have hs := Nat.le_trans hs0 hb.size
  have hc := cc
  have hk := Kp.refl (af.heap.size) K A
  have c9 : ¬ Iv (af.heap.size) K a7 := fun h => Nat.not_lt.2 h.1 bh
  have cd : ¬ Iv (af.heap.size) K u := fun h => Nat.not_lt.2 h.1 bl
  have cj : ¬ Iv (af.heap.size) K al := fun h => Nat.not_lt.2 h.1 br
  have c5 : ¬ Iv (af.heap.size) K a9 := fun h => Nat.not_lt.2 h.1 bu
  have cy : ¬ Iv (af.heap.size) K a8 := fun h => Nat.not_lt.2 h.1 bw
  have co : ¬ Iv (af.heap.size) K b1 := fun h => Nat.not_lt.2 h.1 bj
  have bx : ¬ Iv (af.heap.size) K a3 := fun h => Nat.not_lt.2 h.1 bc
  have cn : ¬ Iv (af.heap.size) K b8 := fun h => Nat.not_lt.2 h.1 bk
  have cf : ¬ Iv (af.heap.size) K a4 := fun h => Nat.not_lt.2 h.1 a0
  have f := hN.1
  have z := hN.2.1
  have hx := hrx.pre bq
  have dr := tk_lt bq
  have dn := hvl _ (tk_mem bq)
  refine wR (zN [(I3 0), (I3 0)] 29 ?_)
  intro ci dq ac
  have c3 : B_ ≤ ci := by rw [ac.num]; exact hs
  have cl : (World.heap w).size ≤ ci ∨ (fun k => k = u ∨ k = al) ci := .inl (by rw [ac.num]; exact hc.size)
  have b5 : ¬ Iv af.heap.size K ci := fun h => by have := h.2; have := ac.num; omega
  have hb := hb.trans (ac.below.mono hs)
  replace hk := hk.ch (Ch.of_below ac.below) hK (fun _ h => h.elim)
  replace hK := Nat.le_trans hK (ac.below.size)
  replace hs := Nat.le_trans hs (ac.below.size)
  have r := ac.here
  refine qC [(I3 x.1), (I3 x.2.1)] r ?_
  intro dz aj
  replace hk := hk.ch (Ch.of_wrote aj) hK (fun k e h => b5 (e ▸ h))
  replace hK := Nat.le_trans hK (Nat.le_of_eq aj.size.symm)
  replace hs := Nat.le_trans hs (Nat.le_of_eq aj.size.symm)
  have z := zA z ac.below
  have z := zC z aj (zH z r zi)
  have d := zA d ac.below
  have d := zC d aj (zH d r zi)
  have m := zA m ac.below
  have m := zC m aj (zH m r zi)
  have aa := zA aa ac.below
  have aa := zC aa aj (zH aa r zi)
  have ab := zA ab ac.below
  have ab := zC ab aj (zH ab r zi)
  have p := zA p ac.below
  have p := zC p aj (zH p r zi)
  have b := zA b ac.below
  have b := zC b aj (zH b r zi)
  have i := zA i ac.below
  have i := zC i aj (zH i r zi)
  have f := zA f ac.below
  have f := zC f aj (zH f r zi)
  have j := j.below ac.below
  have j := j.wrote aj (j.ne r zi)
  have o := o.below ac.below
  have o := o.wrote aj (o.ne r zi)
  have a := a.below ac.below
  have a := a.wrote aj (a.ne r zi)
  have r := aj.here
  refine nQ (zW (zI (zR (zB ⟨hk, ?_⟩))))
  intro dh am
  have hb := hb.trans (aj.below c3)
  have hb := am.below hb hs (fun k h => Nat.le_trans ck h.1)
  replace hs := Nat.le_trans hs0 hb.size
  replace hK := Nat.le_trans hK am.size
  replace hk := Kp.refl (af.heap.size) K dh
  have p := zL p am co
  refine yC (wR (zI (nW (wR (zO 0 p rfl (zr (.bool true) (nQ (zT (zW (zO 0 p rfl (zG (qW 120 [(S x.2.2), (pt u 0), (pt al 0), (pt a9 0), (pt a8 0)] zk zk (wL 29 Try.func120 rfl ?_)))))))))))))
  have aa := zL aa am c5
  have m := zL m am cj
  have d := zL d am cd
  have o := o.ch am av
  refine wR (zI (nR (zO 0 d rfl (zG (zw (zO 0 m rfl (zw (zO 0 aa rfl (zw (vI Try.underlying147 (o.rd).len (zw (nLt n ((ls).length) ?_ ?_))))))))))))
  ·intro dt
   refine xN (zG (zw (zG (zw (zO 0 aa rfl (zw (zO 0 m rfl (zw ?_))))))))
   have hz := yN ls n (by first | omega | (simp; done)); obtain ⟨cz, c0⟩ := hz
   have hz := (o.rd).at (k := 4) zj c0
   obtain ⟨cq, bn, c1, c2⟩ := hz
   refine xO (k := .i64) be n _ cq bn xK c1 (by first | omega | (simp; done)) zk zk (zw (zr (pt cq ((bn + n * 4) + 2)) (zw (yK cq ((bn + n * 4) + 2) (S cz.2.2.1) zk zk (c2 2 _ rfl) (zw (vC x.2.2 cz.2.2.1 rfl zk zk ?_ ?_))))))
   ·intro d7
    refine xN (z1 0 (.bool true) [(.bool true)] d ?_)
    intro dp ah
    replace hk := hk.ch (Ch.of_wrote ah) hK (fun k e h => cd (e ▸ h))
    replace hK := Nat.le_trans hK (Nat.le_of_eq ah.size.symm)
    replace hs := Nat.le_trans hs (Nat.le_of_eq ah.size.symm)
    have z := zL z am c9
    have z := zC z ah (zH z d zi)
    have m := zC m ah (zH m d zi)
    have aa := zC aa ah (zH aa d zi)
    have ab := zL ab am cy
    have ab := zC ab ah (zH ab d zi)
    have p := zC p ah (zH p d zi)
    have b := zL b am bx
    have b := zC b ah (zH b d zi)
    have i := zL i am cn
    have i := zC i ah (zH i d zi)
    have f := zL f am cf
    have f := zC f ah (zH f d zi)
    have r := zL r am b5
    have r := zC r ah (zH r d zi)
    have j := j.ch am au
    have j := j.wrote ah (j.ne d zi)
    have o := o.wrote ah (o.ne d zi)
    have a := a.ch am ae
    have a := a.wrote ah (a.ne d zi)
    have d := ah.here
    refine nR (zO 0 m rfl (vG n 1 (z1 0 (N6 (n + 1)) [(N6 (n + 1))] m ?_)))
    intro dx ai
    replace hk := hk.ch (Ch.of_wrote ai) hK (fun k e h => cj (e ▸ h))
    replace hK := Nat.le_trans hK (Nat.le_of_eq ai.size.symm)
    replace hs := Nat.le_trans hs (Nat.le_of_eq ai.size.symm)
    have z := zC z ai (zH z m zi)
    have d := zC d ai (zH d m zi)
    have aa := zC aa ai (zH aa m zi)
    have ab := zC ab ai (zH ab m zi)
    have p := zC p ai (zH p m zi)
    have b := zC b ai (zH b m zi)
    have i := zC i ai (zH i m zi)
    have f := zC f ai (zH f m zi)
    have r := zC r ai (zH r m zi)
    have j := j.wrote ai (j.ne m zi)
    have o := o.wrote ai (o.ne m zi)
    have a := a.wrote ai (a.ne m zi)
    have m := ai.here
    refine nR (zG (wB 4 ab rfl (zc (c_turned x.2.2 few _ (by first | omega | (simp; done))) ?_)))
    replace hc := ((((hc.trans2 (Ch.of_below ac.below) (fun _ h => h.elim)).trans2 (Ch.of_wrote aj) (fun k e => e ▸ cl)).trans2 am (fun k h => .inl (Nat.le_trans bo h.1))).trans2 (Ch.of_wrote ah) (fun k e => e ▸ cm)).trans2 (Ch.of_wrote ai) (fun k e => e ▸ c8)
    rintro _ d4 ⟨rfl, ag⟩
    have hb := (hb.trans (ah.below db)).trans (ai.below dg)
    have hb := hb.trans (ag.mono hs)
    replace hk := hk.ch (Ch.of_below ag) hK (fun _ h => h.elim)
    replace hK := Nat.le_trans hK (ag.size)
    replace hs := Nat.le_trans hs (ag.size)
    refine zI (nQ (yB (yJ [(S (trnV few x.2.2))] ?_)))
    show L _ _ _ _ _ _ (Fm.put _ _ (S (trnV few x.2.2))) _
    have b := zA b ag
    have i := zA i ag
    have r := zA r ag
    have a := a.below ag
    refine zI (nQ (zW (zO 0 i rfl (wG r (zG (zc (qY a3 q mm x.1 x.2.1 (trnV few x.2.2) B_ _ hs b a1 a (by exact r2) (by first | omega | (simp; done)) (by first | omega | (simp; done))) ?_))))))
    replace hc := hc.trans2 (Ch.of_below ag) (fun _ h => h.elim)
    rintro _ d0 ⟨cr, rfl, da, ct, b6, an⟩
    have b4 : ∀ g, Value.ownBlock cr = some g → (World.heap w).size ≤ g ∨ (fun k => k = u ∨ k = al) g := fun g hg => (b6 g hg).elim (fun x => .inl (Nat.le_trans hc.size x)) (fun x => x.elim (fun x => x ▸ bg) (fun x => ad g x))
    have c4 : ∀ k, Dm a3 q k → ¬ Iv (af.heap.size) K k := fun k e => e.elim (fun x => by rw [x]; exact bx) (fun x => ae k x)
    have b0 : ∀ g, Value.ownBlock cr = some g → ¬ Iv (af.heap.size) K g := fun g hg => (b6 g hg).elim (fun x y => by have := y.2; omega) (fun e => c4 g e)
    replace hk := hk.ch an hK c4
    replace hK := Nat.le_trans hK an.size
    have hb := an.below hb hs (fun k e => e.elim (fun x => x ▸ a1) (fun x => (World.ownsRow.lt a k x).1))
    replace hs := Nat.le_trans hs an.size
    have z := zA z ag
    have b7 := yH z an b2 (a.ne z zi)
    have d := zA d ag
    have bp := yH d an (zH d b zi) (a.ne d zi)
    have m := zA m ag
    have ce := yH m an (zH m b zi) (a.ne m zi)
    have aa := zA aa ag
    have b9 := yH aa an (zH aa b zi) (a.ne aa zi)
    have ab := zA ab ag
    have ca := yH ab an (zH ab b zi) (a.ne ab zi)
    have p := zA p ag
    have bz := yH p an (zH p b zi) (a.ne p zi)
    have bt := yH i an (zH i b zi) (a.ne i zi)
    have f := zA f ag
    have bd := yH f an (zH f b zi) (a.ne f zi)
    have dd := yH r an (zH r b zi) (a.ne r zi)
    have j := j.below ag
    have ax := ap_mut j b6 (j.ne b zi) t; have a6 := yW ax
    have bs := j.ch_mut an (j.ne b zi) t
    have o := o.below ag
    have bv := o.ch_mut an (o.ne b zi) (o.apart a zk)
    have z := b7; clear b7
    have d := bp; clear bp
    have m := ce; clear ce
    have aa := b9; clear b9
    have ab := ca; clear ca
    have p := bz; clear bz
    have i := bt; clear bt
    have f := bd; clear bd
    have j := bs; clear bs
    have o := bv; clear bv
    have b := da
    refine zR (zS ?_)
    replace hc := hc.trans2 an (fun k e => e.elim (fun x => x ▸ bg) (fun x => ad k x))
    refine yU hk ⟨f, z, j.rd⟩ ⟨(layF eqS mm x.1 x.2.1 (trnV few x.2.2)), (n + 1), cr, z, d, m, aa, ab, p, b, i, f, j, au, o, av, b4, ct, b0, ax, a6, hb, hc, ?_, ?_, ?_⟩
    ·first | (rw [r1]; exact (turnAll_snoc _ _ _).symm)
    ·exact wU r2
    simp [pn]
   intro de
   exfalso; exact de (tk_val hlm bq pn za)
  intro d5
  exfalso; omega
 ·intro K A hi d6 bi
  obtain ⟨mm, n, q, z, d, m, aa, ab, p, b, i, f, j, au, o, av, ad, a, ae, t, ak, hb, cc, r1, r2, pn⟩ := hi
  have hs := Nat.le_trans hs0 hb.size
  have hc := cc
  have cs : (World.heap w).size ≤ af.heap.size ∨ (fun k => k = u ∨ k = al) (af.heap.size) := .inl bo
  refine zS (zB (wR (zO 0 i rfl (zI (nQ (yB (wC (ds := [⟨.collected af.heap.size, #[]⟩]) zk (xC bi ?_))))))))
  intro d9 ba
  replace hs := Nat.le_trans hs (Nat.le_of_eq ba.size.symm)
  have d := zC d ba (zH d bi zi)
  have m := zC m ba (zH m bi zi)
  have b := zC b ba (zH b bi zi)
  have a := a.wrote ba (a.ne bi zi)
  refine wW [.tmp 4] [(pt a3 0)] rfl ⟨zk, trivial⟩ ?_
  have er : mm = (turnAll eqS (trnV few) xs) := by first | exact r1 | (rw [pn]; done) | rfl
  have en : n = xs.length := by first | exact r1 | (rw [pn]; done) | rfl
  rw [en] at m
  replace hc := hc.trans2 (Ch.of_wrote ba) (fun k e => e ▸ cs)
  exact ⟨a3, q, rfl, b, (turn_new bg b d m zi zi), a.cast er, (turn_row ad a d m zk zk), d, m, hc⟩
 intro K c _ x A _ h; exact h.elim
theorem c_turn_nil (c0_one c1_one c2_one c3_one : Nat) (w : World) :
  Calls Try.prog 119 #[(.pointer none), (.func (.func 120) #[] #[(pt c0_one 0), (pt c1_one 0), (pt c2_one 0), (pt c3_one 0)])] w (Ret fun v w' => ∃ (q0 : Value) (cb0 : Nat), v = (pt cb0 0) ∧ Row w' w.heap.size 138 3 encSpanS q0 ([] : List SpS) ∧ w'.heap[cb0]? = some (.cells [q0, (.bool true)].toArray 136 (0, 0)) ∧ w.heap.size ≤ cb0 ∧ Below w.heap.size w w') := by
 refine enterM (args := [(.pointer none), (.func (.func 120) #[] #[(pt c0_one 0), (pt c1_one 0), (pt c2_one 0), (pt c3_one 0)])]) Try.func119 rfl (zk : _ = 24) zk ?_
 have n := Below.refl w.heap.size w
 refine wR (zN [(.func (.func 120) #[] #[(pt c0_one 0), (pt c1_one 0), (pt c2_one 0), (pt c3_one 0)])] 185 ?_)
 intro b1 w2 ah
 have ax := ah.ge n.size
 have f := ah.here
 refine zI (nR (zc (qZ  _ ) ?_))
 rintro _ w4 ⟨q, rfl, a, y, al⟩
 have n := n.tr ah.below
 replace y := Nat.le_trans n.size y
 refine zN [(.pointer none)] 66 ?_
 intro b8 w9 s
 have n := n.tr al
 have aj := s.ge n.size
 have i := s.here
 refine z1 0 (pt q 0) [(pt q 0)] i ?_
 intro a2 z
 have f := zA (zA f al) s.below
 have f := zC f z (zH f i zi)
 have a := zA a s.below
 have a := zC a z (zH a i zi)
 have i := z.here
 refine nW (wR (zG (zc (vD  _ ) ?_)))
 rintro _ o ⟨u, rfl, j, aa, ab⟩
 have n := (n.tr s.below).trans (z.below aj)
 replace aa := Nat.le_trans n.size aa
 refine nQ (yC ?_)
 have f := zA f ab
 have t : b1 < o.heap.size := yD f
 have a := zA a ab
 have p : q < o.heap.size := yD a
 have i := zA i ab
 have r : b8 < o.heap.size := yD i
 have m : u < o.heap.size := yD j
 have n := n.tr ab
 have af := n.size
 have ay := n
 refine wQ 72 [(pt u 0)] ([] : List SpS) zk (fun _ _ => rfl) (qQ u ) j ((fun D A B h hc hd => zL h hc (fun h => Nat.not_lt.2 (hd _ h) m))) (by intro x; rfl) (fun K ag A => ∃ (mm : List SpT) (b : Value), (A.heap[b1]? = some (.cells [(.func (.func 120) #[] #[(pt c0_one 0), (pt c1_one 0), (pt c2_one 0), (pt c3_one 0)])].toArray 185 (0, 0))) ∧ (A.heap[q]? = some (.cells [b, (.bool true)].toArray 136 (0, 0))) ∧ (A.heap[b8]? = some (.cells [(pt q 0)].toArray 66 (0, 0))) ∧ (A.heap[u]? = some (.cells [(.pointer none)].toArray 66 (0, 0))) ∧ (Row A w.heap.size 138 3 encSpanS b mm) ∧ (∀ g, Value.ownBlock b = some g → ¬ Iv o.heap.size K g) ∧ (Below w.heap.size w A) ∧ (mm = [])) (fun K c ag A => False) ?_ ?_ ?_ ?_ ?_ ?_
 ·intro A hA
  exact ⟨[], (.slice none 0 0), zA f hA, zA a hA, zA i hA, zA j hA, Row.nil _ _ _ _ _, nr_nil _ _, n.trans (hA.mono n.size), by rfl⟩
 ·rintro K ag A B ⟨mm, b, f, a, i, j, d, e, n, r1⟩ hc
  exact ⟨mm, b, zL f hc (fun h => Nat.not_lt.2 h.1 t), zL a hc (fun h => Nat.not_lt.2 h.1 p), zL i hc (fun h => Nat.not_lt.2 h.1 r), zL j hc (fun h => Nat.not_lt.2 h.1 m), d.ch hc e, e, hc.below n n.size (fun k h => Nat.le_trans af h.1), r1⟩
 ·intro K c _ A B h hc; exact h.elim
 ·intro l K ag x A hi hN az hK am
  obtain ⟨mm, b, f, a, i, j, d, e, n, r1⟩ := hi
  have hk := Kp.refl (o.heap.size) K A
  have aq : ¬ Iv (o.heap.size) K b1 := fun h => Nat.not_lt.2 h.1 t
  have ap : ¬ Iv (o.heap.size) K q := fun h => Nat.not_lt.2 h.1 p
  have av : ¬ Iv (o.heap.size) K b8 := fun h => Nat.not_lt.2 h.1 r
  have an : ¬ Iv (o.heap.size) K u := fun h => Nat.not_lt.2 h.1 m
  exfalso; exact tk_no am
 ·intro K A hi a0 ad
  obtain ⟨mm, b, f, a, i, j, d, e, n, r1⟩ := hi
  refine zS (zB (wR (zO 0 i rfl (zI (nQ (yB (wC (ds := [⟨.collected o.heap.size, #[]⟩]) zk (xC ad ?_))))))))
  intro a1 ac
  have a := zC a ac (zH a ad zi)
  have d := d.wrote ac (d.ne ad zi)
  refine wW [.tmp 4] [(pt q 0)] rfl ⟨zk, trivial⟩ ?_
  have n := n.trans (ac.below af)
  exact ⟨b, q, rfl, d.cast (by first | exact r1 | rfl), a, y, n⟩
 intro K c _ x A _ h; exact h.elim
theorem s_turn (r : Nat) (paP paR paN : Nat → Value) (ka : Int) (kb : Int) (kc : Int) (few : Int) (lo : Int) (hi : Int) (val : List UInt8) (bj : Value) (ds : List (Int × Int × List UInt8 × Bool)) (bk : Nat) (bb : Value) (xs : List (Int × Int × List UInt8)) (B_ : Nat) (w : World) (hs0 : B_ ≤ w.heap.size) (o : w.heap[r]? = some (.cells (wl paP paR paN).toArray 86 (0, 0))) (da : B_ ≤ r) (hw_p_0 : paP (atW ka) = (pt bk 0)) (hw_r_1 : paR (atW ka) = bj) (hw_n_2 : paN (atW ka) = (.bool false)) (bo : Rx w 0 187 4 encD bj ds) (aa : w.heap[bk]? = some (.cells [bb, (.bool true)].toArray 136 (0, 0))) (ct : B_ ≤ bk) (t : Row w B_ 138 3 encSpanS bb xs) (hrel : Rel xs ds) (hln : ds.length ≤ 1073741822) (hvl : ∀ s ∈ xs, s.2.2.length ≤ 2097152) :
  Calls Try.prog 42 #[(pt r 0), (Value.agg #[(I6 9), (I6 ka), (I6 kb), (I6 kc), (I6 few), (I3 lo), (I3 hi), (S val)])] w (Ret fun v w' => ∃ (cb0 : Nat) (q0 : Value) (v1 : Value), v = .bool true ∧ w'.heap[r]? = some (.cells (wl (up paP (atW kb) (pt cb0 0)) (up paR (atW kb) v1) (up paN (atW kb) (.bool false))).toArray 86 (0, 0)) ∧ w'.heap[cb0]? = some (.cells [q0, (.bool true)].toArray 136 (0, 0)) ∧ ((World.heap w).size ≤ cb0 ∨ (fun k => k = r) cb0) ∧ Row w' B_ 138 3 encSpanS q0 (turnAll eqS (trnV few) xs) ∧ (∀ g, Value.ownBlock q0 = some g → (World.heap w).size ≤ g ∨ (fun k => k = r) g) ∧ Rx w' 0 187 4 encD v1 (trnD few ds) ∧ Ch (fun k => k = r) w w') := by
 refine wL 109 Try.func42 rfl ?_
 have hb := Below.refl B_ w
 have y : B_ ≤ (World.heap w).size := hs0
 have hc := Ch.refl (fun k => k = r) w
 have bt : (World.heap w).size ≤ r ∨ (fun k => k = r) r := .inr rfl
 have dg := hrel.rise.len
 have cp := hrel.ok
 have cs := hrel.rise
 have cz := ptsF_len (strF ds)
 have ck := vK cp
 have b2 := hrel.pts
 have cu := pts_val b2 hvl
 refine wR (zN [(I6 9), (I6 ka), (I6 kb), (I6 kc), (I6 few), (I3 lo), (I3 hi), (S val)] 44 ?_)
 intro b1 w2 a8
 have cw : B_ ≤ b1 := by rw [a8.num]; exact y
 have cv : (World.heap w).size ≤ b1 ∨ (fun k => k = r) b1 := .inl (by rw [a8.num]; exact hc.size)
 have hb := hb.trans (a8.below.mono y)
 replace y := Nat.le_trans y (a8.below.size)
 have q := a8.here
 refine zI (nR (wB 1 q rfl (zc (xB ka _ ) ?_)))
 replace hc := hc.trans2 (Ch.of_below a8.below) (fun _ h => h.elim)
 rintro _ w4 ⟨rfl, ba⟩
 have hb := hb.trans (ba.mono y)
 replace y := Nat.le_trans y (ba.size)
 have q := zA q ba
 refine zI (nW (wR (wB 0 q rfl (nQ (yC (yA (wR (zr (.bool false) (zI (nQ (zF (wR (zr (.bool false) (zI (nQ (zF (wR (zr (.bool false) (zI (nQ (zF (wR (zr (.bool false) (zI (nQ (zF (zW (zr (.bool false) (zI (nQ (zF (wR (zr (.bool false) (zI (nQ (zF (yA (wR (zr (.bool false) (zI (nQ (zF (wR (zr (.bool false) (zI (nQ (zF (zW (zr (.bool true) (zI (nQ (zT (wR (zG (wG q (qW 80 [(pt r 0), (Value.agg #[(I6 9), (I6 ka), (I6 kb), (I6 kc), (I6 few), (I3 lo), (I3 hi), (S val)])] zk zk (wL 196 Try.func80 rfl (wR (zN [(I6 9), (I6 ka), (I6 kb), (I6 kc), (I6 few), (I3 lo), (I3 hi), (S val)] 44 ?_)))))))))))))))))))))))))))))))))))))))))))))))))))))))))))
 intro b7 w8 a4
 have bm : B_ ≤ b7 := by rw [a4.num]; exact y
 replace hc := hc.trans2 (Ch.of_below ba) (fun _ h => h.elim)
 have b8 : (World.heap w).size ≤ b7 ∨ (fun k => k = r) b7 := .inl (by rw [a4.num]; exact hc.size)
 have hb := hb.trans (a4.below.mono y)
 replace y := Nat.le_trans y (a4.below.size)
 have j := a4.here
 refine zI (nW (yV zk zk (zV (pt b7 1) zf (zX b7 1 (I6 ka) zk zf (zK j rfl) (yR 78 [(I6 ka)] (N6 (atW ka)) zg (fun wq hbq => xB ka wq ) (zV (pt b7 2) zf (zX b7 2 (I6 kb) zk zf (zK j rfl) (yR 78 [(I6 kb)] (N6 (atW kb)) zg (fun wq hbq => xB kb wq ) (zV (pt b7 3) zf (zX b7 3 (I6 kc) zk zf (zK j rfl) (yR 78 [(I6 kc)] (N6 (atW kc)) zg (fun wq hbq => xB kc wq ) (xA (xA (xA (yM ?_)))))))))))))))
 intro c6 av
 have hb := hb.trans (av.mono y)
 replace y := Nat.le_trans y (av.size)
 have o := zA (zA (zA (zA o a8.below) ba) a4.below) av
 have j := zA j av
 have bo := (((bo.below a8.below).below ba).below a4.below).below av
 refine zB (yA (wR (wB 0 j rfl (nQ (yC (wR (zr (.bool false) (zI (nQ (zF (wR (zr (.bool false) (zI (nQ (zF (wR (zr (.bool true) (zI (nQ (zT (wR (zG (zG (zr (pt r 0) (zr (pt r 4) (yY (k := .i64) r 4 (atW ka) Try.underlying83 zk (by first | exact zJ _ | omega) zk zk (yK r (4 + (atW ka) * 1) bj zk zk (zK o ((wl_r (by first | exact zJ _ | omega)).trans (congrArg some hw_r_1))) (zc (c_ptsF bj ds _ bo.rd (by first | omega | (simp; done)) (by exact cp)) ?_))))))))))))))))))))))))))))
 replace hc := (hc.trans2 (Ch.of_below a4.below) (fun _ h => h.elim)).trans2 (Ch.of_below av) (fun _ h => h.elim)
 rintro _ dm ⟨a6, bw, rfl, l, n, az⟩
 have b5 : ∀ g, Value.ownBlock a6 = some g → (World.heap w).size ≤ g ∨ (fun k => k = r) g := fun g hg => .inl (Nat.le_trans hc.size (World.ownsRow.lt l g hg).1)
 have b6 : ∀ g, Value.ownBlock bw = some g → (World.heap w).size ≤ g ∨ (fun k => k = r) g := fun g hg => .inl (Nat.le_trans hc.size (World.ownsRow.lt n g hg).1)
 have l := l.base y
 have n := n.base y
 have hb := hb.trans (az.mono y)
 replace y := Nat.le_trans y (az.size)
 refine zG (zr a6 (zr bw (zN [(.slice none 0 0)] 147 ?_)))
 intro a7 c3 ai
 have a9 : B_ ≤ a7 := by rw [ai.num]; exact y
 replace hc := hc.trans2 (Ch.of_below az) (fun _ h => h.elim)
 have bh : (World.heap w).size ≤ a7 ∨ (fun k => k = r) a7 := .inl (by rw [ai.num]; exact hc.size)
 have hb := hb.trans (ai.below.mono y)
 replace y := Nat.le_trans y (ai.below.size)
 have a := ai.here
 have l := l.below ai.below
 refine yQ a7 0 a6 [(.slice none 0 0)] [a6] 147 zk zk l.one zk a zi rfl ?_
 intro dh ap
 replace y := Nat.le_trans y (Nat.le_of_eq ap.size.symm)
 have o := zA (zA o az) ai.below
 have o := zC o ap (zH o a zi)
 have aa := zA (zA (zA (zA (zA (zA aa a8.below) ba) a4.below) av) az) ai.below
 have aa := zC aa ap (zH aa a zi)
 have q := zA (zA (zA (zA q a4.below) av) az) ai.below
 have q := zC q ap (zH q a zi)
 have j := zA (zA j az) ai.below
 have j := zC j ap (zH j a zi)
 have t := (((((t.below a8.below).below ba).below a4.below).below av).below az).below ai.below
 have t := t.wrote ap (t.ne a zi)
 have l := l.wrote ap (l.ne a zi)
 have n := n.below ai.below
 have n := n.wrote ap (n.ne a zi)
 have a := ap.here
 refine zI (nR (zN [(I6 0)] 3 ?_))
 intro bf dd ah
 have ax : B_ ≤ bf := by rw [ah.num]; exact y
 replace hc := (hc.trans2 (Ch.of_below ai.below) (fun _ h => h.elim)).trans2 (Ch.of_wrote ap) (fun k e => e ▸ bh)
 have a5 : (World.heap w).size ≤ bf ∨ (fun k => k = r) bf := .inl (by rw [ah.num]; exact hc.size)
 have hb := hb.trans (ap.below a9)
 have hb := hb.trans (ah.below.mono y)
 replace y := Nat.le_trans y (ah.below.size)
 have b := ah.here
 refine z1 0 (I6 0) [(I6 0)] b ?_
 intro de al
 replace y := Nat.le_trans y (Nat.le_of_eq al.size.symm)
 have o := zA o ah.below
 have o := zC o al (zH o b zi)
 have aa := zA aa ah.below
 have aa := zC aa al (zH aa b zi)
 have q := zA q ah.below
 have q := zC q al (zH q b zi)
 have j := zA j ah.below
 have j := zC j al (zH j b zi)
 have a := zA a ah.below
 have a := zC a al (zH a b zi)
 have t := t.below ah.below
 have t := t.wrote al (t.ne b zi)
 have l := l.below ah.below
 have l := l.wrote al (l.ne b zi)
 have n := n.below ah.below
 have n := n.wrote al (n.ne b zi)
 have b := al.here
 refine nR (zN [(.bool false)] 4 ?_)
 intro bc dk ag
 have ay : B_ ≤ bc := by rw [ag.num]; exact y
 replace hc := (hc.trans2 (Ch.of_below ah.below) (fun _ h => h.elim)).trans2 (Ch.of_wrote al) (fun k e => e ▸ a5)
 have a1 : (World.heap w).size ≤ bc ∨ (fun k => k = r) bc := .inl (by rw [ag.num]; exact hc.size)
 have hb := hb.trans (al.below ax)
 have hb := hb.trans (ag.below.mono y)
 replace y := Nat.le_trans y (ag.below.size)
 have c := ag.here
 refine z1 0 (.bool true) [(.bool true)] c ?_
 intro dj aj
 replace y := Nat.le_trans y (Nat.le_of_eq aj.size.symm)
 have o := zA o ag.below
 have o := zC o aj (zH o c zi)
 have aa := zA aa ag.below
 have aa := zC aa aj (zH aa c zi)
 have q := zA q ag.below
 have q := zC q aj (zH q c zi)
 have j := zA j ag.below
 have j := zC j aj (zH j c zi)
 have a := zA a ag.below
 have a := zC a aj (zH a c zi)
 have b := zA b ag.below
 have b := zC b aj (zH b c zi)
 have t := t.below ag.below
 have t := t.wrote aj (t.ne c zi)
 have l := l.below ag.below
 have l := l.wrote aj (l.ne c zi)
 have n := n.below ag.below
 have n := n.wrote aj (n.ne c zi)
 have c := aj.here
 refine nR (zG (zG (zr (pt r 0) (zr (pt r 0) (yY (k := .i64) r 0 (atW ka) Try.underlying80 zk (by first | exact zJ _ | omega) zk zk (yK r (0 + (atW ka) * 1) (pt bk 0) zk zk (zK o ((xP (by first | exact zJ _ | omega)).trans (congrArg some hw_p_0))) (zr (.func (.func 120) #[] #[(pt bc 0), (pt bf 0), (pt a7 0), (pt b7 0)]) (zc (c_turnC bk bc bf a7 b7 bb xs a6 (ptsF (strF ds)) 9 ka kb kc few lo hi val B_ _ y aa ct c ay b ax a a9 j bm t l (by exact cs) (by exact b2) (by exact hvl)) ?_))))))))
 replace hc := (hc.trans2 (Ch.of_below ag.below) (fun _ h => h.elim)).trans2 (Ch.of_wrote aj) (fun k e => e ▸ a1)
 rintro _ c9 ⟨a0, bu, rfl, u, bv, ab, cm, cj, cl, ao⟩
 have bs : (World.heap w).size ≤ a0 ∨ (fun k => k = r) a0 := .inl (Nat.le_trans hc.size bv)
 have cr := Nat.le_trans y bv
 have bn : ∀ g, Value.ownBlock bu = some g → (World.heap w).size ≤ g ∨ (fun k => k = r) g := fun g hg => .inl (Nat.le_trans hc.size (cm g hg))
 have hb := hb.trans (aj.below ay)
 have hb := ao.below hb y (fun k e => e.elim (fun x => x ▸ ay) (fun x => x ▸ ax))
 replace y := Nat.le_trans y ao.size
 have t := t.ch ao (fun g e d => d.elim (fun x => t.ne c zi (x ▸ e)) (fun x => t.ne b zi (x ▸ e)))
 have l := l.ch ao (fun g e d => d.elim (fun x => l.ne c zi (x ▸ e)) (fun x => l.ne b zi (x ▸ e)))
 have n := n.ch ao (fun g e d => d.elim (fun x => n.ne c zi (x ▸ e)) (fun x => n.ne b zi (x ▸ e)))
 have o := zL o ao (fun d => d.elim (zH o c zi) (zH o b zi))
 have aa := zL aa ao (fun d => d.elim (zH aa c zi) (zH aa b zi))
 have q := zL q ao (fun d => d.elim (zH q c zi) (zH q b zi))
 have j := zL j ao (fun d => d.elim (zH j c zi) (zH j b zi))
 have a := zL a ao (fun d => d.elim (zH a c zi) (zH a b zi))
 have c := cj; replace b := cl
 refine zI (nR (zI (nW (wR (zI (nQ (yC ?_)))))))
 replace hc := hc.trans2 ao (fun k e => e.elim (fun x => x ▸ a1) (fun x => x ▸ a5))
 refine wH (fun m s0 w0 => ∃ (i : Nat) (be : List DoneV) (am : Value), (m = (ptsF (strF ds)).length - i) ∧ (s0.ds = []) ∧ ([0, 3, 4, 6, 10, 12, 13, 14, 15, 16].map s0.f = [(pt r 0), (pt b7 0), (.bool false), (N6 (atW kb)), (pt a7 0), (pt bf 0), (pt bc 0), (pt a0 0), am, (N6 i)]) ∧ (Row w0 B_ 138 3 encSpanS bb xs) ∧ (Row w0 B_ 183 4 encD a6 (ptsF (strF ds))) ∧ (Row w0 B_ 183 4 encD bw (gapF (strF ds))) ∧ (Row w0 B_ 138 3 encSpanS bu (turnAll eqS (trnV few) xs)) ∧ (Row w0 B_ 187 4 encD am be) ∧ (w0.heap[r]? = some (.cells (wl paP paR paN).toArray 86 (0, 0))) ∧ (w0.heap[bk]? = some (.cells [bb, (.bool true)].toArray 136 (0, 0))) ∧ (w0.heap[b1]? = some (.cells [(I6 9), (I6 ka), (I6 kb), (I6 kc), (I6 few), (I3 lo), (I3 hi), (S val)].toArray 44 (0, 0))) ∧ (w0.heap[b7]? = some (.cells [(I6 9), (I6 ka), (I6 kb), (I6 kc), (I6 few), (I3 lo), (I3 hi), (S val)].toArray 44 (0, 0))) ∧ (w0.heap[a7]? = some (.cells [a6].toArray 147 (0, 0))) ∧ (w0.heap[bf]? = some (.cells [(N6 ((xs).length))].toArray 3 (0, 0))) ∧ (w0.heap[bc]? = some (.cells [(.bool true)].toArray 4 (0, 0))) ∧ (w0.heap[a0]? = some (.cells [bu, (.bool true)].toArray 136 (0, 0))) ∧ (Below B_ w w0) ∧ (Ch (fun k => k = r) w w0) ∧ (∀ g, Value.ownBlock am = some g → (World.heap w).size ≤ g ∨ (fun k => k = r) g) ∧ (B_ ≤ w0.heap.size) ∧ (i ≤ (ptsF (strF ds)).length) ∧ (be = ((ptsF (strF ds)).take i).map (trnS few)) ∧ (be.length ≤ i)) _ ⟨0, [], (.slice none 0 0), rfl, zk, zk, t, l, n, ab, Row.nil _ _ _ _ _, o, aa, q, j, a, b, c, u, hb, hc, dr_nil _, y, (Nat.zero_le _), rfl, (Nat.le_refl _)⟩ ?_
 rintro c1 dc c2 ⟨i, be, am, hm, cf, ck, t, l, n, ab, p, o, aa, q, j, a, b, c, u, hb, hc, aw, y, i1, i2, i3⟩
 refine wF ck (yA (wR (zG (zO 0 a rfl (vI Try.underlying147 (l.rd).len (nLt i (((ptsF (strF ds))).length) ?_ ?_))))))
 ·intro dl
  refine nQ (zT (zZ (zB (yA (yC (xY 18 zk zk zk ?_))))))
  intro dp ad
  have hb := hb.trans (ad.mono y)
  replace y := Nat.le_trans y (ad.size)
  replace u := zA u ad
  refine ip 0 rfl am ?_
  have a := zA a ad
  refine I_pre 1 15 18 3 zk zk zk zk zk zk zk zk zk (zX a7 0 a6 zk zf (zK a rfl) (zY ?_))
  have hz := yN (ptsF (strF ds)) i (by first | omega | (simp; done)); obtain ⟨ac, bq⟩ := hz
  have l := l.below ad
  have hz := (l.rd).at (k := 4) zj bq
  obtain ⟨b3, bg, cb, co⟩ := hz
  have di := cu _ (List.mem_of_getElem? bq)
  refine yO (k := .i64) a6 i _ b3 bg xK cb (by first | omega | (simp; done)) zk zk (zV (pt b3 (bg + i * 4)) zf (xU b3 (bg + i * 4) [(I3 ac.1), (I3 ac.2.1)] zk zf zf (elem_mid [] [(S ac.2.2.1), (.bool ac.2.2.2)] co rfl) (zX a7 0 a6 zk zf (zK a rfl) (zY ?_))))
  have hz := (l.rd).at (k := 4) zj bq
  obtain ⟨bz, bi, ci, cg⟩ := hz
  have j := zA j ad
  refine yO (k := .i64) a6 i _ bz bi xK ci (by first | omega | (simp; done)) zk zk (zV (pt bz ((bi + i * 4) + 2)) zf (zX bz ((bi + i * 4) + 2) (S ac.2.2.1) zk zf (cg 2 _ rfl) (zV (pt b7 4) zf (zX b7 4 (I6 few) zk zf (zK j rfl) (yR 121 [(S ac.2.2.1), (I6 few)] (S (trnV few ac.2.2.1)) zg (fun wq hbq => c_turned ac.2.2.1 few wq (by first | omega | (simp; done))) (zV (Value.agg #[(I3 ac.1), (I3 ac.2.1), (S (trnV few ac.2.2.1)), (.bool false)]) zf (yM ?_)))))))
  intro c4 ae
  have hb := hb.trans (ae.mono y)
  replace y := Nat.le_trans y (ae.size)
  replace u := zA u ae
  refine yF 15 zk (yL 15 rfl ?_ rfl)
  refine zM 1 [(I3 ac.1), (I3 ac.2.1), (S (trnV few ac.2.2.1)), (.bool false)] 187 ?_
  intro bl ce z
  have bx : B_ ≤ bl := by rw [z.num]; exact y
  have p := (p.below ad).below ae
  have a2 : Value.ownBlock am = none ∨ Value.ownBlock am ≠ Value.ownBlock (.slice (some ⟨bl, 0, none⟩) 1 1) := .inr (p.new_ne z)
  have a3 := yW a2
  replace hc := (hc.trans2 (Ch.of_below ad) (fun _ h => h.elim)).trans2 (Ch.of_below ae) (fun _ h => h.elim)
  have b4 : ∀ g, Value.ownBlock (.slice (some ⟨bl, 0, none⟩) 1 1) = some g → (World.heap w).size ≤ g ∨ (fun k => k = r) g := fun g h => .inl (by cases h; rw [z.num]; exact hc.size)
  have hb := hb.trans (z.below.mono y)
  replace y := Nat.le_trans y (z.below.size)
  replace u := zA u z.below
  have bp : Row ce B_ 187 4 encD (.slice (some ⟨bl, 0, none⟩) 1 1) ([(ac.1, ac.2.1, (trnV few ac.2.2.1), false)] : List (Int × Int × List UInt8 × Bool)) := Row.made ([(ac.1, ac.2.1, (trnV few ac.2.2.1), false)] : List (Int × Int × List UInt8 × Bool)) z bx rfl rfl (by first | decide | (simp; done))
  refine zR ?_
  refine ⟨rfl, yF 16 zk (yL 16 rfl ?_ rfl)⟩
  have p := p.below z.below
  refine xV el82 B_ am (.slice (some ⟨bl, 0, none⟩) 1 1) be ([(ac.1, ac.2.1, (trnV few ac.2.2.1), false)] : List (Int × Int × List UInt8 × Bool)) y p bp.rd (by (simp only [List.length_append, List.length_take, List.length_drop, List.length_cons, List.length_nil, List.length_set] <;> omega)) zj zj zk zk zk ?_
  intro cc c8 ca af br 
  replace hc := hc.trans2 (Ch.of_below z.below) (fun _ h => h.elim)
  have b9 := dr_app (D := (fun k => k = r)) br (by have h0 := hc.size; omega : (World.heap w).size ≤ (World.heap ce).size) aw
  have b0 := xR bp br a3
  have hb := hb.tg y af p
  replace y := Nat.le_trans y (af.size)
  have o := zA (zA (zA o ad) ae) z.below
  have o := yI o af (p.ne o zi)
  have aa := zA (zA (zA aa ad) ae) z.below
  have aa := yI aa af (p.ne aa zi)
  have q := zA (zA (zA q ad) ae) z.below
  have q := yI q af (p.ne q zi)
  have j := zA (zA j ae) z.below
  have j := yI j af (p.ne j zi)
  have a := zA (zA a ae) z.below
  have a := yI a af (p.ne a zi)
  have b := zA (zA (zA b ad) ae) z.below
  have b := yI b af (p.ne b zi)
  have c := zA (zA (zA c ad) ae) z.below
  have c := yI c af (p.ne c zi)
  replace u := yI u af (p.ne u zi)
  have t := ((t.below ad).below ae).below z.below
  have t := t.grown af (t.apart p zk)
  have l := (l.below ae).below z.below
  have l := l.grown af (l.apart p zk)
  have n := ((n.below ad).below ae).below z.below
  have n := n.grown af (n.apart p zk)
  have ab := ((ab.below ad).below ae).below z.below
  have ab := ab.grown af (ab.apart p zk)
  have p := ca
  replace hc := hc.trans2 (Ch.of_grown af) (fun k e => aw k e)
  have aw := b9; clear b9
  refine zR ?_
  refine ⟨rfl, ip 17 rfl cc (yS zk (zS (zB (zW (zG (vG i 1 (zI (zR (zB ⟨_, zo, (i + 1), (be ++ ([(ac.1, ac.2.1, (trnV few ac.2.2.1), false)] : List (Int × Int × List UInt8 × Bool))), cc, rfl, cf, zk, t, l, n, ab, p, o, aa, q, j, a, b, c, u, hb, hc, aw, y, zo, ?_, ?_⟩)))))))))⟩
  ·rw [i2]; exact dn_take (g := trnS few) za
  (simp only [List.length_append, List.length_take, List.length_drop, List.length_cons, List.length_nil, List.length_set] <;> omega)
 intro c5
 refine nQ (zF (yZ (yE (yE (yP (zB (wR (zG (zG (zG (zr (pt r 0) (zr (pt r 0) (yY (k := .i64) r 0 (atW kb) Try.underlying80 zk (by first | exact zJ _ | omega) zk zk (yQ r (0 + (atW kb) * 1) (pt a0 0) (wl paP paR paN) _ 86 zk zk rfl zk o (wl_lp (by first | exact zJ _ | omega)) (wl_tp _ (by first | exact zJ _ | omega)) ?_))))))))))))))
 intro df ar
 replace y := Nat.le_trans y (Nat.le_of_eq ar.size.symm)
 have a := zC a ar (zH a o zi)
 have b := zC b ar (zH b o zi)
 have c := zC c ar (zH c o zi)
 replace u := zC u ar (zH u o zi)
 have l := l.wrote ar (l.ne o zi)
 have ab := ab.wrote ar (ab.ne o zi)
 have p := p.wrote ar (p.ne o zi)
 have o := ar.here
 refine nR (zG (zG (zG (zr (pt r 0) (zr (pt r 4) (yY (k := .i64) r 4 (atW kb) Try.underlying83 zk (by first | exact zJ _ | omega) zk zk (yQ r (4 + (atW kb) * 1) am (wl (up paP (atW kb) (pt a0 0)) paR paN) _ 86 zk zk p.one zk o (wl_lr (by first | exact zJ _ | omega)) (wl_tr _ (by first | exact zJ _ | omega)) ?_)))))))
 intro c7 aq
 replace y := Nat.le_trans y (Nat.le_of_eq aq.size.symm)
 have a := zC a aq (zH a o zi)
 have b := zC b aq (zH b o zi)
 have c := zC c aq (zH c o zi)
 replace u := zC u aq (zH u o zi)
 have l := l.wrote aq (l.ne o zi)
 have ab := ab.wrote aq (ab.ne o zi)
 have p := p.wrote aq (p.ne o zi)
 have o := aq.here
 refine nR (zG (zG (zr (pt r 0) (zr (pt r 8) (yY (k := .i64) r 8 (atW kb) Try.underlying84 zk (by first | exact zJ _ | omega) zk zk (yQ r (8 + (atW kb) * 1) (.bool false) (wl (up paP (atW kb) (pt a0 0)) (up paR (atW kb) am) paN) _ 86 zk zk rfl zk o (wl_ln (by first | exact zJ _ | omega)) (wl_tn _ (by first | exact zJ _ | omega)) ?_))))))
 intro db au
 replace y := Nat.le_trans y (Nat.le_of_eq au.size.symm)
 have a := zC a au (zH a o zi)
 have b := zC b au (zH b o zi)
 have c := zC c au (zH c o zi)
 replace u := zC u au (zH u o zi)
 have l := l.wrote au (l.ne o zi)
 have ab := ab.wrote au (ab.ne o zi)
 have p := p.wrote au (p.ne o zi)
 have o := au.here
 refine nR (zO 0 c rfl (zG (zw (zO 0 b rfl (zw (zO 0 a rfl (zw (vI Try.underlying147 (l.rd).len (zw (nEq ((xs).length) (((ptsF (strF ds))).length) ?_ ?_))))))))))
 ·intro cy
  refine xN (zG (zw (zG (zw (zr (.bool true) (xN (zI (nQ (yB (yG (zP (yJ [(.bool true)] (hd := cf) ?_))))))))))))
  show L _ _ _ _ _ _ (Fm.put _ _ (.bool true)) _
  refine zI (nQ (yB (yG (zP (yJ [(.bool true)] ?_)))))
  have er : (turnAll eqS (trnV few) xs) = (turnAll eqS (trnV few) xs) := by rfl
  have ed : be = (trnD few ds) := by (rw [i2, List.take_of_length_le zo]; rfl)
  replace hc := ((hc.trans2 (Ch.of_wrote ar) (fun k e => e ▸ bt)).trans2 (Ch.of_wrote aq) (fun k e => e ▸ bt)).trans2 (Ch.of_wrote au) (fun k e => e ▸ bt)
  exact ⟨a0, bu, am, rfl, o, u, bs, ab.cast er, bn, (p.rx).cast ed, hc⟩
 intro cn
 exfalso; first | (rw [b2, List.length_map] at cn; exact cn rfl)
theorem s_turn_nil (o : Nat) (paP paR paN : Nat → Value) (ka : Int) (kb : Int) (kc : Int) (few : Int) (lo : Int) (hi : Int) (val : List UInt8) (B_ : Nat) (w : World) (hs0 : B_ ≤ w.heap.size) (l : w.heap[o]? = some (.cells (wl paP paR paN).toArray 86 (0, 0))) (cw : B_ ≤ o) (hw_p_0 : paP (atW ka) = (.pointer none)) (hw_r_1 : paR (atW ka) = (.slice none 0 0)) (hw_n_2 : paN (atW ka) = (.bool true)) :
  Calls Try.prog 42 #[(pt o 0), (Value.agg #[(I6 9), (I6 ka), (I6 kb), (I6 kc), (I6 few), (I3 lo), (I3 hi), (S val)])] w (Ret fun v w' => ∃ (cb0 : Nat) (q0 : Value) (v1 : Value), v = .bool true ∧ w'.heap[o]? = some (.cells (wl (up paP (atW kb) (pt cb0 0)) (up paR (atW kb) v1) (up paN (atW kb) (.bool false))).toArray 86 (0, 0)) ∧ w'.heap[cb0]? = some (.cells [q0, (.bool true)].toArray 136 (0, 0)) ∧ ((World.heap w).size ≤ cb0 ∨ (fun k => k = o) cb0) ∧ Row w' B_ 138 3 encSpanS q0 ([] : List SpS) ∧ (∀ g, Value.ownBlock q0 = some g → (World.heap w).size ≤ g ∨ (fun k => k = o) g) ∧ Rx w' 0 187 4 encD v1 (trnD few []) ∧ Ch (fun k => k = o) w w') := by
 refine wL 109 Try.func42 rfl ?_
 have hb := Below.refl B_ w
 have u : B_ ≤ (World.heap w).size := hs0
 have hc := Ch.refl (fun k => k = o) w
 have bm : (World.heap w).size ≤ o ∨ (fun k => k = o) o := .inr rfl
 have bo := Rel.nil
 have ci := bo.ok
 have bt : ptsF (strF []) = [] := bo.pts
 have cj : (ptsF (strF [])).length = 0 := by rw [bt]; rfl
 have cg : ∀ s ∈ ptsF (strF []), s.2.2.1.length ≤ 2097152 := by rw [bt]; simp
 refine wR (zN [(I6 9), (I6 ka), (I6 kb), (I6 kc), (I6 few), (I3 lo), (I3 hi), (S val)] 44 ?_)
 intro b1 w2 bb
 have ck : B_ ≤ b1 := by rw [bb.num]; exact u
 have ch : (World.heap w).size ≤ b1 ∨ (fun k => k = o) b1 := .inl (by rw [bb.num]; exact hc.size)
 have hb := hb.trans (bb.below.mono u)
 replace u := Nat.le_trans u (bb.below.size)
 have r := bb.here
 refine zI (nR (wB 1 r rfl (zc (xB ka _ ) ?_)))
 replace hc := hc.trans2 (Ch.of_below bb.below) (fun _ h => h.elim)
 rintro _ w4 ⟨rfl, bi⟩
 have hb := hb.trans (bi.mono u)
 replace u := Nat.le_trans u (bi.size)
 have r := zA r bi
 refine zI (nW (wR (wB 0 r rfl (nQ (yC (yA (wR (zr (.bool false) (zI (nQ (zF (wR (zr (.bool false) (zI (nQ (zF (wR (zr (.bool false) (zI (nQ (zF (wR (zr (.bool false) (zI (nQ (zF (zW (zr (.bool false) (zI (nQ (zF (wR (zr (.bool false) (zI (nQ (zF (yA (wR (zr (.bool false) (zI (nQ (zF (wR (zr (.bool false) (zI (nQ (zF (zW (zr (.bool true) (zI (nQ (zT (wR (zG (wG r (qW 80 [(pt o 0), (Value.agg #[(I6 9), (I6 ka), (I6 kb), (I6 kc), (I6 few), (I3 lo), (I3 hi), (S val)])] zk zk (wL 196 Try.func80 rfl (wR (zN [(I6 9), (I6 ka), (I6 kb), (I6 kc), (I6 few), (I3 lo), (I3 hi), (S val)] 44 ?_)))))))))))))))))))))))))))))))))))))))))))))))))))))))))))
 intro b7 w8 a1
 have b4 : B_ ≤ b7 := by rw [a1.num]; exact u
 replace hc := hc.trans2 (Ch.of_below bi) (fun _ h => h.elim)
 have bz : (World.heap w).size ≤ b7 ∨ (fun k => k = o) b7 := .inl (by rw [a1.num]; exact hc.size)
 have hb := hb.trans (a1.below.mono u)
 replace u := Nat.le_trans u (a1.below.size)
 have c := a1.here
 refine zI (nW (yV zk zk (zV (pt b7 1) zf (zX b7 1 (I6 ka) zk zf (zK c rfl) (yR 78 [(I6 ka)] (N6 (atW ka)) zg (fun wq hbq => xB ka wq ) (zV (pt b7 2) zf (zX b7 2 (I6 kb) zk zf (zK c rfl) (yR 78 [(I6 kb)] (N6 (atW kb)) zg (fun wq hbq => xB kb wq ) (zV (pt b7 3) zf (zX b7 3 (I6 kc) zk zf (zK c rfl) (yR 78 [(I6 kc)] (N6 (atW kc)) zg (fun wq hbq => xB kc wq ) (xA (xA (xA (yM ?_)))))))))))))))
 intro cu az
 have hb := hb.trans (az.mono u)
 replace u := Nat.le_trans u (az.size)
 have l := zA (zA (zA (zA l bb.below) bi) a1.below) az
 have c := zA c az
 refine zB (yA (wR (wB 0 c rfl (nQ (yC (wR (zr (.bool false) (zI (nQ (zF (wR (zr (.bool false) (zI (nQ (zF (wR (zr (.bool true) (zI (nQ (zT (wR (zG (zG (zr (pt o 0) (zr (pt o 4) (yY (k := .i64) o 4 (atW ka) Try.underlying83 zk (by first | exact zJ _ | omega) zk zk (yK o (4 + (atW ka) * 1) (.slice none 0 0) zk zk (zK l ((wl_r (by first | exact zJ _ | omega)).trans (congrArg some hw_r_1))) (zc (c_ptsF (.slice none 0 0) [] _ (Rd.nil _ _) (by first | omega | (simp; done)) (by exact ci)) ?_))))))))))))))))))))))))))))
 replace hc := (hc.trans2 (Ch.of_below a1.below) (fun _ h => h.elim)).trans2 (Ch.of_below az) (fun _ h => h.elim)
 rintro _ c8 ⟨ax, bp, rfl, j, n, ay⟩
 have bv : ∀ g, Value.ownBlock ax = some g → (World.heap w).size ≤ g ∨ (fun k => k = o) g := fun g hg => .inl (Nat.le_trans hc.size (World.ownsRow.lt j g hg).1)
 have bx : ∀ g, Value.ownBlock bp = some g → (World.heap w).size ≤ g ∨ (fun k => k = o) g := fun g hg => .inl (Nat.le_trans hc.size (World.ownsRow.lt n g hg).1)
 have j := j.base u
 have n := n.base u
 have hb := hb.trans (ay.mono u)
 replace u := Nat.le_trans u (ay.size)
 refine zG (zr ax (zr bp (zN [(.slice none 0 0)] 147 ?_)))
 intro aw cq ai
 have bc : B_ ≤ aw := by rw [ai.num]; exact u
 replace hc := hc.trans2 (Ch.of_below ay) (fun _ h => h.elim)
 have ba : (World.heap w).size ≤ aw ∨ (fun k => k = o) aw := .inl (by rw [ai.num]; exact hc.size)
 have hb := hb.trans (ai.below.mono u)
 replace u := Nat.le_trans u (ai.below.size)
 have a := ai.here
 have j := j.below ai.below
 refine yQ aw 0 ax [(.slice none 0 0)] [ax] 147 zk zk j.one zk a zi rfl ?_
 intro c2 aq
 replace u := Nat.le_trans u (Nat.le_of_eq aq.size.symm)
 have l := zA (zA l ay) ai.below
 have l := zC l aq (zH l a zi)
 have r := zA (zA (zA (zA r a1.below) az) ay) ai.below
 have r := zC r aq (zH r a zi)
 have c := zA (zA c ay) ai.below
 have c := zC c aq (zH c a zi)
 have j := j.wrote aq (j.ne a zi)
 have n := n.below ai.below
 have n := n.wrote aq (n.ne a zi)
 have a := aq.here
 refine zI (nR (zN [(I6 0)] 3 ?_))
 intro a8 cz af
 have bd : B_ ≤ a8 := by rw [af.num]; exact u
 replace hc := (hc.trans2 (Ch.of_below ai.below) (fun _ h => h.elim)).trans2 (Ch.of_wrote aq) (fun k e => e ▸ ba)
 have a9 : (World.heap w).size ≤ a8 ∨ (fun k => k = o) a8 := .inl (by rw [af.num]; exact hc.size)
 have hb := hb.trans (aq.below bc)
 have hb := hb.trans (af.below.mono u)
 replace u := Nat.le_trans u (af.below.size)
 have b := af.here
 refine z1 0 (I6 0) [(I6 0)] b ?_
 intro c0 am
 replace u := Nat.le_trans u (Nat.le_of_eq am.size.symm)
 have l := zA l af.below
 have l := zC l am (zH l b zi)
 have r := zA r af.below
 have r := zC r am (zH r b zi)
 have c := zA c af.below
 have c := zC c am (zH c b zi)
 have a := zA a af.below
 have a := zC a am (zH a b zi)
 have j := j.below af.below
 have j := j.wrote am (j.ne b zi)
 have n := n.below af.below
 have n := n.wrote am (n.ne b zi)
 have b := am.here
 refine nR (zN [(.bool false)] 4 ?_)
 intro a3 c5 ad
 have be : B_ ≤ a3 := by rw [ad.num]; exact u
 replace hc := (hc.trans2 (Ch.of_below af.below) (fun _ h => h.elim)).trans2 (Ch.of_wrote am) (fun k e => e ▸ a9)
 have a2 : (World.heap w).size ≤ a3 ∨ (fun k => k = o) a3 := .inl (by rw [ad.num]; exact hc.size)
 have hb := hb.trans (am.below bd)
 have hb := hb.trans (ad.below.mono u)
 replace u := Nat.le_trans u (ad.below.size)
 have d := ad.here
 refine z1 0 (.bool true) [(.bool true)] d ?_
 intro c4 aj
 replace u := Nat.le_trans u (Nat.le_of_eq aj.size.symm)
 have l := zA l ad.below
 have l := zC l aj (zH l d zi)
 have r := zA r ad.below
 have r := zC r aj (zH r d zi)
 have c := zA c ad.below
 have c := zC c aj (zH c d zi)
 have a := zA a ad.below
 have a := zC a aj (zH a d zi)
 have b := zA b ad.below
 have b := zC b aj (zH b d zi)
 have j := j.below ad.below
 have j := j.wrote aj (j.ne d zi)
 have n := n.below ad.below
 have n := n.wrote aj (n.ne d zi)
 have d := aj.here
 refine nR (zG (zG (zr (pt o 0) (zr (pt o 0) (yY (k := .i64) o 0 (atW ka) Try.underlying80 zk (by first | exact zJ _ | omega) zk zk (yK o (0 + (atW ka) * 1) (.pointer none) zk zk (zK l ((xP (by first | exact zJ _ | omega)).trans (congrArg some hw_p_0))) (zr (.func (.func 120) #[] #[(pt a3 0), (pt a8 0), (pt aw 0), (pt b7 0)]) (zc (c_turn_nil a3 a8 aw b7 _ ) ?_))))))))
 replace hc := (hc.trans2 (Ch.of_below ad.below) (fun _ h => h.elim)).trans2 (Ch.of_wrote aj) (fun k e => e ▸ a2)
 rintro _ cx ⟨bn, ar, rfl, t, p, a0, ak⟩
 have bg : (World.heap w).size ≤ ar ∨ (fun k => k = o) ar := .inl (Nat.le_trans hc.size a0)
 replace a0 := Nat.le_trans u a0
 have bf : ∀ g, Value.ownBlock bn = some g → (World.heap w).size ≤ g ∨ (fun k => k = o) g := fun g hg => .inl (Nat.le_trans hc.size (World.ownsRow.lt t g hg).1)
 have t := t.base u
 have hb := hb.trans (aj.below be)
 have hb := hb.trans (ak.mono u)
 replace u := Nat.le_trans u (ak.size)
 refine zI (nR (zI (nW (wR (zI (nQ (yC ?_)))))))
 replace hc := hc.trans2 (Ch.of_below ak) (fun _ h => h.elim)
 have l := zA l ak
 have r := zA r ak
 have a := zA a ak
 have b := zA b ak
 have d := zA d ak
 have c := zA c ak
 have j := j.below ak
 have n := n.below ak
 refine wH (fun m s0 w0 => ∃ (i : Nat) (a6 : List DoneV) (ag : Value), (m = (ptsF (strF [])).length - i) ∧ (s0.ds = []) ∧ ([0, 3, 4, 6, 10, 12, 13, 14, 15, 16].map s0.f = [(pt o 0), (pt b7 0), (.bool false), (N6 (atW kb)), (pt aw 0), (pt a8 0), (pt a3 0), (pt ar 0), ag, (N6 i)]) ∧ (Row w0 B_ 183 4 encD ax (ptsF (strF []))) ∧ (Row w0 B_ 183 4 encD bp (gapF (strF []))) ∧ (Row w0 B_ 138 3 encSpanS bn ([] : List SpS)) ∧ (Row w0 B_ 187 4 encD ag a6) ∧ (w0.heap[o]? = some (.cells (wl paP paR paN).toArray 86 (0, 0))) ∧ (w0.heap[b1]? = some (.cells [(I6 9), (I6 ka), (I6 kb), (I6 kc), (I6 few), (I3 lo), (I3 hi), (S val)].toArray 44 (0, 0))) ∧ (w0.heap[b7]? = some (.cells [(I6 9), (I6 ka), (I6 kb), (I6 kc), (I6 few), (I3 lo), (I3 hi), (S val)].toArray 44 (0, 0))) ∧ (w0.heap[aw]? = some (.cells [ax].toArray 147 (0, 0))) ∧ (w0.heap[a8]? = some (.cells [(I6 0)].toArray 3 (0, 0))) ∧ (w0.heap[a3]? = some (.cells [(.bool true)].toArray 4 (0, 0))) ∧ (w0.heap[ar]? = some (.cells [bn, (.bool true)].toArray 136 (0, 0))) ∧ (Below B_ w w0) ∧ (Ch (fun k => k = o) w w0) ∧ (∀ g, Value.ownBlock ag = some g → (World.heap w).size ≤ g ∨ (fun k => k = o) g) ∧ (B_ ≤ w0.heap.size) ∧ (i ≤ (ptsF (strF [])).length) ∧ (a6 = ((ptsF (strF [])).take i).map (trnS few)) ∧ (a6.length ≤ i)) _ ⟨0, [], (.slice none 0 0), rfl, zk, zk, j, n, t, Row.nil _ _ _ _ _, l, r, c, a, b, d, p, hb, hc, dr_nil _, u, (Nat.zero_le _), rfl, (Nat.le_refl _)⟩ ?_
 rintro da cs c1 ⟨i, a6, ag, hm, b9, cf, j, n, t, q, l, r, c, a, b, d, p, hb, hc, ap, u, i1, i2, i3⟩
 refine wF cf (yA (wR (zG (zO 0 a rfl (vI Try.underlying147 (j.rd).len (nLt i (((ptsF (strF []))).length) ?_ ?_))))))
 ·intro cr
  refine nQ (zT (zZ (zB (yA (yC (xY 18 zk zk zk ?_))))))
  intro cn ab
  have hb := hb.trans (ab.mono u)
  replace u := Nat.le_trans u (ab.size)
  refine ip 0 rfl ag ?_
  have a := zA a ab
  refine I_pre 1 15 18 3 zk zk zk zk zk zk zk zk zk (zX aw 0 ax zk zf (zK a rfl) (zY ?_))
  have hz := yN (ptsF (strF [])) i (by first | omega | (simp; done)); obtain ⟨z, bl⟩ := hz
  have j := j.below ab
  have hz := (j.rd).at (k := 4) zj bl
  obtain ⟨bs, a7, b6, cc⟩ := hz
  have c3 := cg _ (List.mem_of_getElem? bl)
  refine yO (k := .i64) ax i _ bs a7 xK b6 (by first | omega | (simp; done)) zk zk (zV (pt bs (a7 + i * 4)) zf (xU bs (a7 + i * 4) [(I3 z.1), (I3 z.2.1)] zk zf zf (elem_mid [] [(S z.2.2.1), (.bool z.2.2.2)] cc rfl) (zX aw 0 ax zk zf (zK a rfl) (zY ?_))))
  have hz := (j.rd).at (k := 4) zj bl
  obtain ⟨bu, a5, b3, b8⟩ := hz
  have c := zA c ab
  refine yO (k := .i64) ax i _ bu a5 xK b3 (by first | omega | (simp; done)) zk zk (zV (pt bu ((a5 + i * 4) + 2)) zf (zX bu ((a5 + i * 4) + 2) (S z.2.2.1) zk zf (b8 2 _ rfl) (zV (pt b7 4) zf (zX b7 4 (I6 few) zk zf (zK c rfl) (yR 121 [(S z.2.2.1), (I6 few)] (S (trnV few z.2.2.1)) zg (fun wq hbq => c_turned z.2.2.1 few wq (by first | omega | (simp; done))) (zV (Value.agg #[(I3 z.1), (I3 z.2.1), (S (trnV few z.2.2.1)), (.bool false)]) zf (yM ?_)))))))
  intro cy aa
  have hb := hb.trans (aa.mono u)
  replace u := Nat.le_trans u (aa.size)
  refine yF 15 zk (yL 15 rfl ?_ rfl)
  refine zM 1 [(I3 z.1), (I3 z.2.1), (S (trnV few z.2.2.1)), (.bool false)] 187 ?_
  intro bh cb y
  have bq : B_ ≤ bh := by rw [y.num]; exact u
  have q := (q.below ab).below aa
  have av : Value.ownBlock ag = none ∨ Value.ownBlock ag ≠ Value.ownBlock (.slice (some ⟨bh, 0, none⟩) 1 1) := .inr (q.new_ne y)
  have au := yW av
  replace hc := (hc.trans2 (Ch.of_below ab) (fun _ h => h.elim)).trans2 (Ch.of_below aa) (fun _ h => h.elim)
  have bw : ∀ g, Value.ownBlock (.slice (some ⟨bh, 0, none⟩) 1 1) = some g → (World.heap w).size ≤ g ∨ (fun k => k = o) g := fun g h => .inl (by cases h; rw [y.num]; exact hc.size)
  have hb := hb.trans (y.below.mono u)
  replace u := Nat.le_trans u (y.below.size)
  have bj : Row cb B_ 187 4 encD (.slice (some ⟨bh, 0, none⟩) 1 1) ([(z.1, z.2.1, (trnV few z.2.2.1), false)] : List (Int × Int × List UInt8 × Bool)) := Row.made ([(z.1, z.2.1, (trnV few z.2.2.1), false)] : List (Int × Int × List UInt8 × Bool)) y bq rfl rfl (by first | decide | (simp; done))
  refine zR ?_
  refine ⟨rfl, yF 16 zk (yL 16 rfl ?_ rfl)⟩
  have q := q.below y.below
  refine xV el82 B_ ag (.slice (some ⟨bh, 0, none⟩) 1 1) a6 ([(z.1, z.2.1, (trnV few z.2.2.1), false)] : List (Int × Int × List UInt8 × Bool)) u q bj.rd zo zj zj zk zk zk ?_
  intro b0 cm ca ac bk 
  replace hc := hc.trans2 (Ch.of_below y.below) (fun _ h => h.elim)
  have b2 := dr_app (D := (fun k => k = o)) bk (by have h0 := hc.size; omega : (World.heap w).size ≤ (World.heap cb).size) ap
  have br := xR bj bk au
  have hb := hb.tg u ac q
  replace u := Nat.le_trans u (ac.size)
  have l := zA (zA (zA l ab) aa) y.below
  have l := yI l ac (q.ne l zi)
  have r := zA (zA (zA r ab) aa) y.below
  have r := yI r ac (q.ne r zi)
  have c := zA (zA c aa) y.below
  have c := yI c ac (q.ne c zi)
  have a := zA (zA a aa) y.below
  have a := yI a ac (q.ne a zi)
  have b := zA (zA (zA b ab) aa) y.below
  have b := yI b ac (q.ne b zi)
  have d := zA (zA (zA d ab) aa) y.below
  have d := yI d ac (q.ne d zi)
  have p := zA (zA (zA p ab) aa) y.below
  have p := yI p ac (q.ne p zi)
  have j := (j.below aa).below y.below
  have j := j.grown ac (j.apart q zk)
  have n := ((n.below ab).below aa).below y.below
  have n := n.grown ac (n.apart q zk)
  have t := ((t.below ab).below aa).below y.below
  have t := t.grown ac (t.apart q zk)
  have q := ca
  replace hc := hc.trans2 (Ch.of_grown ac) (fun k e => ap k e)
  have ap := b2; clear b2
  refine zR ?_
  refine ⟨rfl, ip 17 rfl b0 (yS zk (zS (zB (zW (zG (vG i 1 (zI (zR (zB ⟨_, zo, (i + 1), (a6 ++ ([(z.1, z.2.1, (trnV few z.2.2.1), false)] : List (Int × Int × List UInt8 × Bool))), b0, rfl, b9, zk, j, n, t, q, l, r, c, a, b, d, p, hb, hc, ap, u, zo, ?_, zo⟩)))))))))⟩
  rw [i2]; exact dn_take (g := trnS few) za
 intro ct
 refine nQ (zF (yZ (yE (yE (yP (zB (wR (zG (zG (zG (zr (pt o 0) (zr (pt o 0) (yY (k := .i64) o 0 (atW kb) Try.underlying80 zk (by first | exact zJ _ | omega) zk zk (yQ o (0 + (atW kb) * 1) (pt ar 0) (wl paP paR paN) _ 86 zk zk rfl zk l (wl_lp (by first | exact zJ _ | omega)) (wl_tp _ (by first | exact zJ _ | omega)) ?_))))))))))))))
 intro cv an
 replace u := Nat.le_trans u (Nat.le_of_eq an.size.symm)
 have a := zC a an (zH a l zi)
 have b := zC b an (zH b l zi)
 have d := zC d an (zH d l zi)
 have p := zC p an (zH p l zi)
 have j := j.wrote an (j.ne l zi)
 have t := t.wrote an (t.ne l zi)
 have q := q.wrote an (q.ne l zi)
 have l := an.here
 refine nR (zG (zG (zG (zr (pt o 0) (zr (pt o 4) (yY (k := .i64) o 4 (atW kb) Try.underlying83 zk (by first | exact zJ _ | omega) zk zk (yQ o (4 + (atW kb) * 1) ag (wl (up paP (atW kb) (pt ar 0)) paR paN) _ 86 zk zk q.one zk l (wl_lr (by first | exact zJ _ | omega)) (wl_tr _ (by first | exact zJ _ | omega)) ?_)))))))
 intro c6 ao
 replace u := Nat.le_trans u (Nat.le_of_eq ao.size.symm)
 have a := zC a ao (zH a l zi)
 have b := zC b ao (zH b l zi)
 have d := zC d ao (zH d l zi)
 have p := zC p ao (zH p l zi)
 have j := j.wrote ao (j.ne l zi)
 have t := t.wrote ao (t.ne l zi)
 have q := q.wrote ao (q.ne l zi)
 have l := ao.here
 refine nR (zG (zG (zr (pt o 0) (zr (pt o 8) (yY (k := .i64) o 8 (atW kb) Try.underlying84 zk (by first | exact zJ _ | omega) zk zk (yQ o (8 + (atW kb) * 1) (.bool false) (wl (up paP (atW kb) (pt ar 0)) (up paR (atW kb) ag) paN) _ 86 zk zk rfl zk l (wl_ln (by first | exact zJ _ | omega)) (wl_tn _ (by first | exact zJ _ | omega)) ?_))))))
 intro c7 al
 replace u := Nat.le_trans u (Nat.le_of_eq al.size.symm)
 have a := zC a al (zH a l zi)
 have b := zC b al (zH b l zi)
 have d := zC d al (zH d l zi)
 have p := zC p al (zH p l zi)
 have j := j.wrote al (j.ne l zi)
 have t := t.wrote al (t.ne l zi)
 have q := q.wrote al (q.ne l zi)
 have l := al.here
 refine nR (zO 0 d rfl (zG (zw (zO 0 b rfl (zw (zO 0 a rfl (zw (vI Try.underlying147 (j.rd).len (zw (nEq 0 (((ptsF (strF []))).length) ?_ ?_))))))))))
 ·intro co
  refine xN (zG (zw (zG (zw (zr (.bool true) (xN (zI (nQ (yB (yG (zP (yJ [(.bool true)] (hd := b9) ?_))))))))))))
  show L _ _ _ _ _ _ (Fm.put _ _ (.bool true)) _
  refine zI (nQ (yB (yG (zP (yJ [(.bool true)] ?_)))))
  have er : ([] : List SpS) = ([] : List SpS) := by rfl
  have ed : a6 = (trnD few []) := by (rw [i2, List.take_of_length_le zo]; rfl)
  replace hc := ((hc.trans2 (Ch.of_wrote an) (fun k e => e ▸ bm)).trans2 (Ch.of_wrote ao) (fun k e => e ▸ bm)).trans2 (Ch.of_wrote al) (fun k e => e ▸ bm)
  exact ⟨ar, bn, ag, rfl, l, p, bg, t.cast er, bf, (q.rx).cast ed, hc⟩
 intro ce
 exfalso; exact ce (by rw [bt]; rfl)
end Go.Proofs.Ythjgnnfonofgkaa
end

/- === Wgwv === -/
section
/- Walks, written by my program walk.py out of the specification gwv.py: each theorem says what one function returns and that it leaves memory as it was. -/
namespace Go.Proofs.Ythjgnnfonofgkaa
open Go Go.RowKit Go.FK
set_option maxHeartbeats 4000000
set_option maxRecDepth 100000
set_option maxRecDepth 100000
section
variable {B n bw kb bm : Nat} {w w' : World} {p r m : Value} {o : Option (Nat × Value)} {cs : Array Value}
def VBd (n : Nat) : Nat := 1048576 + n
theorem vb_up (n : Nat) : VBd n ≤ VBd (n + 1) := by unfold VBd; omega
theorem vb_lo (n : Nat) : 1048576 ≤ VBd n := by unfold VBd; omega
theorem vb_hi {n : Nat} (h : n ≤ 160) : VBd n ≤ 2097152 := by unfold VBd; omega
theorem vb_one (n : Nat) : VBd (n + 1) = VBd n + 1 := by unfold VBd; omega
attribute [irreducible] VBd
theorem ln_up {l n : Nat} (h : l ≤ n * 1114113) : l ≤ (n + 1) * 1114113 := Nat.le_trans h (Nat.mul_le_mul_right _ (Nat.le_succ n))
def SlotW (B n : Nat) (w : World) (p r m : Value) : Option (Nat × Value) → Prop
 | none => p = .pointer none ∧ r = .slice none 0 0 ∧ m = .bool true
 | some (b, v) => p = .pointer (some ⟨b, 0, none⟩) ∧ m = .bool false ∧ w.heap[b]? = some (.cells [v, .bool true].toArray 136 (0, 0)) ∧ B ≤ b ∧ ∃ (xs : List SpT) (ds : List DoneV), Row w B 138 3 encSpanS v xs ∧ Rx w 0 187 4 encD r ds ∧ Rel xs ds ∧ ds.length ≤ n * 1114113 ∧ ValD (VBd n) ds
def FreeW (O : Nat → Option (Nat × Value)) : Prop := ∀ j k b v b' v', j < 4 → k < 4 → j ≠ k → O j = some (b, v) → O k = some (b', v') → b ≠ b' ∧ (v.ownBlock = none ∨ v.ownBlock ≠ v'.ownBlock)
def WI (B n : Nat) (w : World) (bw : Nat) : Prop := ∃ (P R N : Nat → Value) (O : Nat → Option (Nat × Value)), w.heap[bw]? = some (.cells (wl P R N).toArray 86 (0, 0)) ∧ B ≤ bw ∧ (∀ k, k < 4 → SlotW B n w (P k) (R k) (N k) (O k)) ∧ FreeW O
theorem SlotW.below (h : SlotW B n w p r m o) (hb : Below w.heap.size w w') : SlotW B n w' p r m o := by
 cases o with
 | none => exact h
 | some bv =>
  obtain ⟨b, v⟩ := bv
  obtain ⟨k, i, g, f, c, e, a, j, d⟩ := h
  exact ⟨k, i, zA g hb, f, c, e, a.below hb, j.below hb, d⟩
theorem SlotW.next (h : SlotW B n w p r m o) : SlotW B (n + 1) w p r m o := by
 cases o with
 | none => exact h
 | some bv =>
  obtain ⟨b, v⟩ := bv
  obtain ⟨q, k, j, i, c, e, a, l, d, g, f⟩ := h
  exact ⟨q, k, j, i, c, e, a, l, d, ln_up g, f.up (vb_up n)⟩
theorem ty_ne {a b : Array Value} {E E' : Nat} (h : Nat.beq E E' = false) : (Obj.cells a E (0, 0)) ≠ Obj.cells b E' (0, 0) := by
 intro e
 injection e with _ e2 _
 exact Nat.ne_of_beq_eq_false h e2
theorem SlotW.ch (h : SlotW B n w p r m o) (ho : w.heap[bw]? = some (.cells cs 86 (0, 0))) (hc : Ch (fun k => k = bw) w w') : SlotW B n w' p r m o := by
 cases o with
 | none => exact h
 | some bv =>
  obtain ⟨b, v⟩ := bv
  obtain ⟨z, y, i, u, l, t, f, j, s⟩ := h
  exact ⟨z, y, zL i hc (zH i ho (ty_ne (by rfl))), u, l, t, f.ch hc (fun g hg e => f.ne ho (fun _ => ty_ne (by rfl)) (by rw [hg, e])), j.ch hc (fun a q c e d => j.ne ho (fun _ => ty_ne (by rfl)) a q c e d), s⟩
theorem SlotW.old {b : Nat} {v : Value} (h : SlotW B n w p r m (some (b, v))) : b < w.heap.size ∧ ∀ g, v.ownBlock = some g → g < w.heap.size := by
 obtain ⟨j, i, c, f, d, e, a, _⟩ := h
 exact ⟨yD c, fun g hg => (World.ownsRow.lt a g hg).2⟩
theorem WI.below (h : WI B n w bw) (hb : Below w.heap.size w w') : WI B n w' bw := by
 obtain ⟨P, R, N, O, a, d, b, c⟩ := h
 exact ⟨P, R, N, O, zA a hb, d, fun k hk => (b k hk).below hb, c⟩
theorem WI.next (h : WI B n w bw) : WI B (n + 1) w bw := by
 obtain ⟨P, R, N, O, a, d, b, c⟩ := h
 exact ⟨P, R, N, O, a, d, fun k hk => (b k hk).next, c⟩
theorem WI.lt (h : WI B n w bw) : bw < w.heap.size := by
 obtain ⟨P, R, N, O, a, _⟩ := h
 exact yD a
theorem WI.set {P R N : Nat → Value} {O : Nat → Option (Nat × Value)} (ho : w.heap[bw]? = some (.cells (wl P R N).toArray 86 (0, 0))) (hB : B ≤ bw) (hs : ∀ k, k < 4 → SlotW B n w (P k) (R k) (N k) (O k)) (hf : FreeW O) (hc : Ch (fun k => k = bw) w w')
  (kb : Nat) (ho' : w'.heap[bw]? = some (.cells (wl (up P kb p) (up R kb r) (up N kb m)).toArray 86 (0, 0))) (hn : SlotW B (n + 1) w' p r m o) (hnew : ∀ b v, o = some (b, v) → w.heap.size ≤ b ∧ ∀ g, v.ownBlock = some g → w.heap.size ≤ g) : WI B (n + 1) w' bw := by
 refine ⟨_, _, _, fun i => if i = kb then o else O i, ho', hB, fun k q => ?_, ?_⟩
 ·by_cases e : k = kb
  ·subst e
   simp only [Go.FK.up, if_true]
   exact hn
  simp only [Go.FK.up, if_neg e]
  exact ((hs k q).ch ho hc).next
 intro j k b v t s z q h d a
 replace d : (if j = kb then o else O j) = some (b, v) := d
 replace a : (if k = kb then o else O k) = some (t, s) := a
 by_cases y : j = kb
 ·subst y
  rw [if_pos rfl] at d
  rw [if_neg (fun e => h e.symm)] at a
  have f := hnew b v d
  have l := hs k q
  rw [a] at l
  have c := l.old
  refine ⟨by omega, ?_⟩
  cases hq : v.ownBlock with
  | none => exact .inl rfl
  | some g =>
   refine .inr (fun e => ?_)
   have := f.2 g hq
   have := c.2 g e.symm
   omega
 rw [if_neg y] at d
 by_cases u : k = kb
 ·subst u
  rw [if_pos rfl] at a
  have f := hnew t s a
  have l := hs j z
  rw [d] at l
  have c := l.old
  refine ⟨by omega, ?_⟩
  cases hq : v.ownBlock with
  | none => exact .inl rfl
  | some g =>
   refine .inr (fun e => ?_)
   have := f.2 g e.symm
   have := c.2 g hq
   omega
 rw [if_neg u] at a
 exact hf j k b v t s z q h d a
theorem WI.chg {P R N : Nat → Value} {O : Nat → Option (Nat × Value)} {ka : Nat} {v v1 q0 : Value} {xs xs' : List SpT} {ds' : List DoneV} (ho : w.heap[bw]? = some (.cells (wl P R N).toArray 86 (0, 0))) (hB : B ≤ bw) (hs : ∀ k, k < 4 → SlotW B n w (P k) (R k) (N k) (O k)) (hf : FreeW O)
  (hka : ka < 4) (hO : O ka = some (bm, v)) (hrow : Row w B 138 3 encSpanS v xs) (hc : Ch (Dw bw bm v) w w')
  (ho' : w'.heap[bw]? = some (.cells (wl P (up R ka v1) N).toArray 86 (0, 0))) (hm' : w'.heap[bm]? = some (.cells [q0, .bool true].toArray 136 (0, 0))) (hr' : Row w' B 138 3 encSpanS q0 xs') (dm : ∀ g, q0.ownBlock = some g → w.heap.size ≤ g ∨ Dw bw bm v g)
  (hx' : Rx w' 0 187 4 encD v1 ds') (hrel : Rel xs' ds') (hl : ds'.length ≤ (n + 1) * 1114113) (hv : ValD (VBd (n + 1)) ds') : WI B (n + 1) w' bw := by
 have ha := hs ka hka
 rw [hO] at ha
 obtain ⟨a1, a2, a3, a4, _⟩ := ha
 refine ⟨_, _, _, fun i => if i = ka then some (bm, q0) else O i, ho', hB, fun k u => ?_, ?_⟩
 ·by_cases e : k = ka
  ·subst e
   simp only [Go.FK.up, if_true]
   exact ⟨a1, a2, hm', a4, xs', ds', hr', hx', hrel, hl, hv⟩
  simp only [Go.FK.up, if_neg e]
  have h0 := hs k u
  cases hq : O k with
  | none => rw [hq] at h0; exact h0
  | some bv =>
   obtain ⟨b, o⟩ := bv
   rw [hq] at h0
   obtain ⟨r, f, y, h4, ys, es, h5, h6, h7, h8, h9⟩ := h0
   have l := hf k ka b o bm v u hka e hq hO
   refine ⟨r, f, zL y hc ?_, h4, ys, es, h5.ch hc ?_, h6.ch hc ?_, h7, ln_up h8, h9.up (vb_up n)⟩
   ·rintro (d | d | d)
    ·exact zH y ho (ty_ne (by rfl)) d
    ·exact l.1 d
    ·exact hrow.ne y (fun _ => ty_ne (by rfl)) d
   ·rintro g s (d | d | d)
    ·exact h5.ne ho (fun _ => ty_ne (by rfl)) (by rw [s, d])
    ·exact h5.ne a3 (fun _ => ty_ne (by rfl)) (by rw [s, d])
    ·rcases l.2 with h | h
     ·rw [h] at s; cases s
     ·exact h (by rw [s, d])
   ·rintro a q c z (d | d | d)
    ·exact h6.ne ho (fun _ => ty_ne (by rfl)) a q c z d
    ·exact h6.ne a3 (fun _ => ty_ne (by rfl)) a q c z d
    ·exact h6.apart hrow (by rfl) a q c z d
 have aa : ∀ k t o, k < 4 → k ≠ ka → O k = some (t, o) → bm ≠ t ∧ ∀ g, q0.ownBlock = some g → o.ownBlock ≠ some g := by
  intro k t o u p f
  have l := hf ka k bm v t o hka u (fun e => p e.symm) hO f
  have y := hs k u
  rw [f] at y
  have af := y.old
  refine ⟨l.1, fun g s e => ?_⟩
  rcases dm g s with d | d | d | d
  ·have := af.2 g e; omega
  ·exact hr'.ne ho' (fun _ => ty_ne (by rfl)) (by rw [s, d])
  ·exact hr'.ne hm' (fun _ => ty_ne (by rfl)) (by rw [s, d])
  ·rcases l.2 with h | h
   ·rw [h] at d; cases d
   ·exact h (by rw [d, e])
 intro j k b v t o hj u p r f
 replace r : (if j = ka then some (bm, q0) else O j) = some (b, v) := r
 replace f : (if k = ka then some (bm, q0) else O k) = some (t, o) := f
 by_cases e1 : j = ka
 ·subst e1
  rw [if_pos rfl] at r
  rw [if_neg (fun e => p e.symm)] at f
  obtain ⟨rfl, rfl⟩ : bm = b ∧ q0 = v := by have := Option.some.inj r; exact ⟨congrArg Prod.fst this, congrArg Prod.snd this⟩
  have m := aa k t o u (fun e => p e.symm) f
  refine ⟨m.1, ?_⟩
  cases hq : q0.ownBlock with
  | none => exact .inl rfl
  | some g => exact .inr (fun e => m.2 g hq e.symm)
 rw [if_neg e1] at r
 by_cases z : k = ka
 ·subst z
  rw [if_pos rfl] at f
  obtain ⟨rfl, rfl⟩ : bm = t ∧ q0 = o := by have := Option.some.inj f; exact ⟨congrArg Prod.fst this, congrArg Prod.snd this⟩
  have m := aa j b v hj e1 r
  refine ⟨fun e => m.1 e.symm, ?_⟩
  cases hq : v.ownBlock with
  | none => exact .inl rfl
  | some g => exact .inr (fun e => m.2 g e.symm hq)
 rw [if_neg z] at f
 exact hf j k b v t o hj u p r f
theorem WI.start {b0 b1 b2 b3 : Nat} (hB : B ≤ bw) (ho : w.heap[bw]? = some (.cells (wl (up (up (up (up (fun _ => .pointer none) 0 (pt b0 0)) 1 (pt b1 0)) 2 (pt b2 0)) 3 (pt b3 0)) (fun _ => .slice none 0 0) (fun _ => .bool false)).toArray 86 (0, 0)))
  (h0 : w.heap[b0]? = some (.cells [.slice none 0 0, .bool true].toArray 136 (0, 0))) (h1 : w.heap[b1]? = some (.cells [.slice none 0 0, .bool true].toArray 136 (0, 0))) (h2 : w.heap[b2]? = some (.cells [.slice none 0 0, .bool true].toArray 136 (0, 0))) (h3 : w.heap[b3]? = some (.cells [.slice none 0 0, .bool true].toArray 136 (0, 0)))
  (g0 : B ≤ b0) (g1 : B ≤ b1) (g2 : B ≤ b2) (g3 : B ≤ b3) (n01 : NE b0 b1) (n02 : NE b0 b2) (n03 : NE b0 b3) (n12 : NE b1 b2) (n13 : NE b1 b3) (n23 : NE b2 b3) : WI B 0 w bw := by
 have a : ∀ b, w.heap[b]? = some (.cells [.slice none 0 0, .bool true].toArray 136 (0, 0)) → B ≤ b → SlotW B 0 w (pt b 0) (.slice none 0 0) (.bool false) (some (b, .slice none 0 0)) := fun b d hg =>
  ⟨rfl, rfl, d, hg, [], [], Row.nil _ _ _ _ _, Rx.nil _ _ _ _ _, Rel.nil, Nat.zero_le _, ValD.nil _⟩
 refine ⟨_, _, _, fun i => if i = 0 then some (b0, .slice none 0 0) else if i = 1 then some (b1, .slice none 0 0) else if i = 2 then some (b2, .slice none 0 0) else some (b3, .slice none 0 0), ho, hB, fun k f => ?_, ?_⟩
 ·match k, f with
  | 0, _ => exact a b0 h0 g0
  | 1, _ => exact a b1 h1 g1
  | 2, _ => exact a b2 h2 g2
  | 3, _ => exact a b3 h3 g3
 intro j k b v q p n f c g h
 have d : ∀ i x y, i < 4 → (if i = 0 then some (b0, Value.slice none 0 0) else if i = 1 then some (b1, .slice none 0 0) else if i = 2 then some (b2, .slice none 0 0) else some (b3, .slice none 0 0)) = some (x, y) → y = .slice none 0 0 := by
  intro i x y l e
  match i, l, e with
  | 0, _, e => exact (congrArg Prod.snd (Option.some.inj e)).symm
  | 1, _, e => exact (congrArg Prod.snd (Option.some.inj e)).symm
  | 2, _, e => exact (congrArg Prod.snd (Option.some.inj e)).symm
  | 3, _, e => exact (congrArg Prod.snd (Option.some.inj e)).symm
 refine ⟨?_, .inl (by rw [d j b v n g]; rfl)⟩
 have o : j = 0 ∨ j = 1 ∨ j = 2 ∨ j = 3 := by omega
 have m : k = 0 ∨ k = 1 ∨ k = 2 ∨ k = 3 := by omega
 rcases o with rfl | rfl | rfl | rfl <;> rcases m with rfl | rfl | rfl | rfl <;> first
  | exact absurd rfl c
  | (cases g; cases h; first | exact n01 | exact n02 | exact n03 | exact n12 | exact n13 | exact n23 | exact fun e => n01 e.symm | exact fun e => n02 e.symm | exact fun e => n03 e.symm | exact fun e => n12 e.symm | exact fun e => n13 e.symm | exact fun e => n23 e.symm)
theorem new_of {k : Nat} {cs' : Array Value} (h : w.heap.size ≤ k ∨ (fun k => k = bw) k) (hk : w'.heap[k]? = some (.cells cs' 136 (0, 0))) (ho' : w'.heap[bw]? = some (.cells cs 86 (0, 0))) : w.heap.size ≤ k :=
 h.elim id (fun e => absurd e (zH hk ho' (ty_ne (by rfl))))
theorem row_of {v : Value} {xs : List SpT} (h : ∀ g, v.ownBlock = some g → w.heap.size ≤ g ∨ (fun k => k = bw) g) (hr : Row w' B 138 3 encSpanS v xs) (ho' : w'.heap[bw]? = some (.cells cs 86 (0, 0))) : ∀ g, v.ownBlock = some g → w.heap.size ≤ g := fun g hg =>
 (h g hg).elim id (fun e => absurd hg (by have := hr.ne ho' (fun _ => ty_ne (by rfl)); rw [show g = bw from e]; exact this))
end
section
variable {B n bw : Nat} {w : World}
def StepR (B n : Nat) (w : World) (bw : Nat) (v : Value) (w' : World) : Prop := v = .bool true ∧ WI B (n + 1) w' bw ∧ Ch (fun k => B ≤ k) w w'
theorem step_b {f : Nat} {args : Array Value} (h : WI B n w bw) (hc : Calls Try.prog f args w (Ret fun v w' => v = (.bool true) ∧ Below w.heap.size w w')) : Calls Try.prog f args w (Ret (StepR B n w bw)) :=
 hc.mono (fun _ _ ⟨v, he, hv, hb⟩ => ⟨v, he, hv, (h.below hb).next, (Ch.of_below hb).mono (fun _ h => h.elim)⟩)
theorem step_ok (h : WI B n w bw) (hs0 : B ≤ w.heap.size) (hn : n ≤ 160) (x : StepV) (hx : (-2147483648 ≤ x.2.2.2.2.2.1.1 ∧ x.2.2.2.2.2.1.1 ≤ 2147483647) ∧ (-2147483648 ≤ x.2.2.2.2.2.1.2 ∧ x.2.2.2.2.2.1.2 ≤ 2147483647)) (hv : x.2.2.2.2.2.2.length ≤ 1048576) :
  Calls Try.prog 42 #[(pt bw 0), (Value.agg (encStep x).toArray)] w (Ret (StepR B n w bw)) := by
 obtain ⟨P, R, N, O, u, hB, hs, hf⟩ := id h
 obtain ⟨d, t, p, kc, few, ⟨lo, hi⟩, l⟩ := x
 have bl := hx.1; have bg := hx.2
 simp only at bl bg hv
 have m : ∀ {z : World} {xs : List SpT} {ds : List DoneV} {cb : Nat} {q v1 : Value}, Ch (fun k => k = bw) w z → ∀ p, z.heap[bw]? = some (.cells (wl (up P p (pt cb 0)) (up R p v1) (up N p (.bool false))).toArray 86 (0, 0)) → z.heap[cb]? = some (.cells [q, .bool true].toArray 136 (0, 0)) → (w.heap.size ≤ cb ∨ (fun k => k = bw) cb) → Row z B 138 3 encSpanS q xs → (∀ g, q.ownBlock = some g → w.heap.size ≤ g ∨ (fun k => k = bw) g) → Rx z 0 187 4 encD v1 ds → Rel xs ds → ds.length ≤ (n + 1) * 1114113 → ValD (VBd (n + 1)) ds → WI B (n + 1) z bw := by
  intro z xs ds cb q v1 hc p y r h3 h4 h5 h6 h7 h8 h9
  have bq := new_of h3 r y
  exact WI.set (o := some (cb, q)) u hB hs hf hc p y ⟨rfl, rfl, r, Nat.le_trans hs0 bq, xs, ds, h4, h6, h7, h8, h9⟩ (fun b v e => by cases e; exact ⟨bq, row_of h5 h4 y⟩)
 have ae : ∀ {z : World}, Ch (fun k => k = bw) w z → Ch (fun k => B ≤ k) w z := fun hc => hc.mono (fun k e => by rw [e]; exact hB)
 have f := hs (atW t) (zJ _)
 have i := hs (atW p) (zJ _)
 by_cases c0 : 0 ≤ d ∧ d ≤ 4
 ·cases hq : O (atW t) with
  | none =>
   rw [hq] at f
   exact step_b h (s_change_nil bw P R N d t p kc few lo hi l w u f.1 f.2.1 f.2.2 bl bg c0)
  | some bv =>
   obtain ⟨bm, v⟩ := bv
   rw [hq] at f
   obtain ⟨a1, a2, a3, a4, xs, ds, a5, a6, a7, a8, a9⟩ := f
   have bp : NE bw bm := fun e => zH u a3 (ty_ne (by rfl)) e
   refine (s_change bw P R N d t p kc few lo hi l _ ds bm v xs B w hs0 u hB a1 rfl a2 a6 a3 a4 a5 a7 zo bl bg c0 bp bp.symm).mono ?_
   rintro _ z ⟨v', he, q0, v1, j, y, r, h3, h4, h5, h6⟩
   refine ⟨v', he, j, WI.chg u hB hs hf (zJ _) hq a5 h6 y r h3 h4 h5 (a7.chg _ _ _ _) ?_ ((a9.chg (Nat.le_trans hv (vb_lo n)) _ _ _).up (vb_up n)), h6.mono ?_⟩
   ·have := chgD_len d ds lo hi l; omega
   ·rintro k (e | e | e)
    ·rw [e]; exact hB
    ·rw [e]; exact a4
    ·exact (World.ownsRow.lt a5 k e).1
 by_cases c5 : d = 5
 ·subst c5
  cases hq : O (atW t) with
  | none =>
   rw [hq] at f
   exact step_b h (s_all_nil bw P R N t p kc few lo hi l w u f.1 f.2.1 f.2.2)
  | some bv =>
   obtain ⟨bm, v⟩ := bv
   rw [hq] at f
   obtain ⟨a1, a2, a3, a4, xs, ds, a5, a6, a7, a8, a9⟩ := f
   exact step_b h (s_all bw P R N t p kc few lo hi l _ ds bm v xs w u a1 rfl a2 a6 a3 a5.rd a7 zo)
 by_cases c6 : d = 6
 ·subst c6
  cases hq : O (atW t) with
  | none =>
   rw [hq] at f
   refine (s_copy_nil bw P R N t p kc few lo hi l B w hs0 u hB f.1 f.2.1 f.2.2).mono ?_
   rintro _ z ⟨v', he, j, y, r⟩
   exact ⟨v', he, j, WI.set (o := none) u hB hs hf r _ y ⟨rfl, rfl, rfl⟩ (fun _ _ e => by cases e), ae r⟩
  | some bv =>
   obtain ⟨bm, v⟩ := bv
   rw [hq] at f
   obtain ⟨a1, a2, a3, a4, xs, ds, a5, a6, a7, a8, a9⟩ := f
   refine (s_copy bw P R N t p kc few lo hi l _ ds bm v xs B w hs0 u hB a1 rfl a2 a6 a3 a5.rd a7).mono ?_
   rintro _ z ⟨v', he, cb, q, j, y, r, h3, h4, h5, h6⟩
   exact ⟨v', he, j, m h6 _ y r h3 h4 h5 (a6.ch h6 (fun a q c e d => a6.ne u (fun _ => ty_ne (by rfl)) a q c e d)) a7 (ln_up a8) (a9.up (vb_up n)), ae h6⟩
 by_cases c7 : d = 7
 ·subst c7
  cases hq : O (atW t) with
  | none =>
   rw [hq] at f
   cases hq2 : O (atW p) with
   | none =>
    rw [hq2] at i
    exact step_b h (s_same_nn bw P R N t p kc few lo hi l w u f.1 f.2.1 f.2.2 i.1 i.2.1 i.2.2)
   | some bv2 =>
    obtain ⟨aq, v2⟩ := bv2
    rw [hq2] at i
    obtain ⟨b1, b2, b3, b4, ys, es, b5, b6, b7, b8, b9⟩ := i
    exact step_b h (s_same_ny bw P R N t p kc few lo hi l _ es aq v2 ys w u f.1 f.2.1 f.2.2 b1 rfl b2 b6 b3 b5.rd b7 zo)
  | some bv =>
   obtain ⟨bm, v⟩ := bv
   rw [hq] at f
   obtain ⟨a1, a2, a3, a4, xs, ds, a5, a6, a7, a8, a9⟩ := f
   cases hq2 : O (atW p) with
   | none =>
    rw [hq2] at i
    exact step_b h (s_same_yn bw P R N t p kc few lo hi l _ ds bm v xs w u a1 rfl a2 i.1 i.2.1 i.2.2 a6 a3 a5.rd a7 zo)
   | some bv2 =>
    obtain ⟨aq, v2⟩ := bv2
    rw [hq2] at i
    obtain ⟨b1, b2, b3, b4, ys, es, b5, b6, b7, b8, b9⟩ := i
    exact step_b h (s_same_yy bw P R N t p kc few lo hi l _ ds bm v xs _ es aq v2 ys w u a1 rfl a2 b1 rfl b2 a6 a3 a5.rd b6 b3 b5.rd a7 zo b7 zo)
 by_cases c8 : d = 8
 ·subst c8
  cases hq : O (atW t) with
  | none =>
   rw [hq] at f
   cases hq2 : O (atW p) with
   | none =>
    rw [hq2] at i
    refine (s_over_nn bw P R N t p kc few lo hi l B w hs0 u hB f.1 f.2.1 f.2.2 i.1 i.2.1 i.2.2).mono ?_
    rintro _ z ⟨v', he, cb, q, v1, j, y, r, h3, h4, h5, h6, h7⟩
    exact ⟨v', he, j, m h7 _ y r h3 h4 h5 h6 (Rel.nil.over Rel.nil) (by have := ovrD_len (ds := []) Rel.nil.ok; rw [List.length_nil] at this; omega) ((ValD.nil _).over (ValD.nil _) Rel.nil.ok), ae h7⟩
   | some bv2 =>
    obtain ⟨aq, v2⟩ := bv2
    rw [hq2] at i
    obtain ⟨b1, b2, b3, b4, ys, es, b5, b6, b7, b8, b9⟩ := i
    refine (s_over_ny bw P R N t p kc few lo hi l _ es aq v2 ys B w hs0 u hB f.1 f.2.1 f.2.2 b1 rfl b2 b6 b3 b5.rd b7 zo).mono ?_
    rintro _ z ⟨v', he, cb, q, v1, j, y, r, h3, h4, h5, h6, h7⟩
    exact ⟨v', he, j, m h7 _ y r h3 h4 h5 h6 (Rel.nil.over b7) (by have := ovrD_len (ds := []) b7.ok; rw [List.length_nil] at this; omega) ((ValD.nil _).over (b9.up (vb_up n)) b7.ok), ae h7⟩
  | some bv =>
   obtain ⟨bm, v⟩ := bv
   rw [hq] at f
   obtain ⟨a1, a2, a3, a4, xs, ds, a5, a6, a7, a8, a9⟩ := f
   cases hq2 : O (atW p) with
   | none =>
    rw [hq2] at i
    refine (s_over_yn bw P R N t p kc few lo hi l _ ds bm v xs B w hs0 u hB a1 rfl a2 i.1 i.2.1 i.2.2 a6 a3 a5.rd a7 zo).mono ?_
    rintro _ z ⟨v', he, cb, q, v1, j, y, r, h3, h4, h5, h6, h7⟩
    exact ⟨v', he, j, m h7 _ y r h3 h4 h5 h6 (a7.over Rel.nil) (by have := ovrD_len (ds := ds) Rel.nil.ok; omega) ((a9.up (vb_up n)).over (ValD.nil _) Rel.nil.ok), ae h7⟩
   | some bv2 =>
    obtain ⟨aq, v2⟩ := bv2
    rw [hq2] at i
    obtain ⟨b1, b2, b3, b4, ys, es, b5, b6, b7, b8, b9⟩ := i
    refine (s_over_yy bw P R N t p kc few lo hi l _ ds bm v xs _ es aq v2 ys B w hs0 u hB a1 rfl a2 b1 rfl b2 a6 a3 a5.rd b6 b3 b5.rd a7 zo b7 zo).mono ?_
    rintro _ z ⟨v', he, cb, q, v1, j, y, r, h3, h4, h5, h6, h7⟩
    exact ⟨v', he, j, m h7 _ y r h3 h4 h5 h6 (a7.over b7) (by have := ovrD_len (ds := ds) b7.ok; omega) ((a9.up (vb_up n)).over (b9.up (vb_up n)) b7.ok), ae h7⟩
 by_cases c9 : d = 9
 ·subst c9
  cases hq : O (atW t) with
  | none =>
   rw [hq] at f
   refine (s_turn_nil bw P R N t p kc few lo hi l B w hs0 u hB f.1 f.2.1 f.2.2).mono ?_
   rintro _ z ⟨v', he, cb, q, v1, j, y, r, h3, h4, h5, h6, h7⟩
   have e0 : trnD few [] = [] := by unfold trnD; rw [show ptsF (strF []) = [] from Rel.nil.pts]; rfl
   rw [e0] at h6
   exact ⟨v', he, j, m h7 _ y r h3 h4 h5 h6 Rel.nil (Nat.zero_le _) (ValD.nil _), ae h7⟩
  | some bv =>
   obtain ⟨bm, v⟩ := bv
   rw [hq] at f
   obtain ⟨a1, a2, a3, a4, xs, ds, a5, a6, a7, a8, a9⟩ := f
   have bu := a7.vals a9
   refine (s_turn bw P R N t p kc few lo hi l _ ds bm v xs B w hs0 u hB a1 rfl a2 a6 a3 a4 a5 a7 zo (fun s hs => Nat.le_trans (bu s hs) (vb_hi hn))).mono ?_
   rintro _ z ⟨v', he, cb, q, v1, j, y, r, h3, h4, h5, h6, h7⟩
   exact ⟨v', he, j, m h7 _ y r h3 h4 h5 h6 (a7.turn few) (by have := trnD_len (few := few) a7.ok; omega) (by rw [vb_one]; exact a9.trn a7.ok (Nat.le_trans (by decide) (vb_lo n)) few), ae h7⟩
 by_cases bs : d = 10
 ·subst bs
  refine (s_none bw P R N t p kc few lo hi l B w hs0 u hB).mono ?_
  rintro _ z ⟨v', he, j, y, r⟩
  exact ⟨v', he, j, WI.set (o := none) u hB hs hf r _ y ⟨rfl, rfl, rfl⟩ (fun _ _ e => by cases e), ae r⟩
 by_cases bz : d = 11
 ·subst bz
  refine (s_new bw P R N t p kc few lo hi l B w hs0 u hB).mono ?_
  rintro _ z ⟨v', he, cb, j, y, r, h3, h4⟩
  exact ⟨v', he, j, m h4 _ y r h3 (Row.nil _ _ _ _ _) (fun g hg => by simp [Value.ownBlock] at hg) (Rx.nil _ _ _ _ _) Rel.nil (Nat.zero_le _) (ValD.nil _), ae h4⟩
 exact step_b h (s_else bw P R N d t p kc few lo hi l w u zo)
theorem whole_ok (h : WI B n w bw) (hn : n ≤ 160) (k : Nat) (hk : k < 4) (few : Int) : Calls Try.prog 43 #[(pt bw 0), (N6 k), (I6 few)] w (Ret fun v w' => v = (.bool true) ∧ Below w.heap.size w w') := by
 obtain ⟨P, R, N, O, b, r, g, t⟩ := h
 have a := g k hk
 cases hq : O k with
 | none =>
  rw [hq] at a
  exact c_whole_nil bw P R N k few w b a.1 a.2.2 hk
 | some bv =>
  obtain ⟨l, v⟩ := bv
  rw [hq] at a
  obtain ⟨e, j, c, q, f, i, o, m, d, p, s⟩ := a
  exact c_whole bw P R N k few _ i l v f w b e rfl j m c o.rd hk d zo
end
theorem el39 : Elem Try.prog 39 44 8 64 := ⟨Try.underlying39, zk, rfl⟩
theorem c_furrowlaw04_PointsPlays (j : Value) (script : List (StepV)) (w : World) (d : Rd w encStep j script) {m_ml : Int} (hml : w.cell? ⟨0, 0, none⟩ = some (I6 m_ml)) (hw : ∀ x ∈ script, ((-2147483648 ≤ x.2.2.2.2.2.1.1 ∧ x.2.2.2.2.2.1.1 ≤ 2147483647) ∧ (-2147483648 ≤ x.2.2.2.2.2.1.2 ∧ x.2.2.2.2.2.1.2 ≤ 2147483647)) ∧ x.2.2.2.2.2.2.length ≤ 1048576) :
  Calls Try.prog 7 #[j] w (Ret fun v w' => v = (.bool true) ∧ Below w.heap.size w w') := by
 refine wL 55 Try.func7 rfl ?_
 have n := Below.refl w.heap.size w
 have l := d
 refine wR (zI (nW (wR (zG (vI Try.underlying39 (d).len (nGt ((script).length) 150 ?_ ?_))))))
 ·intro h1
  refine zG (zs (zs (xN (nQ (zT (wR (zc (c_lives  _ (gcell_below hml n)) ?_)))))))
  rintro _ w2 ⟨rfl, a8⟩
  have n := n.tr a8
  exact zI (nQ (yB (zP (yJ [(.bool true)] ⟨rfl, n⟩))))
 intro h5
 refine zG (zw (zc (c_lives  _ (gcell_below hml n)) ?_))
 rintro _ w6 ⟨rfl, a6⟩
 refine zw (znt true (zpF (nQ (zF (zZ (zB (wR (zr (Value.agg #[(.pointer none), (.pointer none), (.pointer none), (.pointer none), (.slice none 0 0), (.slice none 0 0), (.slice none 0 0), (.slice none 0 0), (.bool false), (.bool false), (.bool false), (.bool false)]) (zN [(.pointer none), (.pointer none), (.pointer none), (.pointer none), (.slice none 0 0), (.slice none 0 0), (.slice none 0 0), (.slice none 0 0), (.bool false), (.bool false), (.bool false), (.bool false)] 86 ?_)))))))))
 intro g a7 ap
 have n := n.tr a6
 have u := ap.ge n.size
 have b := ap.here
 replace b : a7.heap[g]? = some (.cells (wl (fun _ => .pointer none) (fun _ => .slice none 0 0) (fun _ => .bool false)).toArray 86 (0, 0)) := b
 refine zI (nW (wR (zI (nQ (yC (W_unroll 4 (yA (wR (zG (zr (.bool true) (nQ (zT (zZ (zB (yA (yC (yA (vH 6 7 zk zk zk ?_))))))))))))))))))
 intro bn ay
 refine ⟨fun _ => True, ?_⟩
 refine jp 0 [0, 3, 4, 5, 6] rfl (pt g 0) trivial (hq := (zD (zQ (zD (zD (zQ (zD zU))))))) (jp 1 [1, 5, 6] rfl (I6 0) trivial (hq := (zD (zQ (zD (zD (zQ (zD zU))))))) (jp 3 [3, 4, 5, 6] rfl (pt g 0) trivial (hq := (zD (zQ (zD (zD (zQ (zD zU))))))) (jp 4 [4, 5, 6] rfl (pt g 0) trivial (hq := (zD (zQ (zD (zD (zQ (zD zU))))))) (qH 2 zk (J_op 2 rfl ?_ rfl)))))
 refine zc (qZ  _ ) ?_
 rintro _ bv ⟨aj, rfl, a, af, ax⟩
 have n := (n.tr ap.below).tr ay
 replace af := Nat.le_trans n.size af
 refine zR ?_
 refine ⟨rfl, .inr trivial, jt 5 [5, 6] rfl (pt g (0 + 0 * 1)) trivial (R_ax (k := .i64) g 0 0 Try.underlying80 zk (by first | exact zJ _ | omega) zk zk) (hq := (zD (zQ (zD (zD (zQ (zD zU))))))) (qH 6 zk (J_op 6 rfl ?_ rfl))⟩
 have b := zA (zA b ay) ax
 refine yQ g (0 + 0 * 1) (pt aj 0) (wl (fun _ => .pointer none) (fun _ => .slice none 0 0) (fun _ => .bool false)) _ 86 zk zk rfl zk b (wl_lp (by first | exact zJ _ | omega)) (wl_tp _ (by first | exact zJ _ | omega)) ?_
 intro bb av
 have a := zC a av (zH a b zi)
 have b := av.here
 refine zR ?_
 refine ⟨rfl, .inl rfl, J_done zk (zB (wR (zG (zG (zr (pt g 0) (zr (pt g 0) (yY (k := .i64) g 0 0 Try.underlying80 zk (by first | exact zJ _ | omega) zk zk (yK g (0 + 0 * 1) (pt aj 0) zk zk (zK b ((xP (by first | exact zJ _ | omega)).trans (congrArg some (up_same _ _ _)))) (zr (.bool false) (nQ (zF (zZ (zS (zB (zW (zG (vG 0 1 (zI (zR (xQ (yA (wR (zG (zr (.bool true) (nQ (zT (zZ (zB (yA (yC (yA (vH 6 7 zk zk zk ?_))))))))))))))))))))))))))))))))⟩
 intro bp ar
 refine ⟨fun _ => True, ?_⟩
 refine jp 0 [0, 3, 4, 5, 6] rfl (pt g 0) trivial (hq := (zD (zQ (zD (zD (zQ (zD zU))))))) (jp 1 [1, 5, 6] rfl (I6 1) trivial (hq := (zD (zQ (zD (zD (zQ (zD zU))))))) (jp 3 [3, 4, 5, 6] rfl (pt g 0) trivial (hq := (zD (zQ (zD (zD (zQ (zD zU))))))) (jp 4 [4, 5, 6] rfl (pt g 0) trivial (hq := (zD (zQ (zD (zD (zQ (zD zU))))))) (qH 2 zk (J_op 2 rfl ?_ rfl)))))
 refine zc (qZ  _ ) ?_
 rintro _ bg ⟨am, rfl, c, t, au⟩
 have a := zA a ar
 have ad := NE_ge (yD a) t
 have n := ((n.tr ax).trans (av.below u)).tr ar
 replace t := Nat.le_trans n.size t
 refine zR ?_
 refine ⟨rfl, .inr trivial, jt 5 [5, 6] rfl (pt g (0 + 1 * 1)) trivial (R_ax (k := .i64) g 0 1 Try.underlying80 zk (by first | exact zJ _ | omega) zk zk) (hq := (zD (zQ (zD (zD (zQ (zD zU))))))) (qH 6 zk (J_op 6 rfl ?_ rfl))⟩
 have b := zA (zA b ar) au
 refine yQ g (0 + 1 * 1) (pt am 0) (wl (up (fun _ => .pointer none) 0 (pt aj 0)) (fun _ => .slice none 0 0) (fun _ => .bool false)) _ 86 zk zk rfl zk b (wl_lp (by first | exact zJ _ | omega)) (wl_tp _ (by first | exact zJ _ | omega)) ?_
 intro bh ak
 have a := zA a au
 have a := zC a ak (zH a b zi)
 have c := zC c ak (zH c b zi)
 have b := ak.here
 refine zR ?_
 refine ⟨rfl, .inl rfl, J_done zk (zB (wR (zG (zG (zr (pt g 0) (zr (pt g 0) (yY (k := .i64) g 0 1 Try.underlying80 zk (by first | exact zJ _ | omega) zk zk (yK g (0 + 1 * 1) (pt am 0) zk zk (zK b ((xP (by first | exact zJ _ | omega)).trans (congrArg some (up_same _ _ _)))) (zr (.bool false) (nQ (zF (zZ (zS (zB (zW (zG (vG 1 1 (zI (zR (xQ (yA (wR (zG (zr (.bool true) (nQ (zT (zZ (zB (yA (yC (yA (vH 6 7 zk zk zk ?_))))))))))))))))))))))))))))))))⟩
 intro br al
 refine ⟨fun _ => True, ?_⟩
 refine jp 0 [0, 3, 4, 5, 6] rfl (pt g 0) trivial (hq := (zD (zQ (zD (zD (zQ (zD zU))))))) (jp 1 [1, 5, 6] rfl (I6 2) trivial (hq := (zD (zQ (zD (zD (zQ (zD zU))))))) (jp 3 [3, 4, 5, 6] rfl (pt g 0) trivial (hq := (zD (zQ (zD (zD (zQ (zD zU))))))) (jp 4 [4, 5, 6] rfl (pt g 0) trivial (hq := (zD (zQ (zD (zD (zQ (zD zU))))))) (qH 2 zk (J_op 2 rfl ?_ rfl)))))
 refine zc (qZ  _ ) ?_
 rintro _ bq ⟨aw, rfl, e, r, an⟩
 have a := zA a al
 have ab := NE_ge (yD a) r
 have c := zA c al
 have aa := NE_ge (yD c) r
 have n := ((n.tr au).trans (ak.below u)).tr al
 replace r := Nat.le_trans n.size r
 refine zR ?_
 refine ⟨rfl, .inr trivial, jt 5 [5, 6] rfl (pt g (0 + 2 * 1)) trivial (R_ax (k := .i64) g 0 2 Try.underlying80 zk (by first | exact zJ _ | omega) zk zk) (hq := (zD (zQ (zD (zD (zQ (zD zU))))))) (qH 6 zk (J_op 6 rfl ?_ rfl))⟩
 have b := zA (zA b al) an
 refine yQ g (0 + 2 * 1) (pt aw 0) (wl (up (up (fun _ => .pointer none) 0 (pt aj 0)) 1 (pt am 0)) (fun _ => .slice none 0 0) (fun _ => .bool false)) _ 86 zk zk rfl zk b (wl_lp (by first | exact zJ _ | omega)) (wl_tp _ (by first | exact zJ _ | omega)) ?_
 intro bj ah
 have a := zA a an
 have a := zC a ah (zH a b zi)
 have c := zA c an
 have c := zC c ah (zH c b zi)
 have e := zC e ah (zH e b zi)
 have b := ah.here
 refine zR ?_
 refine ⟨rfl, .inl rfl, J_done zk (zB (wR (zG (zG (zr (pt g 0) (zr (pt g 0) (yY (k := .i64) g 0 2 Try.underlying80 zk (by first | exact zJ _ | omega) zk zk (yK g (0 + 2 * 1) (pt aw 0) zk zk (zK b ((xP (by first | exact zJ _ | omega)).trans (congrArg some (up_same _ _ _)))) (zr (.bool false) (nQ (zF (zZ (zS (zB (zW (zG (vG 2 1 (zI (zR (xQ (yA (wR (zG (zr (.bool true) (nQ (zT (zZ (zB (yA (yC (yA (vH 6 7 zk zk zk ?_))))))))))))))))))))))))))))))))⟩
 intro bu ag
 refine ⟨fun _ => True, ?_⟩
 refine jp 0 [0, 3, 4, 5, 6] rfl (pt g 0) trivial (hq := (zD (zQ (zD (zD (zQ (zD zU))))))) (jp 1 [1, 5, 6] rfl (I6 3) trivial (hq := (zD (zQ (zD (zD (zQ (zD zU))))))) (jp 3 [3, 4, 5, 6] rfl (pt g 0) trivial (hq := (zD (zQ (zD (zD (zQ (zD zU))))))) (jp 4 [4, 5, 6] rfl (pt g 0) trivial (hq := (zD (zQ (zD (zD (zQ (zD zU))))))) (qH 2 zk (J_op 2 rfl ?_ rfl)))))
 refine zc (qZ  _ ) ?_
 rintro _ bm ⟨az, rfl, s, p, ai⟩
 have a := zA a ag
 have z := NE_ge (yD a) p
 have c := zA c ag
 have ac := NE_ge (yD c) p
 have e := zA e ag
 have y := NE_ge (yD e) p
 have n := ((n.tr an).trans (ah.below u)).tr ag
 replace p := Nat.le_trans n.size p
 refine zR ?_
 refine ⟨rfl, .inr trivial, jt 5 [5, 6] rfl (pt g (0 + 3 * 1)) trivial (R_ax (k := .i64) g 0 3 Try.underlying80 zk (by first | exact zJ _ | omega) zk zk) (hq := (zD (zQ (zD (zD (zQ (zD zU))))))) (qH 6 zk (J_op 6 rfl ?_ rfl))⟩
 have b := zA (zA b ag) ai
 refine yQ g (0 + 3 * 1) (pt az 0) (wl (up (up (up (fun _ => .pointer none) 0 (pt aj 0)) 1 (pt am 0)) 2 (pt aw 0)) (fun _ => .slice none 0 0) (fun _ => .bool false)) _ 86 zk zk rfl zk b (wl_lp (by first | exact zJ _ | omega)) (wl_tp _ (by first | exact zJ _ | omega)) ?_
 intro a5 ae
 have a := zA a ai
 have a := zC a ae (zH a b zi)
 have c := zA c ai
 have c := zC c ae (zH c b zi)
 have e := zA e ai
 have e := zC e ae (zH e b zi)
 have s := zC s ae (zH s b zi)
 have b := ae.here
 refine zR ?_
 refine ⟨rfl, .inl rfl, J_done zk (zB (wR (zG (zG (zr (pt g 0) (zr (pt g 0) (yY (k := .i64) g 0 3 Try.underlying80 zk (by first | exact zJ _ | omega) zk zk (yK g (0 + 3 * 1) (pt az 0) zk zk (zK b ((xP (by first | exact zJ _ | omega)).trans (congrArg some (up_same _ _ _)))) (zr (.bool false) (nQ (zF (zZ (zS (zB (zW (zG (vG 3 1 (zI (zR (xQ (yA (wR (zG (zr (.bool false) (nQ (zF (yZ (yE (yE (yP (zB (yA (wR (zI (nQ (yC ?_))))))))))))))))))))))))))))))))))))⟩
 have o : WI w.heap.size 0 a5 g := WI.start u b a c e s af t r p ad ab z aa ac y 
 have n := (n.tr ai).trans (ae.below u)
 have d := l.below n
 refine wH (fun m s0 w0 => ∃ (i : Nat), (m = script.length - i) ∧ (s0.ds = []) ∧ ([0, 3, 5].map s0.f = [j, (pt g 0), (N6 i)]) ∧ (Rd w0 encStep j script) ∧ (WI w.heap.size i w0 g) ∧ (Below w.heap.size w w0) ∧ (i ≤ script.length)) _ ⟨0, rfl, zk, zk, d, o, n, (Nat.zero_le _)⟩ ?_
 rintro bi bt bx ⟨i, hm, aq, a2, d, o, n, i1⟩
 refine wF a2 (yA (wR (zG (zG (vI Try.underlying39 (d).len (nLt i ((script).length) ?_ ?_))))))
 ·intro bo
  refine nQ (zT (zZ (zB (yA (yC (wR (zG (zG (zG ?_)))))))))
  have hz := yN script i zo; obtain ⟨q, a0⟩ := hz
  have ao := hw _ (List.mem_of_getElem? a0)
  refine zEA d el39 i a0 [(I6 q.1), (I6 q.2.1), (I6 q.2.2.1), (I6 q.2.2.2.1), (I6 q.2.2.2.2.1), (I3 q.2.2.2.2.2.1.1), (I3 q.2.2.2.2.2.1.2), (S q.2.2.2.2.2.2)] rfl fun _ => (zc (step_ok o n.size zo (q.1, q.2.1, q.2.2.1, q.2.2.2.1, q.2.2.2.2.1, (q.2.2.2.2.2.1.1, q.2.2.2.2.2.1.2), q.2.2.2.2.2.2) ao.1 ao.2) ?_)
  rintro _ bl ⟨rfl, a3, a4⟩
  have n := a4.below n n.size (fun _ h => h)
  have o := a3
  refine znt true (nQ (zF (zZ (zS (zB (zW (zG (vG i 1 (zI (zR ?_))))))))))
  have d := l.below n
  exact zB ⟨_, zo, (i + 1), rfl, aq, zk, d, o, n, zo⟩
 intro ba
 refine nQ (zF (yZ (yE (yE (yP (zB (yA (wR (zI (nQ (yC (wH (fun m s0 w0 => ∃ (k : Nat), (m = 4 - k) ∧ (s0.ds = []) ∧ ([3, 6].map s0.f = [(pt g 0), (N6 k)]) ∧ (Rd w0 encStep j script) ∧ (WI w.heap.size i w0 g) ∧ (Below w.heap.size w w0) ∧ (k ≤ 4) ∧ (i ≤ 150)) _ ⟨0, rfl, aq, zk, d, o, n, (Nat.zero_le _), zo⟩ ?_))))))))))))
 rintro bs a9 bc ⟨k, hm, aq, a2, d, o, n, k1, k2⟩
 refine wF a2 (yA (wR (zG (nLt k 4 ?_ ?_))))
 ·intro bd
  refine nQ (zT (zZ (zB (yA (yC (wR (zG (zG (zc (whole_ok o zo k zo (-1)) ?_)))))))))
  rintro _ bk ⟨rfl, a1⟩
  refine znt true (nQ (zF (zZ (zS (zB (zW (zG (vG k 1 (zI (zR ?_))))))))))
  have n := n.tr a1
  have o := WI.below o a1
  have d := l.below n
  exact zB ⟨_, zo, (k + 1), rfl, aq, zk, d, o, n, zo, zo⟩
 intro be
 exact nQ (zF (yZ (yE (yE (yP (zB (wR (zI (nQ (yB (yJ [(.bool true)] (hd := aq) ⟨rfl, n⟩)))))))))))
end Go.Proofs.Ythjgnnfonofgkaa
end
