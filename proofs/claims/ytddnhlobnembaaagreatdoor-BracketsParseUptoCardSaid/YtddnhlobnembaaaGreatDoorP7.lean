/- Joined by my program pack2.py out of my own texts: Wrb9. -/
import Derived.Test.YtddnhlobnembaaaGreatDoorProg
import Derived.Tactics2
import Derived.Test.YtddnhlobnembaaaGreatDoorP1
import Derived.Test.YtddnhlobnembaaaGreatDoorP2
import Derived.Test.YtddnhlobnembaaaGreatDoorP3
import Derived.Test.YtddnhlobnembaaaGreatDoorP4
import Derived.Test.YtddnhlobnembaaaGreatDoorP5
import Derived.Test.YtddnhlobnembaaaGreatDoorP6
set_option linter.unusedVariables false
set_option linter.unusedSimpArgs false
/- === Wrb9 === -/
section
/- Walks, written by my program walk.py out of the specification rb9.py: each theorem says what one function returns and that it leaves memory as it was. -/
namespace Go.Proofs.YtddnhlobnembaaaGreatDoor
open Go Go.RowKit Go.FK _root_.Go.Proofs.Tryz
set_option maxHeartbeats 4000000
set_option maxRecDepth 100000
section
variable {s : List UInt8}
theorem pb_v (h : (parF s).2.2 = 0) : ∀ x ∈ rowsB (kv (parF s).1.1), 0 ≤ x.2.2 ∧ x.2.2 ≤ 255 := by
 intro x b
 have a := newB_ok (par_newB h)
 have := (may_parts (a.may x ((rowsB_perm a).mem_iff.1 b))).2.2
 omega
theorem pb_len (h : (parF s).2.2 = 0) : (kv (parF s).1.1).length ≤ 1114112 := by rw [kv_len]; exact book_len (newB_ok (par_newB h))
end
attribute [local irreducible] parF writeB rowsB newB kv
theorem c_furrowlaw08_BracketsParse (file : List UInt8) (text : List UInt8) (f : Value) (asked : List (Int)) (w : World) (d : Rd w encI32 f asked) (hty : w.cell? ⟨0, 0, none⟩ = some (.iface 180 (.agg #[.pointer (some ⟨7, 39, none⟩)]))) (hs : text.length ≤ 67108864) (ha : asked.length ≤ 9223372036854775807) :
  Calls Tryz.prog 5 #[(S file), (S text), f] w (Ret fun v w' => v = (.bool true) ∧ Below w.heap.size w w') := by
 refine wI 70 func5 rfl ?_
 have e := Below.refl w.heap.size w
 have i := d
 refine wR (zG (nR (zD (zD ?_))))
 by_cases ak : (parF text).2.2 = 0
 ·skip
  refine zc (c_Parse_ok file text _ (qL hty e) zo za) ?_
  rintro _ w2 ⟨ac, aj, rfl, g, z, h, s, ap⟩
  replace z := Nat.le_trans e.size z
  replace s := Nat.le_trans e.size s
  refine zD (zr (pt ac 0) (zr .nilIface (zG (zG (nR (zD (zc (c_Parse8_ok text _ zo (by exact ak)) ?_)))))))
  rintro _ w8 ⟨q6, q7, u, rfl, k, l, j, p, ab⟩
  have e := e.tr ap
  replace p := Nat.le_trans e.size p
  have k := k.base e.size
  have l := l.base e.size
  refine zD (zr (pt u 0) (zr (I6 0) (zr (I6 0) (zG (zG (zG (nR (zD (zD (L_inline 20 [.nilIface, (S file)] zk zk (wI 48 func20 rfl (wR (zG (zG (zG (nW (wR (zD (zr (.bool true) (nQ (zT (wR (zG (zG (zG (nQ (zS (zH (yC [(I6 0), (I6 0), (.bool true)] ?_)))))))))))))))))))))))))))))
  show L _ _ _ _ _ _ (Fm.put _ _ (.tuple #[(I6 0), (I6 0), (.bool true)])) _
  have e := e.tr ab
  have g := zA g ab
  have h := zA h ab
  have d := i.below e
  refine zD (zr (I6 0) (zr (I6 0) (zr (.bool true) (zG (zG (zG (nR (zD (zD (zw (zD (zw (zD (zw (zr (.bool true) (xG (zD (zw (zD (zw (zD (zw (zr (.bool true) (xG (zD (zw (zD (zw (zr (.bool false) (zw (zD (zw (zr (.bool false) (zw (zr (.bool true) (xG (zD (zw (zD (zw (zD (zw (zD (zw (zc (c_told8w ac aj (kv (parF text).1.1) (.map none) [] u q6 (rowsB (kv (parF text).1.1)) q7 ([] : List (Int × Int)) f asked _ g h (.inl ⟨rfl, rfl⟩) j k.rd l.rd d (by exact RelB.new (par_newB za)) (by exact pb_len za) (by (simp; done)) (by exact pb_v za) zo) ?_)))))))))))))))))))))))))))))))))))))))))))))
  rintro _ a7 ⟨rfl, m⟩
  have j := zA j m
  have g := zA g m
  have h := zA h m
  have k := k.below m
  have l := l.below m
  refine xG (zD (zw (zD (zw (zr (.bool false) (zw (zD (zw (zD (zw (zD (zw (zc (c_whole8 ac aj (kv (parF text).1.1) (.map none) [] u q6 (rowsB (kv (parF text).1.1)) q7 ([] : List (Int × Int)) _ g h (.inl ⟨rfl, rfl⟩) j k.rd l.rd (by exact RelB.new (par_newB za)) (by exact pb_len za)) ?_)))))))))))))
  rintro _ az ⟨rfl, ah⟩
  have e := (e.tr m).tr ah
  refine zw (xF (xG (zD (zw (zc (c_awake8  _ (qL hty e)) ?_)))))
  rintro _ a6 ⟨rfl, af⟩
  have e := e.tr af
  exact xG (zG (nQ (zS (yC [(.bool true)] ⟨rfl, e⟩))))
 skip
 refine zc (c_Parse_bad file text _ (qL hty e) zo za) ?_
 rintro _ a2 ⟨a, rfl, c, q, ai⟩
 replace q := Nat.le_trans e.size q
 refine zD (zr (.pointer none) (zr (.iface 83 (pt a 0)) (zG (zG (nR (zD (zc (c_Parse8_bad text _ zo (by exact ak)) ?_)))))))
 rintro _ a1 ⟨rfl, aa⟩
 refine zD (zr (.pointer none) (zr (I6 ((parF text).2.1)) (zr (I6 ((parF text).2.2)) (zG (zG (zG (nR (zD (zD (L_inline 20 [(.iface 83 (pt a 0)), (S file)] zk zk (wI 48 func20 rfl (wR (zG (zG (zG (nW (wR (zD (zr (.bool false) (nQ (zF (zK (zB (wR (zN [(.pointer none)] 83 ?_)))))))))))))))))))))))))
 intro n a5 o
 have e := (e.tr ai).tr aa
 have t := o.ge e.size
 have b := o.here
 have e := e.tr o.below
 refine nW (wR (zD (zr (.iface 114 (pt n 0)) (zc (as_fk a n (.pointer none) _ (qL hty e) b) ?_))))
 rintro _ ay ⟨rfl, a8, y, r⟩
 have c := zA (zA (zA c aa) o.below) y
 have b := zA b y
 have c := zC c r (zJ c b zi)
 have b := r.here
 refine wW true (zD (zw (zO 0 b rfl (zw (zr (.bool false) (xF (nQ (zF (zK (zB (zY (xA zk zk (zZ n 0 (pt a 0) zk zf (zW b rfl) (yQ (pt a 0) zf (yQ (pt a 1) zf (zZ a 1 (I6 ((parF text).2.1)) zk zf (zW c rfl) (zZ n 0 (pt a 0) zk zf (zW b rfl) (yQ (pt a 0) zf (yQ (pt a 2) zf (zZ a 2 (I6 ((parF text).2.2)) zk zf (zW c rfl) (zZ n 0 (pt a 0) zk zf (zW b rfl) (yQ (pt a 0) zf (yQ (pt a 0) zf (zZ a 0 (S file) zk zf (zW c rfl) (yE (Lq_seq file file rfl zk zk ?_ ?_))))))))))))))))))))))))))
 ·intro ax
  refine yE (qw (zZ n 0 (pt a 0) zk zf (zW b rfl) (qw (yQ (pt a 0) zf (qw (yQ (pt a 2) zf (qw (zZ a 2 (I6 ((parF text).2.2)) zk zf (zW c rfl) (qw (xO .i64 ((parF text).2.2) 0 ((parF text).2.2 ≠ 0) rfl (cmp_ne ((parF text).2.2) 0) zk zk ?_ ?_))))))))))
  ·intro an
   replace an : (parF text).2.2 ≠ 0 := by omega
   refine qT (yE (qw (yE (qw (zZ n 0 (pt a 0) zk zf (zW b rfl) (qw (yQ (pt a 0) zf (qw (yQ (pt a 2) zf (qw (zZ a 2 (I6 ((parF text).2.2)) zk zf (zW c rfl) (qw (yQ (.iface 28 (I6 ((parF text).2.2))) zf (qw (xX 50 [(.iface 83 (pt a 0)), (.iface 28 (I6 ((parF text).2.2)))] (.bool true) zg (fun wq hbq => is_fk a file ((parF text).2.1) ((parF text).2.2) wq (zA c hbq)) (qT (wU (wU (wU (yN ?_))))))))))))))))))))
   intro a4 ae
   refine zB (zS (yC [(I6 ((parF text).2.1)), (I6 ((parF text).2.2)), (.bool true)] ?_))
   show L _ _ _ _ _ _ (Fm.put _ _ (.tuple #[(I6 ((parF text).2.1)), (I6 ((parF text).2.2)), (.bool true)])) _
   refine zD (zr (I6 ((parF text).2.1)) (zr (I6 ((parF text).2.2)) (zr (.bool true) (zG (zG (zG (nR (zD (zD (zw (zD (zw (zD (zw (qA .i64 ((parF text).2.1) ((parF text).2.1) ?_ ?_)))))))))))))))
   ·intro a3
    refine xG (zD (zw (zD (zw (zD (zw (qA .i64 ((parF text).2.2) ((parF text).2.2) ?_ ?_)))))))
    ·intro a0
     have e := ((e.tr y).trans (r.below t)).tr ae
     have d := i.below e
     refine xG (zD (zw (zD (zw (zr (.bool true) (zw (zD (zw (zr (.bool true) (zw (zr (.bool true) (xG (zD (zw (zD (zw (zD (zw (zD (zw (zc (c_told_nil f asked _ d) ?_)))))))))))))))))))))
     rintro _ av ⟨rfl, ag⟩
     have e := e.tr ag
     refine xG (zD (zw (zD (zw (zr (.bool true) (zw (zD (zs (zs (zs (zw (xG (xG (zD (zw (zc (c_awake8  _ (qL hty e)) ?_))))))))))))))))
     rintro _ aw ⟨rfl, ad⟩
     have e := e.tr ad
     exact xG (zG (nQ (zS (yC [(.bool true)] ⟨rfl, e⟩))))
    intro ao
    exact (ao rfl).elim
   intro aq
   exact (aq rfl).elim
  intro al
  replace al : (parF text).2.2 = 0 := by omega
  exfalso; omega
 intro am
 exact (am rfl).elim
end Go.Proofs.YtddnhlobnembaaaGreatDoor
end
