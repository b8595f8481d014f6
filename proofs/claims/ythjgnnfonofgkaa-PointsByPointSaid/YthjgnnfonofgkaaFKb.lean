/- FKb: laws of single operations over functional frames: arithmetic, tests, strings, boxes, rows of the call's own. My own text. -/
import Derived.Test.YthjgnnfonofgkaaFKa
import Derived.Lib.Strings
import Derived.Lib.OthersKept
import Derived.Laws.Cells
namespace Go.FK
open Go Go.RowKit

/-- A text as a value: its bytes as a list. -/
def S (l : List UInt8) : Value := .string ⟨l.toArray⟩
theorem S_of (s : ByteArray) : Value.string s = S s.data.toList := by
  unfold S; rw [Lib.mk_data]
theorem toList_mk (l : List UInt8) : (⟨l.toArray⟩ : ByteArray).toList = l := by rw [Lib.toList_data]
theorem size_mk (l : List UInt8) : (⟨l.toArray⟩ : ByteArray).size = l.length := rfl

section ops
variable {r : Option Nat} {P : Program} {n : Nat} {Q : Post} {s : Fm} {w : World} {ops : Array Oper} {rest : List Oper}
variable {d : Option Tmp} {ty : TypeId} {pos : String} {af : Array Edge}

theorem L_bin {op : BinOp} {t yt : TypeId} {X Y : Operand} (x y v : Value) (hx : s.ev n X = x) (hy : s.ev n Y = y) (hg : (eqGuard op t X Y x y).run P w = .ok () w) (hrun : (binOp op t x y).run P w = .ok v w)
    (h : L r P n ops Q rest (s.put d v) w) : L r P n ops Q (⟨d, .binOp op t X Y yt, ty, pos, af, none⟩ :: rest) s w := by
  refine L_val v w (by simp) ?_ h
  simp only [execOp, hx, hy, Sem.run_bind, hg, hrun, Result.andThen_ok, Sem.run_pure]

theorem eqGuard_int (op : BinOp) (t : TypeId) (X Y : Operand) (k k' : IntKind) (x y : Int) : (eqGuard op t X Y (.int k x) (.int k' y)).run P w = .ok () w := by
  unfold eqGuard; cases op <;> rfl
theorem eqGuard_str (op : BinOp) (t : TypeId) (X Y : Operand) (x y : ByteArray) : (eqGuard op t X Y (.string x) (.string y)).run P w = .ok () w := by
  unfold eqGuard; cases op <;> rfl

/-! ### numbers -/
def arithZ : BinOp → Int → Int → Int
  | .add, x, y => x + y
  | .sub, x, y => x - y
  | _, x, y => x * y
def isArith : BinOp → Bool
  | .add | .sub | .mul => true
  | _ => false
/-- '+', '-', '*' on numbers of one kind: z is the result, wrapped. -/
theorem L_arith {op : BinOp} {t yt : TypeId} {X Y : Operand} {k : IntKind} (x y z : Int) (hop : isArith op = true) (hx : s.ev n X = .int k x) (hy : s.ev n Y = .int k y) (hz : k.wrap (arithZ op x y) = z)
    (h : L r P n ops Q rest (s.put d (.int k z)) w) : L r P n ops Q (⟨d, .binOp op t X Y yt, ty, pos, af, none⟩ :: rest) s w := by
  refine L_bin _ _ _ hx hy (eqGuard_int ..) ?_ h
  subst hz
  cases op <;> first | (simp [isArith] at hop; done) | (simp [binOp, Op.intArith, arithZ, Sem.run_pure])

theorem wrap_i64 (z : Int) (h1 : -9223372036854775808 ≤ z) (h2 : z ≤ 9223372036854775807) : IntKind.i64.wrap z = z := IntWalk.i64_in z (by omega)
theorem wrap_i32 (z : Int) (h1 : -2147483648 ≤ z) (h2 : z ≤ 2147483647) : IntKind.i32.wrap z = z := IntWalk.i32_in z (by omega)
theorem wrap_i8 (z : Int) (h1 : -128 ≤ z) (h2 : z ≤ 127) : IntKind.i8.wrap z = z := IntWalk.i8_in z (by omega)
theorem wrap_i16 (z : Int) (h1 : -32768 ≤ z) (h2 : z ≤ 32767) : IntKind.i16.wrap z = z := IntWalk.i16_in z (by omega)
theorem wrap_u8 (z : Int) (h1 : 0 ≤ z) (h2 : z ≤ 255) : IntKind.u8.wrap z = z := IntWalk.u8_in z (by omega)
theorem wrap_u16 (z : Int) (h1 : 0 ≤ z) (h2 : z ≤ 65535) : IntKind.u16.wrap z = z := IntWalk.u16_in z (by omega)
theorem wrap_u32 (z : Int) (h1 : 0 ≤ z) (h2 : z ≤ 4294967295) : IntKind.u32.wrap z = z := IntWalk.u32_in z (by omega)
theorem wrap_u64 (z : Int) (h1 : 0 ≤ z) (h2 : z ≤ 18446744073709551615) : IntKind.u64.wrap z = z := IntWalk.u64_in z (by omega)
/-- Sums of counts: on int. -/
theorem L_addN {t yt : TypeId} {X Y : Operand} (a b : Nat) (hb : a + b ≤ 9223372036854775807) (hx : s.ev n X = .int .i64 a) (hy : s.ev n Y = .int .i64 b)
    (h : L r P n ops Q rest (s.put d (.int .i64 ((a + b : Nat) : Int))) w) : L r P n ops Q (⟨d, .binOp .add t X Y yt, ty, pos, af, none⟩ :: rest) s w :=
  L_arith a b _ rfl hx hy (by rw [show arithZ .add (a : Int) b = ((a + b : Nat) : Int) by simp [arithZ]]; exact wrap_i64 _ (by omega) (by omega)) h
theorem L_subN {t yt : TypeId} {X Y : Operand} (a b : Nat) (hb : b ≤ a) (ha : a ≤ 9223372036854775807) (hx : s.ev n X = .int .i64 a) (hy : s.ev n Y = .int .i64 b)
    (h : L r P n ops Q rest (s.put d (.int .i64 ((a - b : Nat) : Int))) w) : L r P n ops Q (⟨d, .binOp .sub t X Y yt, ty, pos, af, none⟩ :: rest) s w :=
  L_arith a b _ rfl hx hy (by rw [show arithZ .sub (a : Int) b = ((a - b : Nat) : Int) by simp [arithZ]; omega]; exact wrap_i64 _ (by omega) (by omega)) h
theorem L_mulN {t yt : TypeId} {X Y : Operand} (a b : Nat) (hb : a * b ≤ 9223372036854775807) (hx : s.ev n X = .int .i64 a) (hy : s.ev n Y = .int .i64 b)
    (h : L r P n ops Q rest (s.put d (.int .i64 ((a * b : Nat) : Int))) w) : L r P n ops Q (⟨d, .binOp .mul t X Y yt, ty, pos, af, none⟩ :: rest) s w :=
  L_arith a b _ rfl hx hy (by rw [show arithZ .mul (a : Int) b = ((a * b : Nat) : Int) by simp [arithZ]]; exact wrap_i64 _ (by omega) (by omega)) h

theorem L_quo {t yt : TypeId} {X Y : Operand} {k : IntKind} (x y z : Int) (h0 : 0 ≤ x) (h1 : 0 < y) (hx : s.ev n X = .int k x) (hy : s.ev n Y = .int k y) (hz : k.wrap (x / y) = z)
    (h : L r P n ops Q rest (s.put d (.int k z)) w) : L r P n ops Q (⟨d, .binOp .quo t X Y yt, ty, pos, af, none⟩ :: rest) s w := by
  refine L_bin _ _ _ hx hy (eqGuard_int ..) ?_ h
  subst hz
  have hne : y ≠ 0 := by omega
  simp [binOp, Op.intDiv, hne, Sem.run_pure, Int.tdiv_eq_ediv_of_nonneg h0]
theorem L_rem {t yt : TypeId} {X Y : Operand} {k : IntKind} (x y : Int) (h0 : 0 ≤ x) (h1 : 0 < y) (hx : s.ev n X = .int k x) (hy : s.ev n Y = .int k y)
    (h : L r P n ops Q rest (s.put d (.int k (x % y))) w) : L r P n ops Q (⟨d, .binOp .rem t X Y yt, ty, pos, af, none⟩ :: rest) s w := by
  refine L_bin _ _ _ hx hy (eqGuard_int ..) ?_ h
  have hne : y ≠ 0 := by omega
  simp [binOp, Op.intDiv, hne, Sem.run_pure, Int.tmod_eq_emod_of_nonneg h0]
theorem L_quoN {t yt : TypeId} {X Y : Operand} (a b : Nat) (hb : 0 < b) (ha : a ≤ 9223372036854775807) (hx : s.ev n X = .int .i64 a) (hy : s.ev n Y = .int .i64 b)
    (h : L r P n ops Q rest (s.put d (.int .i64 ((a / b : Nat) : Int))) w) : L r P n ops Q (⟨d, .binOp .quo t X Y yt, ty, pos, af, none⟩ :: rest) s w :=
  L_quo (k := .i64) a b _ (by omega) (by omega) hx hy (by
    have h2 := Nat.div_le_self a b
    have h3 := Int.natCast_nonneg (a / b)
    rw [show (a : Int) / (b : Int) = ((a / b : Nat) : Int) by simp]; exact wrap_i64 _ (by omega) (by omega)) h
theorem L_remN {t yt : TypeId} {X Y : Operand} (a b : Nat) (hb : 0 < b) (hx : s.ev n X = .int .i64 a) (hy : s.ev n Y = .int .i64 b)
    (h : L r P n ops Q rest (s.put d (.int .i64 ((a % b : Nat) : Int))) w) : L r P n ops Q (⟨d, .binOp .rem t X Y yt, ty, pos, af, none⟩ :: rest) s w :=
  L_rem (k := .i64) a b (by omega) (by omega) hx hy (by rw [show (a : Int) % (b : Int) = ((a % b : Nat) : Int) by simp]; exact h)
/-- '&' of two counts. -/
theorem andN_wrap (a b : Nat) (ha : a ≤ 9223372036854775807) (hb : b ≤ 9223372036854775807) : IntKind.i64.wrap ((BitVec.ofInt 64 (a : Int) &&& BitVec.ofInt 64 (b : Int)).toNat : Int) = ((a &&& b : Nat) : Int) := by
  have h1 : BitVec.ofInt 64 (a : Int) = BitVec.ofNat 64 a := by simp
  have h2 : BitVec.ofInt 64 (b : Int) = BitVec.ofNat 64 b := by simp
  rw [h1, h2, BitVec.toNat_and, BitVec.toNat_ofNat, BitVec.toNat_ofNat, Nat.mod_eq_of_lt (by omega), Nat.mod_eq_of_lt (by omega)]
  have := Nat.and_le_left (n := a) (m := b)
  exact wrap_i64 _ (by omega) (by omega)
theorem L_andN {t yt : TypeId} {X Y : Operand} (a b : Nat) (ha : a ≤ 9223372036854775807) (hb : b ≤ 9223372036854775807) (hx : s.ev n X = .int .i64 a) (hy : s.ev n Y = .int .i64 b)
    (h : L r P n ops Q rest (s.put d (.int .i64 ((a &&& b : Nat) : Int))) w) : L r P n ops Q (⟨d, .binOp .and t X Y yt, ty, pos, af, none⟩ :: rest) s w := by
  refine L_bin _ _ (.int .i64 ((a &&& b : Nat) : Int)) hx hy (eqGuard_int ..) ?_ h
  rw [← andN_wrap a b ha hb]
  rfl

/-! ### tests on numbers -/
theorem beq_dec {α : Type} [DecidableEq α] (x y : α) : (x == y) = decide (x = y) := rfl
theorem beq_list (x y : List UInt8) : (x == y) = decide (x = y) := by rw [Bool.eq_iff_iff]; simp
def cmpB : BinOp → Int → Int → Bool
  | .eql, x, y => x == y
  | .neq, x, y => x != y
  | .lss, x, y => decide (x < y)
  | .leq, x, y => decide (x ≤ y)
  | .gtr, x, y => decide (x > y)
  | _, x, y => decide (x ≥ y)
def isCmp : BinOp → Bool
  | .eql | .neq | .lss | .leq | .gtr | .geq => true
  | _ => false
/-- A test, both ways. -/
theorem L_cmp {op : BinOp} {t yt : TypeId} {X Y : Operand} (k : IntKind) (x y : Int) (p : Prop) [Decidable p] (hop : isCmp op = true) (hp : cmpB op x y = decide p) (hx : s.ev n X = .int k x) (hy : s.ev n Y = .int k y)
    (ht : p → L r P n ops Q rest (s.put d (.bool true)) w) (hf : ¬ p → L r P n ops Q rest (s.put d (.bool false)) w) : L r P n ops Q (⟨d, .binOp op t X Y yt, ty, pos, af, none⟩ :: rest) s w := by
  have hrun : (binOp op t (.int k x) (.int k y)).run P w = .ok (.bool (decide p)) w := by
    rw [← hp]
    cases op <;> first | (simp [isCmp] at hop; done) | (simp [binOp, Op.intCmp, cmpB, Sem.run_pure])
  refine L_bin _ _ _ hx hy (eqGuard_int ..) hrun ?_
  by_cases hpp : p
  · rw [decide_eq_true hpp]; exact ht hpp
  · rw [decide_eq_false hpp]; exact hf hpp
theorem cmp_eq (x y : Int) : cmpB .eql x y = decide (x = y) := by simp [cmpB, beq_dec]
theorem cmp_ne (x y : Int) : cmpB .neq x y = decide (x ≠ y) := by simp [cmpB, bne, beq_dec]
theorem cmp_lt (x y : Int) : cmpB .lss x y = decide (x < y) := rfl
theorem cmp_le (x y : Int) : cmpB .leq x y = decide (x ≤ y) := rfl
theorem cmp_gt (x y : Int) : cmpB .gtr x y = decide (y < x) := rfl
theorem cmp_ge (x y : Int) : cmpB .geq x y = decide (y ≤ x) := rfl
theorem cmpN_eq (x y : Nat) : cmpB .eql (x : Int) y = decide (x = y) := by rw [cmp_eq]; simp only [decide_eq_decide]; omega
theorem cmpN_ne (x y : Nat) : cmpB .neq (x : Int) y = decide (x ≠ y) := by rw [cmp_ne]; simp only [decide_eq_decide]; omega
theorem cmpN_lt (x y : Nat) : cmpB .lss (x : Int) y = decide (x < y) := by rw [cmp_lt]; simp only [decide_eq_decide]; omega
theorem cmpN_le (x y : Nat) : cmpB .leq (x : Int) y = decide (x ≤ y) := by rw [cmp_le]; simp only [decide_eq_decide]; omega
theorem cmpN_gt (x y : Nat) : cmpB .gtr (x : Int) y = decide (y < x) := by rw [cmp_gt]; simp only [decide_eq_decide]; omega
theorem cmpN_ge (x y : Nat) : cmpB .geq (x : Int) y = decide (y ≤ x) := by rw [cmp_ge]; simp only [decide_eq_decide]; omega

theorem L_pickT {c X Y : Operand} (hc : s.ev n c = .bool true) (h : L r P n ops Q rest (s.put d (s.ev n X)) w) : L r P n ops Q (⟨d, .pick c X Y, ty, pos, af, none⟩ :: rest) s w :=
  L_val _ w (by simp) (by simp [execOp, hc, asBool, Sem.run_pure]) h
theorem L_pickF {c X Y : Operand} (hc : s.ev n c = .bool false) (h : L r P n ops Q rest (s.put d (s.ev n Y)) w) : L r P n ops Q (⟨d, .pick c X Y, ty, pos, af, none⟩ :: rest) s w :=
  L_val _ w (by simp) (by simp [execOp, hc, asBool, Sem.run_pure]) h
theorem L_not {t : TypeId} {X : Operand} (b : Bool) (hx : s.ev n X = .bool b) (h : L r P n ops Q rest (s.put d (.bool (!b))) w) : L r P n ops Q (⟨d, .unOp .not t X, ty, pos, af, none⟩ :: rest) s w :=
  L_val _ w (by simp) (by simp [execOp, hx, Op.unary, Sem.run_pure]) h
/-- A number of another kind. -/
theorem L_conv {a b : TypeId} {X : Operand} {k k' : IntKind} (x z : Int) (ha : (P.underlying a).isSome = true) (hb : P.underlying b = some (.int k')) (hx : s.ev n X = .int k x) (hz : k'.wrap x = z)
    (h : L r P n ops Q rest (s.put d (.int k' z)) w) : L r P n ops Q (⟨d, .convert a b X, ty, pos, af, none⟩ :: rest) s w := by
  subst hz
  refine L_val _ w (by simp) ?_ h
  obtain ⟨u, hu⟩ := Option.isSome_iff_exists.1 ha
  have hrun : (convert a b (.int k x)).run P w = .ok (.int k' (k'.wrap x)) w := by
    simp only [convert, run_underlying hu, run_underlying hb, Sem.run_bind, Result.andThen_ok]
    cases u <;> rfl
  simp only [execOp, hx, Sem.run_bind, hrun, Result.andThen_ok, Sem.run_pure]

/-! ### texts -/
theorem L_sadd {t yt : TypeId} {X Y : Operand} (a b : List UInt8) (hb : a.length + b.length ≤ 9223372036854775807) (hx : s.ev n X = S a) (hy : s.ev n Y = S b)
    (h : L r P n ops Q rest (s.put d (S (a ++ b))) w) : L r P n ops Q (⟨d, .binOp .add t X Y yt, ty, pos, af, none⟩ :: rest) s w := by
  refine L_bin _ _ _ hx hy (eqGuard_str ..) ?_ h
  have e : ¬ (((⟨a.toArray⟩ : ByteArray).size + (⟨b.toArray⟩ : ByteArray).size : Nat) : Int) > IntKind.i64.max := by
    rw [size_mk, size_mk]
    have : IntKind.i64.max = 9223372036854775807 := by decide
    omega
  have e2 : (⟨a.toArray⟩ : ByteArray) ++ ⟨b.toArray⟩ = ⟨(a ++ b).toArray⟩ := by
    apply ByteArray.ext
    simp
  simp only [S, binOp, Op.stringOp, if_neg e, e2, Sem.run_pure]
theorem L_seq {op : BinOp} {t yt : TypeId} {X Y : Operand} (a b : List UInt8) (hop : op = .eql) (hx : s.ev n X = S a) (hy : s.ev n Y = S b)
    (ht : a = b → L r P n ops Q rest (s.put d (.bool true)) w) (hf : a ≠ b → L r P n ops Q rest (s.put d (.bool false)) w) : L r P n ops Q (⟨d, .binOp op t X Y yt, ty, pos, af, none⟩ :: rest) s w := by
  subst hop
  have hrun : (binOp .eql t (S a) (S b)).run P w = .ok (.bool (decide (a = b))) w := by
    simp only [S, binOp, Op.stringOp, toList_mk, Sem.run_pure, beq_list]
  refine L_bin _ _ _ hx hy (eqGuard_str ..) hrun ?_
  by_cases hpp : a = b
  · rw [decide_eq_true hpp]; exact ht hpp
  · rw [decide_eq_false hpp]; exact hf hpp
theorem L_sne {op : BinOp} {t yt : TypeId} {X Y : Operand} (a b : List UInt8) (hop : op = .neq) (hx : s.ev n X = S a) (hy : s.ev n Y = S b)
    (ht : a ≠ b → L r P n ops Q rest (s.put d (.bool true)) w) (hf : a = b → L r P n ops Q rest (s.put d (.bool false)) w) : L r P n ops Q (⟨d, .binOp op t X Y yt, ty, pos, af, none⟩ :: rest) s w := by
  subst hop
  have hrun : (binOp .neq t (S a) (S b)).run P w = .ok (.bool (!decide (a = b))) w := by
    simp only [S, binOp, Op.stringOp, toList_mk, Sem.run_pure, beq_list]
  refine L_bin _ _ _ hx hy (eqGuard_str ..) hrun ?_
  by_cases hpp : a = b
  · rw [decide_eq_true hpp]; exact hf hpp
  · rw [decide_eq_false hpp]; exact ht hpp
theorem L_seqT {t yt : TypeId} {X Y : Operand} (a b : List UInt8) (hab : a = b) (hx : s.ev n X = S a) (hy : s.ev n Y = S b)
    (h : L r P n ops Q rest (s.put d (.bool true)) w) : L r P n ops Q (⟨d, .binOp .eql t X Y yt, ty, pos, af, none⟩ :: rest) s w := L_seq a b rfl hx hy (fun _ => h) (fun e => absurd hab e)
theorem L_seqF {t yt : TypeId} {X Y : Operand} (a b : List UInt8) (hab : a ≠ b) (hx : s.ev n X = S a) (hy : s.ev n Y = S b)
    (h : L r P n ops Q rest (s.put d (.bool false)) w) : L r P n ops Q (⟨d, .binOp .eql t X Y yt, ty, pos, af, none⟩ :: rest) s w := L_seq a b rfl hx hy (fun e => absurd e hab) (fun _ => h)
theorem L_sneT {t yt : TypeId} {X Y : Operand} (a b : List UInt8) (hab : a ≠ b) (hx : s.ev n X = S a) (hy : s.ev n Y = S b)
    (h : L r P n ops Q rest (s.put d (.bool true)) w) : L r P n ops Q (⟨d, .binOp .neq t X Y yt, ty, pos, af, none⟩ :: rest) s w := L_sne a b rfl hx hy (fun _ => h) (fun e => absurd e hab)
theorem L_sneF {t yt : TypeId} {X Y : Operand} (a b : List UInt8) (hab : a = b) (hx : s.ev n X = S a) (hy : s.ev n Y = S b)
    (h : L r P n ops Q rest (s.put d (.bool false)) w) : L r P n ops Q (⟨d, .binOp .neq t X Y yt, ty, pos, af, none⟩ :: rest) s w := L_sne a b rfl hx hy (fun e => absurd hab e) (fun _ => h)
theorem L_slen {ats : Array TypeId} {X : Operand} (t : TypeId) (a : List UInt8) (hat : ats[0]? = some t) (hu : P.underlying t = some .string) (hx : s.ev n X = S a)
    (h : L r P n ops Q rest (s.put d (.int .i64 (a.length : Nat))) w) : L r P n ops Q (⟨d, .call ⟨.builtin .len, #[X], ats⟩, ty, pos, af, none⟩ :: rest) s w := by
  refine L_val _ w (by simp) ?_ h
  simp [execOp, resolve, invoke, builtin, Builtin.len_, hat, hx, S, run_underlying hu, goInt, Sem.run_pure, Sem.run_bind, size_mk]
end ops
end Go.FK
