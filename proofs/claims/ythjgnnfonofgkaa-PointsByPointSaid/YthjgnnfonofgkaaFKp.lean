/- FKp: shifts and bits of numbers, over functional frames. My own text. -/
import Derived.Test.YthjgnnfonofgkaaFKn
namespace Go.FK
open Go Go.RowKit
section ops
variable {r : Option Nat} {P : Program} {n : Nat} {Q : Post} {s : Fm} {w : World} {ops : Array Oper} {rest : List Oper}
variable {d : Option Tmp} {ty : TypeId} {pos : String} {af : Array Edge}
theorem L_shl {t yt : TypeId} {X Y : Operand} {k yk : IntKind} (x z : Int) (y p : Nat) (hp : 2 ^ y = p) (hy2 : Nat.ble y k.bits = true) (hx : s.ev n X = .int k x) (hy : s.ev n Y = .int yk y) (hz : k.wrap (x * (p : Int)) = z)
    (h : L r P n ops Q rest (s.put d (.int k z)) w) : L r P n ops Q (⟨d, .binOp .shl t X Y yt, ty, pos, af, none⟩ :: rest) s w := by
  have hy3 : y ≤ k.bits := by simpa using hy2
  refine L_bin _ _ (.int k z) hx hy (eqGuard_int ..) ?_ h
  have e : min (y : Int).toNat k.bits = y := by rw [Int.toNat_natCast]; omega
  subst hz; subst hp
  simp only [binOp, Op.shift, e]
  rw [if_neg (by omega)]
  simp [Sem.run_pure]
theorem L_shr {t yt : TypeId} {X Y : Operand} {k yk : IntKind} (x : Int) (y p : Nat) (hp : 2 ^ y = p) (hy2 : Nat.ble y k.bits = true) (hx : s.ev n X = .int k x) (hy : s.ev n Y = .int yk y)
    (h : L r P n ops Q rest (s.put d (.int k (x / (p : Int)))) w) : L r P n ops Q (⟨d, .binOp .shr t X Y yt, ty, pos, af, none⟩ :: rest) s w := by
  have hy3 : y ≤ k.bits := by simpa using hy2
  refine L_bin _ _ (.int k (x / (p : Int))) hx hy (eqGuard_int ..) ?_ h
  have e : min (y : Int).toNat k.bits = y := by rw [Int.toNat_natCast]; omega
  have hf : x.fdiv (2 ^ y) = x / ((2 ^ y : Nat) : Int) := by
    rw [Int.fdiv_eq_ediv_of_nonneg _ (by have : (0 : Int) ≤ ((2 ^ y : Nat) : Int) := Int.natCast_nonneg _; simpa using this)]
    simp
  subst hp
  simp only [binOp, Op.shift, e]
  rw [if_neg (by omega), hf]
  simp [Sem.run_pure]
theorem or32_wrap (a b : Nat) (ha : a ≤ 2147483647) (hb : b ≤ 2147483647) : IntKind.i32.wrap ((BitVec.ofInt 32 (a : Int) ||| BitVec.ofInt 32 (b : Int)).toNat : Int) = ((a ||| b : Nat) : Int) := by
  have h1 : BitVec.ofInt 32 (a : Int) = BitVec.ofNat 32 a := by simp
  have h2 : BitVec.ofInt 32 (b : Int) = BitVec.ofNat 32 b := by simp
  rw [h1, h2, BitVec.toNat_or, BitVec.toNat_ofNat, BitVec.toNat_ofNat, Nat.mod_eq_of_lt (by omega), Nat.mod_eq_of_lt (by omega)]
  have : a ||| b < 2 ^ 31 := Nat.or_lt_two_pow (by omega) (by omega)
  exact wrap_i32 _ (by omega) (by omega)
theorem and32_wrap (a b : Nat) (ha : a ≤ 2147483647) (hb : b ≤ 2147483647) : IntKind.i32.wrap ((BitVec.ofInt 32 (a : Int) &&& BitVec.ofInt 32 (b : Int)).toNat : Int) = ((a &&& b : Nat) : Int) := by
  have h1 : BitVec.ofInt 32 (a : Int) = BitVec.ofNat 32 a := by simp
  have h2 : BitVec.ofInt 32 (b : Int) = BitVec.ofNat 32 b := by simp
  rw [h1, h2, BitVec.toNat_and, BitVec.toNat_ofNat, BitVec.toNat_ofNat, Nat.mod_eq_of_lt (by omega), Nat.mod_eq_of_lt (by omega)]
  have := Nat.and_le_left (n := a) (m := b)
  exact wrap_i32 _ (by omega) (by omega)
/-- A number of which the last four places are free, and a digit. -/
theorem L_orD {t yt : TypeId} {X Y : Operand} (x y : Int) (a b : Nat) (hxa : x = ((16 * a : Nat) : Int) ∧ 16 * a ≤ 2147483600) (hyb : y = (b : Int) ∧ b < 16) (hx : s.ev n X = .int .i32 x) (hy : s.ev n Y = .int .i32 y)
    (h : L r P n ops Q rest (s.put d (.int .i32 ((16 * a + b : Nat) : Int))) w) : L r P n ops Q (⟨d, .binOp .or t X Y yt, ty, pos, af, none⟩ :: rest) s w := by
  obtain ⟨rfl, ha⟩ := hxa
  obtain ⟨rfl, hb⟩ := hyb
  refine L_bin _ _ (.int .i32 ((16 * a + b : Nat) : Int)) hx hy (eqGuard_int ..) ?_ h
  have e : 16 * a + b = 16 * a ||| b := by
    have := Nat.two_pow_add_eq_or_of_lt (i := 4) (b := b) (by omega) a
    simpa using this
  rw [e, ← or32_wrap (16 * a) b (by omega) (by omega)]
  rfl
theorem L_and15 {t yt : TypeId} {X Y : Operand} (x : Int) (a : Nat) (hxa : x = (a : Int) ∧ a ≤ 2147483647) (hx : s.ev n X = .int .i32 x) (hy : s.ev n Y = .int .i32 15)
    (h : L r P n ops Q rest (s.put d (.int .i32 ((a % 16 : Nat) : Int))) w) : L r P n ops Q (⟨d, .binOp .and t X Y yt, ty, pos, af, none⟩ :: rest) s w := by
  obtain ⟨rfl, ha⟩ := hxa
  refine L_bin _ (.int .i32 15) (.int .i32 ((a % 16 : Nat) : Int)) hx hy (eqGuard_int ..) ?_ h
  have e : a % 16 = a &&& 15 := (Nat.and_two_pow_sub_one_eq_mod a 4).symm
  rw [e, ← and32_wrap a 15 ha (by omega)]
  rfl
end ops
/-- A byte's place in a text. -/
theorem indexByte_contract {P : Program} {f : FuncId} (h1 : ∀ (s : ByteArray) (c : Int) (w : World), Calls P f #[.string s, .int .u8 c] w fun e w' => e = .returned (.int .i64 (Lib.indexByte s.data.toList c.toNat.toUInt8)) ∧ w' = w) (s : List UInt8) (c : Int) (w : World) :
    Calls P f #[S s, .int .u8 c] w (Ret fun v w' => v = .int .i64 (Lib.indexByte s c.toNat.toUInt8) ∧ Below w.heap.size w w') := by
  refine (h1 ⟨s.toArray⟩ c w).mono ?_
  rintro e w' ⟨rfl, rfl⟩
  exact ⟨_, rfl, rfl, Below.refl _ _⟩
end Go.FK
