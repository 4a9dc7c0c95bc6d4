/- Sets of jobs as numbers. -/
import Derived.Test.YtkkefapclohicaaDoorQB1
set_option linter.unusedVariables false
set_option linter.unusedSimpArgs false
namespace Go.Proofs.YtkkefapclohicaaDoor.R
theorem shr_nat {s i : Nat} (hi : i < 64) : ishr .i64 (s : Int) (i : Int) = ((s / 2 ^ i : Nat) : Int) := by
  unfold ishr
  rw [Int.toNat_natCast, Nat.min_eq_left (show i ≤ IntKind.bits .i64 from Nat.le_of_lt hi), show (2 : Int) ^ i = ((2 ^ i : Nat) : Int) by simp, Int.fdiv_eq_ediv_of_nonneg _ (Int.natCast_nonneg _)]
  rfl
theorem shl_one {i : Nat} (hi : i < 62) : ishl .i64 1 (i : Int) = ((2 ^ i : Nat) : Int) := by
  unfold ishl
  rw [Int.toNat_natCast, Nat.min_eq_left (show i ≤ IntKind.bits .i64 from (by show i ≤ 64; omega))]
  have : 2 ^ i ≤ 2 ^ 61 := Nat.pow_le_pow_right (by omega) (by omega)
  rw [show (1 : Int) * 2 ^ i = ((2 ^ i : Nat) : Int) by simp]
  generalize 2 ^ i = b at this ⊢
  exact wrap_in (by unfold In64; omega)
theorem and_nat {a b : Nat} (ha : a < 2 ^ 62) (hb : b < 2 ^ 62) : iand .i64 (a : Int) (b : Int) = ((a &&& b : Nat) : Int) := by
  unfold iand
  have h1 : (BitVec.ofInt (IntKind.bits .i64) (a : Int)).toNat = a := by
    show (BitVec.ofInt 64 (a : Int)).toNat = a
    rw [BitVec.ofInt_natCast, BitVec.toNat_ofNat]
    exact Nat.mod_eq_of_lt (by omega)
  have h2 : (BitVec.ofInt (IntKind.bits .i64) (b : Int)).toNat = b := by
    show (BitVec.ofInt 64 (b : Int)).toNat = b
    rw [BitVec.ofInt_natCast, BitVec.toNat_ofNat]
    exact Nat.mod_eq_of_lt (by omega)
  rw [BitVec.toNat_and, h1, h2]
  have := Nat.and_lt_two_pow a hb
  exact wrap_in (by unfold In64; omega)
theorem or_nat {a b : Nat} (ha : a < 2 ^ 62) (hb : b < 2 ^ 62) : ior .i64 (a : Int) (b : Int) = ((a ||| b : Nat) : Int) := by
  unfold ior
  have h1 : (BitVec.ofInt (IntKind.bits .i64) (a : Int)).toNat = a := by
    show (BitVec.ofInt 64 (a : Int)).toNat = a
    rw [BitVec.ofInt_natCast, BitVec.toNat_ofNat]
    exact Nat.mod_eq_of_lt (by omega)
  have h2 : (BitVec.ofInt (IntKind.bits .i64) (b : Int)).toNat = b := by
    show (BitVec.ofInt 64 (b : Int)).toNat = b
    rw [BitVec.ofInt_natCast, BitVec.toNat_ofNat]
    exact Nat.mod_eq_of_lt (by omega)
  rw [BitVec.toNat_or, h1, h2]
  have := Nat.or_lt_two_pow ha hb
  exact wrap_in (by unfold In64; omega)
/-- Job i is in the set. -/
theorem bit_is {s i : Nat} (hs : s < 2 ^ 62) (hi : i < 62) : ieq (iand .i64 (ishr .i64 (s : Int) (i : Int)) 1) 1 = s.testBit i := by
  have h0 : s / 2 ^ i < 2 ^ 62 := Nat.lt_of_le_of_lt (Nat.div_le_self _ _) hs
  rw [shr_nat (by omega), show (1 : Int) = ((1 : Nat) : Int) from rfl, and_nat h0 (by omega), Nat.and_one_is_mod, Nat.testBit_eq_decide_div_mod_eq]
  unfold ieq
  congr 1
  apply propext
  constructor <;> intro h <;> omega
theorem with_is {s i : Nat} (hs : s < 2 ^ 62) (hi : i < 62) : ior .i64 (s : Int) (ishl .i64 1 (i : Int)) = ((s ||| 2 ^ i : Nat) : Int) := by
  have : 2 ^ i ≤ 2 ^ 61 := Nat.pow_le_pow_right (by omega) (by omega)
  rw [shl_one hi, or_nat hs (by omega)]
theorem wrapU {i : Nat} (hi : i < 62) : IntKind.wrap .u64 (i : Int) = (i : Int) := by
  rw [IntWalk.u64_in]
  omega
end Go.Proofs.YtkkefapclohicaaDoor.R
