/- THE ENGINE, part 12: masks and shifts of whole numbers without a sign. Own work. -/
import Derived.Test.YtchonfdnghimdaaVc5
namespace Go.Proofs.YtchonfdnghimdaaV
open Go
set_option linter.unusedVariables false
set_option linter.unusedSimpArgs false
theorem wrapu64_id {n : Int} (h : 0 ≤ n ∧ n < 18446744073709551616) : IntKind.u64.wrap n = n := by
  unfold IntKind.wrap IntKind.bits IntKind.signed
  simp
  omega
section
variable {P : Program} {w : World} {t : TypeId}
theorem and32_run (x y : Operand) (a : Int) (h0 : 0 ≤ a) (h1 : a < 18446744073709551616) : (do eqGuard .and t x y (.int .u64 a) (.int .u64 4294967295); binOp .and t (.int .u64 a) (.int .u64 4294967295) : Sem Value).run P w = .ok (.int .u64 (a % 4294967296)) w := by
  have hm : (BitVec.ofInt 64 4294967295).toNat = 2 ^ 32 - 1 := by decide
  have key : (BitVec.ofInt 64 a &&& BitVec.ofInt 64 4294967295).toNat = (a % ((2 ^ 64 : Nat) : Int)).toNat % 2 ^ 32 := by
    rw [BitVec.toNat_and, BitVec.toNat_ofInt, hm, Nat.and_two_pow_sub_one_eq_mod]
  have e : IntKind.u64.wrap ((BitVec.ofInt 64 a &&& BitVec.ofInt 64 4294967295).toNat : Nat) = a % 4294967296 := by
    rw [key, wrapu64_id (by omega)]
    omega
  have e' : (Op.intBits .and .u64 a 4294967295 : Sem Value) = pure (.int .u64 (IntKind.u64.wrap ((BitVec.ofInt 64 a &&& BitVec.ofInt 64 4294967295).toNat : Nat))) := rfl
  simp only [Sem.run_bind, run_eqGuard_int, Result.andThen_ok]
  show (Op.intBits .and .u64 a 4294967295).run P w = _
  rw [e', e]
  rfl
theorem shr32_run (x y : Operand) (a : Int) : (do eqGuard .shr t x y (.int .u64 a) (.int .u64 32); binOp .shr t (.int .u64 a) (.int .u64 32) : Sem Value).run P w = .ok (.int .u64 (a / 4294967296)) w := by
  simp only [Sem.run_bind, run_eqGuard_int, Result.andThen_ok]
  show (Op.shift .shr .u64 a .u64 32).run P w = _
  have : a.fdiv 4294967296 = a / 4294967296 := by rw [Int.fdiv_eq_ediv_of_nonneg _ (by decide)]
  simp [Op.shift, IntKind.bits, this]
end
end Go.Proofs.YtchonfdnghimdaaV
