/- Two states of the same five words are equal, as the program compares them. No conditions. -/
import Derived.Test.YtiheldbiaamabaaRows
import Derived.Test.YtiheldbiaamabaaLib
import Derived.ChangeKeysEq
namespace Go.Proofs.Ytiheldbiaamabaa
open Go.RowKit
set_option linter.unusedVariables false
theorem one5 (d : Nat) (a : Int) (w : World) : (Op.equalIn (d + 1) 25 (.int .u32 a) (.int .u32 a)).run Try.prog w = .ok true w := by
  simp [Op.equalIn, run_underlying Try.underlying25]
theorem cells_u32 : Try.prog.cellsOf 25 = 1 := by kernel_rfl
theorem isAgg_u32 (w : World) : (isAgg 25).run Try.prog w = .ok false w := by simp [isAgg, run_underlying Try.underlying25]
theorem part5 (xs : Array Value) (j : Nat) (v : Value) (h : xs[j]? = some v) (w : World) : (part 25 xs j).run Try.prog w = .ok v w := by
  simp [part, h, isAgg_u32]
theorem eq5 (d : Nat) (a b c d' e : Int) (w : World) : (Op.equalIn (d + 2) 36 (.agg #[.int .u32 a, .int .u32 b, .int .u32 c, .int .u32 d', .int .u32 e]) (.agg #[.int .u32 a, .int .u32 b, .int .u32 c, .int .u32 d', .int .u32 e])).run Try.prog w = .ok true w := by
  obtain ⟨i, hi, _⟩ : ElemOk Try.prog 25 1 4 (.int .u32 0) := elemOk (by kernel_rfl) rfl (by decide)
  rw [run_equalIn_array w (d + 1) _ _ Try.underlying36 hi, cells_u32]
  have hr : List.range 5 = [0, 1, 2, 3, 4] := rfl
  rw [hr]
  simp only [Op.eqItems, Sem.run_bind, Nat.zero_mul, Nat.one_mul, Nat.mul_one]
  rw [part5 _ 0 (.int .u32 a) rfl, Result.andThen_ok, part5 _ 0 (.int .u32 a) rfl, Result.andThen_ok, one5, Result.andThen_ok]
  simp only [Bool.not_true, Bool.false_eq_true, if_false, if_true, Sem.run_bind]
  rw [part5 _ 1 (.int .u32 b) rfl, Result.andThen_ok, part5 _ 1 (.int .u32 b) rfl, Result.andThen_ok, one5, Result.andThen_ok]
  simp only [Bool.not_true, Bool.false_eq_true, if_false, if_true, Sem.run_bind]
  rw [part5 _ 2 (.int .u32 c) rfl, Result.andThen_ok, part5 _ 2 (.int .u32 c) rfl, Result.andThen_ok, one5, Result.andThen_ok]
  simp only [Bool.not_true, Bool.false_eq_true, if_false, if_true, Sem.run_bind]
  rw [part5 _ 3 (.int .u32 d') rfl, Result.andThen_ok, part5 _ 3 (.int .u32 d') rfl, Result.andThen_ok, one5, Result.andThen_ok]
  simp only [Bool.not_true, Bool.false_eq_true, if_false, if_true, Sem.run_bind]
  rw [part5 _ 4 (.int .u32 e) rfl, Result.andThen_ok, part5 _ 4 (.int .u32 e) rfl, Result.andThen_ok, one5, Result.andThen_ok]
  simp
end Go.Proofs.Ytiheldbiaamabaa
