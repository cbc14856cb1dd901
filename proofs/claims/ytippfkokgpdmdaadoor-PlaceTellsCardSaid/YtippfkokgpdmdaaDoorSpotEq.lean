/-
  Whether two spots are equal, as the program compares them.
-/
import Derived.Test.YtippfkokgpdmdaaDoorTape
namespace Go.Proofs.YtippfkokgpdmdaaDoor
open Go Go.RowKit
set_option linter.unusedVariables false

theorem und36 : Tryd.prog.underlying 36 = some (.struct (Tryd.prog.fieldsOf 36)) := by kernel_rfl
theorem stood36 : Tryd.prog.stoodInHeld 36 = false := by kernel_rfl
@[go_sem] theorem eqg36 : Tryd.prog.eqGuardType Tryd.prog.depth 36 = false := by kernel_rfl
def spotEq (k a b k' a' b' : Int) : Bool := k == k' && (a == a' && b == b')
theorem spotEq_iff (k a b k' a' b' : Int) : spotEq k a b k' a' b' = decide ((k, a, b) = (k', a', b')) := by
  rw [Bool.eq_iff_iff]
  simp [spotEq]
theorem eqIn_spot (k a b k' a' b' : Int) (w : World) :
    (Op.equalIn 10000 36 (.agg #[.int .i64 k, .int .i64 a, .int .i64 b]) (.agg #[.int .i64 k', .int .i64 a', .int .i64 b'])).run Tryd.prog w = .ok (spotEq k a b k' a' b') w := by
  rw [run_equalIn_struct w 9999 36 _ _ und36 stood36, spotEq]
  simp only [Program.fieldsOf, Tryd.underlying36]
  simp [Op.eqFields, go_sem]
  (repeat' split) <;> simp_all
@[go_sem ↓] theorem run_eql_spot (k a b k' a' b' : Int) (w : World) :
    (binOp .eql 36 (.agg #[.int .i64 k, .int .i64 a, .int .i64 b]) (.agg #[.int .i64 k', .int .i64 a', .int .i64 b'])).run Tryd.prog w = .ok (.bool (spotEq k a b k' a' b')) w := by
  rw [run_eql_struct, eqIn_spot]; rfl
@[go_sem ↓] theorem run_neq_spot (k a b k' a' b' : Int) (w : World) :
    (binOp .neq 36 (.agg #[.int .i64 k, .int .i64 a, .int .i64 b]) (.agg #[.int .i64 k', .int .i64 a', .int .i64 b'])).run Tryd.prog w = .ok (.bool (!spotEq k a b k' a' b')) w := by
  rw [run_neq_struct, eqIn_spot]; rfl
end Go.Proofs.YtippfkokgpdmdaaDoor
