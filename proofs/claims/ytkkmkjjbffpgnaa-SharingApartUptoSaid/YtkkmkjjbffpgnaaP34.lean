import Derived.Test.YtkkmkjjbffpgnaaP09
import Derived.Test.YtkkmkjjbffpgnaaP06
import Derived.Laws.StructEq
/- Structs that equal themselves: declarations, nodes. -/
namespace Go.Proofs.Ytkkmkjjbffpgnaa
open Go Go.RowKit
set_option maxHeartbeats 1000000 in
theorem eq_decl (p1 : ByteArray) (p2 p3 : Int) (w : World) : (Op.equalIn 10000 110 (.agg #[.string p1, .int .i64 p2, .int .i64 p3]) (.agg #[.string p1, .int .i64 p2, .int .i64 p3])).run Try.prog w = .ok true w := by
  have hS : Try.prog.underlying 110 = some (.struct (Try.prog.fieldsOf 110)) := by kernel_rfl
  have hp : Try.prog.stoodInHeld 110 = false := by kernel_rfl
  rw [show (10000 : Nat) = 9999 + 1 from rfl, run_equalIn_agg w 9999 110 _ _ hS hp]
  simp only [Program.fieldsOf, Try.underlying110]
  go_simp
set_option maxHeartbeats 1000000 in
theorem eq_val (a : Bool) (b c : Int) (w : World) : (Op.equalIn 9999 65 (.agg #[.bool a, .int .i64 b, .int .i64 c]) (.agg #[.bool a, .int .i64 b, .int .i64 c])).run Try.prog w = .ok true w := by
  have hS : Try.prog.underlying 65 = some (.struct (Try.prog.fieldsOf 65)) := by kernel_rfl
  have hp : Try.prog.stoodInHeld 65 = false := by kernel_rfl
  rw [show (9999 : Nat) = 9998 + 1 from rfl, run_equalIn_agg w 9998 65 _ _ hS hp]
  simp only [Program.fieldsOf, Try.underlying65]
  go_simp
set_option maxRecDepth 10000 in
set_option maxHeartbeats 4000000 in
theorem eq_node (n : Node) (w : World) : (Op.equalIn 10000 67 (.agg n.cells.toArray) (.agg n.cells.toArray)).run Try.prog w = .ok true w := by
  have hS : Try.prog.underlying 67 = some (.struct (Try.prog.fieldsOf 67)) := by kernel_rfl
  have hp : Try.prog.stoodInHeld 67 = false := by kernel_rfl
  unfold Node.cells
  rw [show (10000 : Nat) = 9999 + 1 from rfl, run_equalIn_agg w 9999 67 _ _ hS hp]
  simp only [Program.fieldsOf, Try.underlying67]
  go_simp
end Go.Proofs.Ytkkmkjjbffpgnaa
