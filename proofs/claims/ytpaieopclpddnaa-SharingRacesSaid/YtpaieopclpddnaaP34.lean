import Derived.Test.YtpaieopclpddnaaP09
import Derived.Test.YtpaieopclpddnaaP06
import Derived.Laws.StructEq
/- Structs that equal themselves: declarations, nodes. -/
namespace Go.Proofs.Ytpaieopclpddnaa
open Go Go.RowKit
set_option maxHeartbeats 1000000 in
theorem eq_decl (p1 : ByteArray) (p2 p3 : Int) (w : World) : (Op.equalIn 10000 112 (.agg #[.string p1, .int .i64 p2, .int .i64 p3]) (.agg #[.string p1, .int .i64 p2, .int .i64 p3])).run Try.prog w = .ok true w := by
  have hS : Try.prog.underlying 112 = some (.struct (Try.prog.fieldsOf 112)) := by kernel_rfl
  have hp : Try.prog.stoodInHeld 112 = false := by kernel_rfl
  rw [show (10000 : Nat) = 9999 + 1 from rfl, run_equalIn_agg w 9999 112 _ _ hS hp]
  simp only [Program.fieldsOf, Try.underlying112]
  go_simp
set_option maxHeartbeats 1000000 in
theorem eq_val (a : Bool) (b c : Int) (w : World) : (Op.equalIn 9999 80 (.agg #[.bool a, .int .i64 b, .int .i64 c]) (.agg #[.bool a, .int .i64 b, .int .i64 c])).run Try.prog w = .ok true w := by
  have hS : Try.prog.underlying 80 = some (.struct (Try.prog.fieldsOf 80)) := by kernel_rfl
  have hp : Try.prog.stoodInHeld 80 = false := by kernel_rfl
  rw [show (9999 : Nat) = 9998 + 1 from rfl, run_equalIn_agg w 9998 80 _ _ hS hp]
  simp only [Program.fieldsOf, Try.underlying80]
  go_simp
set_option maxRecDepth 10000 in
set_option maxHeartbeats 4000000 in
theorem eq_node (n : Node) (w : World) : (Op.equalIn 10000 82 (.agg n.cells.toArray) (.agg n.cells.toArray)).run Try.prog w = .ok true w := by
  have hS : Try.prog.underlying 82 = some (.struct (Try.prog.fieldsOf 82)) := by kernel_rfl
  have hp : Try.prog.stoodInHeld 82 = false := by kernel_rfl
  unfold Node.cells
  rw [show (10000 : Nat) = 9999 + 1 from rfl, run_equalIn_agg w 9999 82 _ _ hS hp]
  simp only [Program.fieldsOf, Try.underlying82]
  go_simp
end Go.Proofs.Ytpaieopclpddnaa
