import Derived.Test.YtffgnjgphkdodaaGreatDoorP09
import Derived.Test.YtffgnjgphkdodaaGreatDoorP06
import Derived.Laws.StructEq
/- Structs that equal themselves: declarations, nodes. -/
namespace Go.Proofs.YtffgnjgphkdodaaGreatDoor
open Go Go.RowKit
set_option maxHeartbeats 1000000 in
theorem eq_decl (p1 : ByteArray) (p2 p3 : Int) (w : World) : (Op.equalIn 10000 118 (.agg #[.string p1, .int .i64 p2, .int .i64 p3]) (.agg #[.string p1, .int .i64 p2, .int .i64 p3])).run Tryz.prog w = .ok true w := by
  have hS : Tryz.prog.underlying 118 = some (.struct (Tryz.prog.fieldsOf 118)) := by kernel_rfl
  have hp : Tryz.prog.stoodInHeld 118 = false := by kernel_rfl
  rw [show (10000 : Nat) = 9999 + 1 from rfl, run_equalIn_agg w 9999 118 _ _ hS hp]
  simp only [Program.fieldsOf, Tryz.underlying118]
  go_simp
set_option maxRecDepth 10000 in
set_option maxHeartbeats 4000000 in
theorem eq_node (n : Node) (w : World) : (Op.equalIn 10000 66 (.agg n.cells.toArray) (.agg n.cells.toArray)).run Tryz.prog w = .ok true w := by
  have hS : Tryz.prog.underlying 66 = some (.struct (Tryz.prog.fieldsOf 66)) := by kernel_rfl
  have hp : Tryz.prog.stoodInHeld 66 = false := by kernel_rfl
  unfold Node.cells
  rw [show (10000 : Nat) = 9999 + 1 from rfl, run_equalIn_agg w 9999 66 _ _ hS hp]
  simp only [Program.fieldsOf, Tryz.underlying66]
  go_simp
end Go.Proofs.YtffgnjgphkdodaaGreatDoor
