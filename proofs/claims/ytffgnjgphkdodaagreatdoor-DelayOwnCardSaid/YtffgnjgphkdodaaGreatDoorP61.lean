import Derived.Test.YtffgnjgphkdodaaGreatDoorP08
import Derived.Laws.Closers25b
/- The source machine in plain Lean: situations, and what an action makes of one. -/
namespace Go.Proofs.YtffgnjgphkdodaaGreatDoor
open Go Go.RowKit
/-- A situation. -/
structure Mach where
  at_ : List Nat
  slots : List (List Int)
  mem : List Int
  holders : List Int
  prints : List (Int × Int)
def Mach.slot (m : Mach) (t : Nat) (j : Int) : Int := (((m.slots[t]?).getD [])[j.toNat]?).getD 0
def Mach.val (m : Mach) (t : Nat) (v : Val) : Int := if v.isSlot then m.slot t v.slot else v.word
/-- What was done: Thread, Node, Kind, Thing, Word, Put. -/
structure Did where
  thread : Int
  node : Int
  kind : Int
  thing : Int
  word : Int
  put : Int
deriving DecidableEq
def Did.cells (d : Did) : List Value := [.int .i64 d.thread, .int .i64 d.node, .int .u8 d.kind, .int .i64 d.thing, .int .i64 d.word, .int .i64 d.put]
end Go.Proofs.YtffgnjgphkdodaaGreatDoor
