/- A world in which the library's tables lie as their text lays them: chapters 10 and later. -/
import Derived.Test.YtcfopechdlgioaaGreatDoorCard
namespace Go.Proofs.YtcfopechdlgioaaGreatDoor
open Go.ChangeShapes Go.WideShapes Go.ChangeAt Go.RowKit

def datCell : DataW Unit → Value
  | .lit (.int k n) => .int k n
  | _ => undef
def datCells : DataW Unit → Array Value
  | .agg l => (l.map datCell).toArray
  | _ => #[]
def putCells (c : Array Value) : Obj → Obj
  | .cells _ t frozen => .cells c t frozen
  | o => o
noncomputable def laidWorld (os : Os) : World :=
  { World.holding Tryz.prog os ⟨#[], #[], []⟩ with heap := (((World.holding Tryz.prog os ⟨#[], #[], []⟩).heap.modify 1 (putCells (datCells Rows.laid_math_bits_deBruijn32tab))).modify 2 (putCells (datCells Rows.laid_math_bits_deBruijn64tab))).modify 0 (putCells (datCells Rows.laid_internal_strconv_uint64pow10)) }
end Go.Proofs.YtcfopechdlgioaaGreatDoor
