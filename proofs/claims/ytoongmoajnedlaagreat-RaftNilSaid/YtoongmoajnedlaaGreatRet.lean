/-
  What calls hand back.
-/
import Derived.Test.YtoongmoajnedlaaGreatLib
set_option linter.unusedVariables false
set_option linter.unusedSimpArgs false
namespace Go.Proofs.YtoongmoajnedlaaGreat
open Go.RowKit
/-- The world has grown by blocks alone; a bool is told. -/
def RetBool (w : World) (b : Bool) (e : Ending) (w' : World) : Prop := e = .returned (.bool b) ∧ Below w.heap.size w w'
end Go.Proofs.YtoongmoajnedlaaGreat
