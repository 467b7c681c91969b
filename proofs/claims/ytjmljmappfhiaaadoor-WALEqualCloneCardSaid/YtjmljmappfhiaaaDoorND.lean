/- What lists of bools, automata and trees in memory are, and rows of them. No condition. -/
import Derived.Test.YtjmljmappfhiaaaDoorNReg
set_option linter.unusedSimpArgs false
set_option linter.unusedVariables false
set_option maxHeartbeats 400000
namespace Go.PP
open Go Go.RowKit

/-- Nothing that was there has changed. -/
abbrev Fix (w w' : World) : Prop := Mut (fun _ => False) w w'

end Go.PP
