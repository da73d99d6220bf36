/-
  WHAT IS PROVED: the program's event package reads an event of its bytes, whatever the bytes are; the statements' own check of the events answers true. Condition: the listed variables hold what 'VarsE' says, and the bytes are not longer than the theorem says.
-/
import Derived.Below
import Derived.BigQuiet
import Derived.BigRegionIn
import Derived.Deep.AppendLies
import Derived.Deep.AppendSrc
import Derived.Deep.DeepMust
import Derived.Deep.Quiet
import Derived.Deep.QuietTactic
import Derived.Deep.RegionHeld3
import Derived.Handy
import Derived.KernelRfl
import Derived.Laws.BitsAllLaws
import Derived.Laws.BytesString
import Derived.Laws.Rows
import Derived.Laws.StructEq
import Derived.Laws.Tables
import Derived.Lib.ConvBytes
import Derived.Lib.Hide
import Derived.Lib.Strings
import Derived.LoopIn
import Derived.LoopNIn
import Derived.Maps.AppendAt
import Derived.OrdersHeld
import Derived.OrdersIn
import Derived.Outline
import Derived.OwnWalk
import Derived.OwnWalkIn
import Derived.ProofKit
import Derived.RangeFuncBound
import Derived.RangeFuncBox
import Derived.RangeFuncCalls
import Derived.RangeFuncLeaves
import Derived.RangeFuncNested
import Derived.Shelf.Abstract
import Derived.Shelf.RegionOpen
import Derived.StillTactics
import Derived.Tactics
import Derived.Tactics2
import Derived.TacticsInMore
import Derived.Test.YtdmonfimdinkeaaGreatDoorChecked
import Derived.Test.YtdmonfimdinkeaaGreatDoorRows
import Derived.Test.YtdmonfimdinkeaaGreatDoorShelf
import Derived.WalkKit
import Derived.WalkLawsBesides
import Derived.WalkSpells
namespace Go.Proofs.YtdmonfimdinkeaaGreatDoor.LivesE
open Go Go.RowKit Go.Proofs.YtdmonfimdinkeaaGreatDoor
set_option linter.unusedVariables false
set_option linter.unusedSimpArgs false
attribute [-go_sem] run_equalIn_agg

def s0 : List UInt8 := [6, 7, 33, 104, 97, 108, 108, 58, 48, 6, 64, 97, 110, 110, 58, 48, 7, 109, 101, 115, 115, 97, 103, 101, 0, 2, 104, 105, 1, 7]

end Go.Proofs.YtdmonfimdinkeaaGreatDoor.LivesE
