/-
  WHAT IS PROVED: what the program's package of sums computes. Condition: what each theorem names.
-/
import Derived.Test.YtlincoeldehkfaaGreatDoorRows
import Derived.Test.YtlincoeldehkfaaGreatDoorCore
import Derived.Test.YtlincoeldehkfaaGreatDoorPlain
import Derived.StillTailTactics
import Derived.Laws.CopyOwn
import Derived.Test.YtlincoeldehkfaaGreatDoorOct
import Derived.Lib.SlBytesConst
namespace Go.Proofs.YtlincoeldehkfaaGreatDoor.ShaT
open Go Go.RowKit Go.Proofs.YtlincoeldehkfaaGreatDoor Go.Proofs.YtlincoeldehkfaaGreatDoor.U32 Go.Proofs.YtlincoeldehkfaaGreatDoor.ShaS
set_option linter.unusedVariables false
set_option linter.unusedSimpArgs false

end Go.Proofs.YtlincoeldehkfaaGreatDoor.ShaT

namespace Go.Proofs.YtlincoeldehkfaaGreatDoor.ShaW
open Go Go.RowKit Go.Proofs.YtlincoeldehkfaaGreatDoor Go.Proofs.YtlincoeldehkfaaGreatDoor.U32 Go.Proofs.YtlincoeldehkfaaGreatDoor.ShaS Go.Proofs.YtlincoeldehkfaaGreatDoor.ShaT Go.Proofs.YtlincoeldehkfaaGreatDoor.Steps
set_option linter.unusedVariables false
set_option linter.unusedSimpArgs false
attribute [local go_sem high] b_add b_xor b_or b_and un_not b_shr3 b_shr10

end Go.Proofs.YtlincoeldehkfaaGreatDoor.ShaW

namespace Go.Proofs.YtlincoeldehkfaaGreatDoor.ShaA
open Go Go.RowKit Go.Proofs.YtlincoeldehkfaaGreatDoor Go.Proofs.YtlincoeldehkfaaGreatDoor.U32 Go.Proofs.YtlincoeldehkfaaGreatDoor.ShaS Go.Proofs.YtlincoeldehkfaaGreatDoor.ShaT Go.Proofs.YtlincoeldehkfaaGreatDoor.ShaW Go.Proofs.YtlincoeldehkfaaGreatDoor.Steps
set_option linter.unusedVariables false
set_option linter.unusedSimpArgs false
attribute [local go_sem high] b_add b_xor b_or b_and un_not b_shr3 b_shr10

end Go.Proofs.YtlincoeldehkfaaGreatDoor.ShaA

namespace Go.Proofs.YtlincoeldehkfaaGreatDoor.ShaB
open Go Go.RowKit Go.Proofs.YtlincoeldehkfaaGreatDoor Go.Proofs.YtlincoeldehkfaaGreatDoor.U32 Go.Proofs.YtlincoeldehkfaaGreatDoor.ShaS Go.Proofs.YtlincoeldehkfaaGreatDoor.ShaW Go.Proofs.YtlincoeldehkfaaGreatDoor.ShaA Go.Proofs.YtlincoeldehkfaaGreatDoor.Steps
set_option linter.unusedVariables false
set_option linter.unusedSimpArgs false

/-- Some bytes, and zeros behind them. -/
def pB (n : Nat) (l : List UInt8) : Array Value := (byV (l ++ List.replicate (n - l.length) 0)).toArray
end Go.Proofs.YtlincoeldehkfaaGreatDoor.ShaB

namespace Go.Proofs.YtlincoeldehkfaaGreatDoor.ShaF
open Go Go.RowKit Go.Proofs.YtlincoeldehkfaaGreatDoor Go.Proofs.YtlincoeldehkfaaGreatDoor.U32 Go.Proofs.YtlincoeldehkfaaGreatDoor.ShaS Go.Proofs.YtlincoeldehkfaaGreatDoor.OctP Go.Proofs.YtlincoeldehkfaaGreatDoor.Steps
set_option linter.unusedVariables false
set_option linter.unusedSimpArgs false

/-- The zeros that fill up. -/
def zs (n : Nat) : Nat := (119 - n % 64) % 64
def lenOf : Value → Nat
  | .slice _ l _ => l
  | _ => 0

end Go.Proofs.YtlincoeldehkfaaGreatDoor.ShaF

namespace Go.Proofs.YtlincoeldehkfaaGreatDoor.ShaM
open Go Go.RowKit Go.Proofs.YtlincoeldehkfaaGreatDoor Go.Proofs.YtlincoeldehkfaaGreatDoor.U32 Go.Proofs.YtlincoeldehkfaaGreatDoor.ShaS Go.Proofs.YtlincoeldehkfaaGreatDoor.ShaW Go.Proofs.YtlincoeldehkfaaGreatDoor.ShaA Go.Proofs.YtlincoeldehkfaaGreatDoor.ShaB Go.Proofs.YtlincoeldehkfaaGreatDoor.ShaF Go.Proofs.YtlincoeldehkfaaGreatDoor.OctP Go.Proofs.YtlincoeldehkfaaGreatDoor.Steps
set_option linter.unusedVariables false
set_option linter.unusedSimpArgs false

/-- The sum behind some blocks. -/
def acc (v : List UInt32) (b : List UInt8) : Nat → List UInt32
  | 0 => v
  | k + 1 => addB (acc v b k) ((b.drop (64 * k)).take 64)
end Go.Proofs.YtlincoeldehkfaaGreatDoor.ShaM
