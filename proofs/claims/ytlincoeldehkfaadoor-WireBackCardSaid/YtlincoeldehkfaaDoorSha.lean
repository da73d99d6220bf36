/-
  WHAT IS PROVED: what the program's package of sums computes. Condition: what each theorem names.
-/
import Derived.Test.YtlincoeldehkfaaDoorRows
import Derived.Test.YtlincoeldehkfaaDoorCore
import Derived.Test.YtlincoeldehkfaaDoorPlain
import Derived.StillTailTactics
import Derived.Laws.CopyOwn
import Derived.Test.YtlincoeldehkfaaDoorOct
import Derived.Lib.SlBytesConst
namespace Go.Proofs.YtlincoeldehkfaaDoor.ShaT
open Go Go.RowKit Go.Proofs.YtlincoeldehkfaaDoor Go.Proofs.YtlincoeldehkfaaDoor.U32 Go.Proofs.YtlincoeldehkfaaDoor.ShaS
set_option linter.unusedVariables false
set_option linter.unusedSimpArgs false

end Go.Proofs.YtlincoeldehkfaaDoor.ShaT

namespace Go.Proofs.YtlincoeldehkfaaDoor.ShaW
open Go Go.RowKit Go.Proofs.YtlincoeldehkfaaDoor Go.Proofs.YtlincoeldehkfaaDoor.U32 Go.Proofs.YtlincoeldehkfaaDoor.ShaS Go.Proofs.YtlincoeldehkfaaDoor.ShaT Go.Proofs.YtlincoeldehkfaaDoor.Steps
set_option linter.unusedVariables false
set_option linter.unusedSimpArgs false
attribute [local go_sem high] b_add b_xor b_or b_and un_not b_shr3 b_shr10

end Go.Proofs.YtlincoeldehkfaaDoor.ShaW

namespace Go.Proofs.YtlincoeldehkfaaDoor.ShaA
open Go Go.RowKit Go.Proofs.YtlincoeldehkfaaDoor Go.Proofs.YtlincoeldehkfaaDoor.U32 Go.Proofs.YtlincoeldehkfaaDoor.ShaS Go.Proofs.YtlincoeldehkfaaDoor.ShaT Go.Proofs.YtlincoeldehkfaaDoor.ShaW Go.Proofs.YtlincoeldehkfaaDoor.Steps
set_option linter.unusedVariables false
set_option linter.unusedSimpArgs false
attribute [local go_sem high] b_add b_xor b_or b_and un_not b_shr3 b_shr10

end Go.Proofs.YtlincoeldehkfaaDoor.ShaA

namespace Go.Proofs.YtlincoeldehkfaaDoor.ShaB
open Go Go.RowKit Go.Proofs.YtlincoeldehkfaaDoor Go.Proofs.YtlincoeldehkfaaDoor.U32 Go.Proofs.YtlincoeldehkfaaDoor.ShaS Go.Proofs.YtlincoeldehkfaaDoor.ShaW Go.Proofs.YtlincoeldehkfaaDoor.ShaA Go.Proofs.YtlincoeldehkfaaDoor.Steps
set_option linter.unusedVariables false
set_option linter.unusedSimpArgs false

/-- Some bytes, and zeros behind them. -/
def pB (n : Nat) (l : List UInt8) : Array Value := (byV (l ++ List.replicate (n - l.length) 0)).toArray
end Go.Proofs.YtlincoeldehkfaaDoor.ShaB

namespace Go.Proofs.YtlincoeldehkfaaDoor.ShaF
open Go Go.RowKit Go.Proofs.YtlincoeldehkfaaDoor Go.Proofs.YtlincoeldehkfaaDoor.U32 Go.Proofs.YtlincoeldehkfaaDoor.ShaS Go.Proofs.YtlincoeldehkfaaDoor.OctP Go.Proofs.YtlincoeldehkfaaDoor.Steps
set_option linter.unusedVariables false
set_option linter.unusedSimpArgs false

/-- The zeros that fill up. -/
def zs (n : Nat) : Nat := (119 - n % 64) % 64
def lenOf : Value → Nat
  | .slice _ l _ => l
  | _ => 0

end Go.Proofs.YtlincoeldehkfaaDoor.ShaF

namespace Go.Proofs.YtlincoeldehkfaaDoor.ShaM
open Go Go.RowKit Go.Proofs.YtlincoeldehkfaaDoor Go.Proofs.YtlincoeldehkfaaDoor.U32 Go.Proofs.YtlincoeldehkfaaDoor.ShaS Go.Proofs.YtlincoeldehkfaaDoor.ShaW Go.Proofs.YtlincoeldehkfaaDoor.ShaA Go.Proofs.YtlincoeldehkfaaDoor.ShaB Go.Proofs.YtlincoeldehkfaaDoor.ShaF Go.Proofs.YtlincoeldehkfaaDoor.OctP Go.Proofs.YtlincoeldehkfaaDoor.Steps
set_option linter.unusedVariables false
set_option linter.unusedSimpArgs false

/-- The sum behind some blocks. -/
def acc (v : List UInt32) (b : List UInt8) : Nat → List UInt32
  | 0 => v
  | k + 1 => addB (acc v b k) ((b.drop (64 * k)).take 64)
end Go.Proofs.YtlincoeldehkfaaDoor.ShaM
