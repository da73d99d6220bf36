/-
  WHAT IS PROVED: a block of a few cells that is written anew, cell by cell. No condition beside what each theorem names.
-/
import Derived.Test.YtjiakfblgefioaaGreatDoorCore
namespace Go.Proofs.YtjiakfblgefioaaGreatDoor.Sets
open Go Go.RowKit Go.Proofs.YtjiakfblgefioaaGreatDoor
set_option linter.unusedVariables false

def set2 (w : World) (B : Nat) (v0 v1 : Value) : World := (w.setCell ⟨B, 0, none⟩ v0).setCell ⟨B, 1, none⟩ v1
theorem set2_row {w : World} {B : Nat} {x0 x1 : Value} {t : TypeId} (h : w.heap[B]? = some (.cells #[x0, x1] t (0, 0))) (v0 v1 : Value) : (set2 w B v0 v1).heap[B]? = some (.cells #[v0, v1] t (0, 0)) :=
  heap_setCell_same (heap_setCell_same h _) _
theorem set2_far {w : World} {B c : Nat} (h : c ≠ B) (v0 v1 : Value) : (set2 w B v0 v1).heap[c]? = w.heap[c]? := by
  unfold set2
  rw [heap_setCell_far _ h, heap_setCell_far _ h]
theorem set2_size (w : World) (B : Nat) (v0 v1 : Value) : (set2 w B v0 v1).heap.size = w.heap.size := by simp [set2, World.setCell]
theorem set2_below {K : Nat} {a w : World} {B : Nat} (h : Below K a w) (hB : K ≤ B) (v0 v1 : Value) : Below K a (set2 w B v0 v1) :=
  (h.setCell (p := ⟨B, 0, none⟩) hB _).setCell (p := ⟨B, 1, none⟩) hB _
def set3 (w : World) (B : Nat) (v0 v1 v2 : Value) : World := ((w.setCell ⟨B, 0, none⟩ v0).setCell ⟨B, 1, none⟩ v1).setCell ⟨B, 2, none⟩ v2
theorem set3_row {w : World} {B : Nat} {x0 x1 x2 : Value} {t : TypeId} (h : w.heap[B]? = some (.cells #[x0, x1, x2] t (0, 0))) (v0 v1 v2 : Value) : (set3 w B v0 v1 v2).heap[B]? = some (.cells #[v0, v1, v2] t (0, 0)) :=
  heap_setCell_same (heap_setCell_same (heap_setCell_same h _) _) _
theorem set3_far {w : World} {B c : Nat} (h : c ≠ B) (v0 v1 v2 : Value) : (set3 w B v0 v1 v2).heap[c]? = w.heap[c]? := by
  unfold set3
  rw [heap_setCell_far _ h, heap_setCell_far _ h, heap_setCell_far _ h]
theorem set3_size (w : World) (B : Nat) (v0 v1 v2 : Value) : (set3 w B v0 v1 v2).heap.size = w.heap.size := by simp [set3, World.setCell]
theorem set3_below {K : Nat} {a w : World} {B : Nat} (h : Below K a w) (hB : K ≤ B) (v0 v1 v2 : Value) : Below K a (set3 w B v0 v1 v2) :=
  ((h.setCell (p := ⟨B, 0, none⟩) hB _).setCell (p := ⟨B, 1, none⟩) hB _).setCell (p := ⟨B, 2, none⟩) hB _
def set4 (w : World) (B : Nat) (v0 v1 v2 v3 : Value) : World := (((w.setCell ⟨B, 0, none⟩ v0).setCell ⟨B, 1, none⟩ v1).setCell ⟨B, 2, none⟩ v2).setCell ⟨B, 3, none⟩ v3
theorem set4_row {w : World} {B : Nat} {x0 x1 x2 x3 : Value} {t : TypeId} (h : w.heap[B]? = some (.cells #[x0, x1, x2, x3] t (0, 0))) (v0 v1 v2 v3 : Value) : (set4 w B v0 v1 v2 v3).heap[B]? = some (.cells #[v0, v1, v2, v3] t (0, 0)) :=
  heap_setCell_same (heap_setCell_same (heap_setCell_same (heap_setCell_same h _) _) _) _
theorem set4_far {w : World} {B c : Nat} (h : c ≠ B) (v0 v1 v2 v3 : Value) : (set4 w B v0 v1 v2 v3).heap[c]? = w.heap[c]? := by
  unfold set4
  rw [heap_setCell_far _ h, heap_setCell_far _ h, heap_setCell_far _ h, heap_setCell_far _ h]
theorem set4_size (w : World) (B : Nat) (v0 v1 v2 v3 : Value) : (set4 w B v0 v1 v2 v3).heap.size = w.heap.size := by simp [set4, World.setCell]
theorem set4_below {K : Nat} {a w : World} {B : Nat} (h : Below K a w) (hB : K ≤ B) (v0 v1 v2 v3 : Value) : Below K a (set4 w B v0 v1 v2 v3) :=
  (((h.setCell (p := ⟨B, 0, none⟩) hB _).setCell (p := ⟨B, 1, none⟩) hB _).setCell (p := ⟨B, 2, none⟩) hB _).setCell (p := ⟨B, 3, none⟩) hB _
def set5 (w : World) (B : Nat) (v0 v1 v2 v3 v4 : Value) : World := ((((w.setCell ⟨B, 0, none⟩ v0).setCell ⟨B, 1, none⟩ v1).setCell ⟨B, 2, none⟩ v2).setCell ⟨B, 3, none⟩ v3).setCell ⟨B, 4, none⟩ v4
theorem set5_row {w : World} {B : Nat} {x0 x1 x2 x3 x4 : Value} {t : TypeId} (h : w.heap[B]? = some (.cells #[x0, x1, x2, x3, x4] t (0, 0))) (v0 v1 v2 v3 v4 : Value) : (set5 w B v0 v1 v2 v3 v4).heap[B]? = some (.cells #[v0, v1, v2, v3, v4] t (0, 0)) :=
  heap_setCell_same (heap_setCell_same (heap_setCell_same (heap_setCell_same (heap_setCell_same h _) _) _) _) _
theorem set5_far {w : World} {B c : Nat} (h : c ≠ B) (v0 v1 v2 v3 v4 : Value) : (set5 w B v0 v1 v2 v3 v4).heap[c]? = w.heap[c]? := by
  unfold set5
  rw [heap_setCell_far _ h, heap_setCell_far _ h, heap_setCell_far _ h, heap_setCell_far _ h, heap_setCell_far _ h]
theorem set5_size (w : World) (B : Nat) (v0 v1 v2 v3 v4 : Value) : (set5 w B v0 v1 v2 v3 v4).heap.size = w.heap.size := by simp [set5, World.setCell]
theorem set5_below {K : Nat} {a w : World} {B : Nat} (h : Below K a w) (hB : K ≤ B) (v0 v1 v2 v3 v4 : Value) : Below K a (set5 w B v0 v1 v2 v3 v4) :=
  ((((h.setCell (p := ⟨B, 0, none⟩) hB _).setCell (p := ⟨B, 1, none⟩) hB _).setCell (p := ⟨B, 2, none⟩) hB _).setCell (p := ⟨B, 3, none⟩) hB _).setCell (p := ⟨B, 4, none⟩) hB _

end Go.Proofs.YtjiakfblgefioaaGreatDoor.Sets
