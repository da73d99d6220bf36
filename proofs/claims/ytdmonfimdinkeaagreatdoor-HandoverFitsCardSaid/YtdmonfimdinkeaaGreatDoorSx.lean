/-
  WHAT IS PROVED: laws of lists and arrays, under short names. No condition.
-/
import Derived.WalkKit
namespace Go.Proofs.YtdmonfimdinkeaaGreatDoor
section
variable {α : Type _}
theorem sx1 {xs : List α} {i : Nat} (h : i < xs.toArray.size) : xs.toArray[i] = xs[i]'(by simpa using h) := rfl
theorem sx2 (a : α) (as : List α) (h : 0 < (a :: as).length) : (a :: as)[0] = a := rfl
theorem sx3 (a : α) (as : List α) (i : Nat) (h : i + 1 < (a :: as).length) : (a :: as)[i + 1] = as[i]'(by simpa using h) := rfl
theorem sx4 (l : List α) (i : Nat) (a : α) : l.toArray.setIfInBounds i a = (l.set i a).toArray := List.setIfInBounds_toArray l i a
theorem sx5 {x : α} {xs : List α} {a : α} : (x :: xs).set 0 a = a :: xs := rfl
theorem sx6 {x : α} {xs : List α} {i : Nat} {a : α} : (x :: xs).set (i + 1) a = x :: xs.set i a := rfl
end
end Go.Proofs.YtdmonfimdinkeaaGreatDoor
