/-
  WHAT IS PROVED: what keys' sums come to, over natural numbers, where the kernel reckons fast. Plain: no program. Condition: what each theorem names.
-/
import Derived.Test.YtdmonfimdinkeaaGreatDoorKeyS
import Derived.Test.YtdmonfimdinkeaaGreatDoorNSha
noncomputable section
namespace Go.Proofs.YtdmonfimdinkeaaGreatDoor.KeyN
open Go.Proofs.YtdmonfimdinkeaaGreatDoor.ShaS Go.Proofs.YtdmonfimdinkeaaGreatDoor.KeyS Go.Proofs.YtdmonfimdinkeaaGreatDoor.NSha
set_option linter.unusedVariables false
set_option maxRecDepth 100000

def onN : Nat → List Nat → List Nat
  | 0, x => x
  | n + 1, x => onN n (NSha.mid (2 :: x))
def startN (seed : List Nat) (j : Nat) : List Nat := NSha.mid (3 :: j % 256 :: seed)
def digMN (t : List Nat) : List Nat := (NSha.mid t).flatMap digs4
def digitsN (t : List Nat) : List Nat := digMN t ++ digs4 (lackOf (digMN t))
/-- The sum of so many steps from the starts. -/
def stepsN (seed : List Nat) (m : Nat → Nat) : List Nat := NSha.sum (4 :: (List.range 68).flatMap fun j => onN (m j) (startN seed j))
def steps (seed : List UInt8) (m : Nat → Nat) : List UInt8 := sum (4 :: (List.range 68).flatMap fun j => on (m j) (KeyS.start seed j))
theorem bN_cons (x : UInt8) (l : List UInt8) : bN (x :: l) = x.toNat :: bN l := rfl
theorem bN_append (a b : List UInt8) : bN (a ++ b) = bN a ++ bN b := List.map_append
theorem on_eq : ∀ (n : Nat) (x : List UInt8), bN (on n x) = onN n (bN x)
  | 0, x => rfl
  | n + 1, x => by
    rw [on, onN, on_eq n]
    have h := mid_eq (2 :: x)
    rw [bN_cons] at h
    rw [← h]
    rfl
theorem start_eq (seed : List UInt8) (j : Nat) : bN (KeyS.start seed j) = startN (bN seed) j := by
  unfold KeyS.start startN
  rw [← mid_eq, bN_cons, bN_cons, UInt8.toNat_ofNat']
  rfl
theorem flat_bN (f : Nat → List UInt8) (g : Nat → List Nat) (h : ∀ j, bN (f j) = g j) : ∀ l : List Nat, bN (l.flatMap f) = l.flatMap g
  | [] => rfl
  | x :: r => by rw [List.flatMap_cons, List.flatMap_cons, bN_append, h, flat_bN f g h r]
theorem steps_eq (seed : List UInt8) (m : Nat → Nat) : bN (steps seed m) = stepsN (bN seed) m := by
  unfold steps stepsN
  rw [← sum_eq, bN_cons, flat_bN _ (fun j => onN (m j) (startN (bN seed) j)) (fun j => by rw [on_eq, start_eq])]
  rfl
theorem digM_eq (t : List UInt8) : digM t = digMN (bN t) := by
  unfold digM digMN
  rw [mid_eq]
  generalize ShaS.mid t = l
  induction l with
  | nil => rfl
  | cons x r ih => rw [List.flatMap_cons, bN_cons, List.flatMap_cons, ih]
theorem digits_eq (t : List UInt8) : digits t = digitsN (bN t) := by
  unfold digits digitsN
  rw [digM_eq]
theorem pub_steps (seed : List UInt8) : pub seed = steps seed (fun _ => 3) := rfl
theorem recover_steps (seed text other : List UInt8) : recover other (sign seed text) = steps seed (fun j => (digits text).getD j 0 + (3 - (digits other).getD j 0)) := by
  have h : recT (sign seed text) (digits other) 68 = 4 :: (List.range 68).flatMap fun j => on ((digits text).getD j 0 + (3 - (digits other).getD j 0)) (KeyS.start seed j) := by
    unfold recT sign signN
    refine congrArg (List.cons 4) (flat_same _ _ _ (fun j hj => ?_))
    rw [piece (fun k => on_length (start_length seed k) _) 68 j (by simpa using hj), on_add]
  unfold recover steps
  rw [h]
theorem above_eq (l r : List UInt8) : bN (above l r) = NSha.sum (1 :: (bN l ++ bN r)) := by
  unfold above
  rw [← sum_eq, bN_cons, bN_append]
  rfl
theorem place_eq (seed : List UInt8) (i : Nat) : bN (placeSeed seed i) = NSha.mid (5 :: i % 256 :: bN seed) := by
  unfold placeSeed
  rw [← mid_eq, bN_cons, bN_cons, UInt8.toNat_ofNat']
  rfl
/-- A seed's sum, reckoned. -/
theorem steps_of {seed : List UInt8} {m : Nat → Nat} {s l : List Nat} (hs : bN seed = s) (h : (stepsN s m == l) = true) : bN (steps seed m) = l := by
  rw [steps_eq, hs]
  exact eq_of_beq h

/-! ### The key that the statements' own checks use: seed "s", height one -/
def p0 : List Nat := [102, 156, 13, 65, 161, 239, 112, 28, 109, 250, 112, 69, 244, 65, 172, 77]
def p1 : List Nat := [152, 117, 106, 139, 83, 164, 80, 143, 201, 124, 249, 93, 236, 98, 30, 89]
theorem p0_eq : bN (placeSeed [115] 0) = p0 := by
  rw [place_eq]
  exact eq_of_beq (by decide +kernel)
theorem p1_eq : bN (placeSeed [115] 1) = p1 := by
  rw [place_eq]
  exact eq_of_beq (by decide +kernel)
theorem leaf0 : bN (pub (placeSeed [115] 0)) = [133, 132, 226, 9, 67, 101, 124, 7, 112, 140, 113, 84, 118, 64, 209, 109, 80, 56, 159, 43, 199, 54, 251, 52, 131, 108, 173, 108, 134, 93, 87, 198] := by
  rw [pub_steps]
  exact steps_of p0_eq (by decide +kernel)
theorem leaf1 : bN (pub (placeSeed [115] 1)) = [116, 114, 126, 235, 204, 156, 53, 229, 79, 85, 47, 115, 7, 142, 228, 51, 173, 35, 236, 27, 117, 190, 31, 217, 22, 236, 238, 183, 255, 165, 187, 204] := by
  rw [pub_steps]
  exact steps_of p1_eq (by decide +kernel)
theorem map_two {α : Type} (f : Nat → α) : (List.range (2 ^ 1)).map f = [f 0, f 1] := rfl
theorem root_pair (a b : List UInt8) : root 1 [a, b] = above a b := rfl
theorem root_two (seed : List UInt8) : rootOf seed 1 = above (pub (placeSeed seed 0)) (pub (placeSeed seed 1)) := by
  unfold rootOf leavesN
  rw [map_two, root_pair]
theorem root_s : bN (rootOf [115] 1) = [1, 182, 6, 211, 135, 147, 53, 5, 245, 241, 205, 252, 197, 223, 231, 32, 130, 117, 182, 46, 173, 16, 191, 101, 209, 159, 7, 102, 245, 140, 192, 251] := by
  rw [root_two, above_eq, leaf0, leaf1]
  exact eq_of_beq (by decide +kernel)
theorem path_one (l : Hs) : path 1 l 0 = [l.getD 1 []] := rfl
theorem climb_one (x p : List UInt8) : climb x 0 [p] = above x p := rfl
/-- What another text makes of a signature at the first place. -/
theorem climb_other (text other : List UInt8) : climbOf 1 other (sigOf [115] 1 0 text) = above (recover other (sign (placeSeed [115] 0) text)) (pub (placeSeed [115] 1)) := by
  have h1 := climbOf_sig (h := 1) (i := 0) (by decide) (by decide) [115] text other
  have h2 := leavesN_get [115] (n := 2 ^ 1) (i := 1) (by decide)
  generalize leavesN [115] (2 ^ 1) = l at h1 h2
  rw [path_one, h2, climb_one] at h1
  exact h1
theorem other_no {text other : List UInt8} {t o : List Nat} {r b : List Nat} (ht : bN text = t) (ho : bN other = o) (hr : (stepsN p0 (fun j => (digitsN t).getD j 0 + (3 - (digitsN o).getD j 0)) == r) = true) (hb : (NSha.sum (1 :: (r ++ [116, 114, 126, 235, 204, 156, 53, 229, 79, 85, 47, 115, 7, 142, 228, 51, 173, 35, 236, 27, 117, 190, 31, 217, 22, 236, 238, 183, 255, 165, 187, 204])) == b) = true) (hne : b ≠ [1, 182, 6, 211, 135, 147, 53, 5, 245, 241, 205, 252, 197, 223, 231, 32, 130, 117, 182, 46, 173, 16, 191, 101, 209, 159, 7, 102, 245, 140, 192, 251]) : climbOf 1 other (sigOf [115] 1 0 text) ≠ rootOf [115] 1 := by
  intro h
  have h1 := congrArg bN h
  have h2 : bN (recover other (sign (placeSeed [115] 0) text)) = r := by
    rw [recover_steps, digits_eq, digits_eq, ht, ho]
    exact steps_of p0_eq hr
  rw [climb_other, root_s, above_eq, leaf1, h2, eq_of_beq hb] at h1
  exact hne h1

end Go.Proofs.YtdmonfimdinkeaaGreatDoor.KeyN
end
