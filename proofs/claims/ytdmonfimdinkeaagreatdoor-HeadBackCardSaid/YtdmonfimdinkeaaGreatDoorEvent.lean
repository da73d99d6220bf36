/-
  WHAT IS PROVED: what the program's package of events computes. Condition: what each theorem names.
-/
import Derived.Test.YtdmonfimdinkeaaGreatDoorIdent
import Derived.Test.YtdmonfimdinkeaaGreatDoorPlain
import Derived.Test.YtdmonfimdinkeaaGreatDoorOct
namespace Go.Proofs.YtdmonfimdinkeaaGreatDoor.EventP
open Go Go.RowKit Go.Proofs.YtdmonfimdinkeaaGreatDoor Go.Proofs.YtdmonfimdinkeaaGreatDoor.IdentS Go.Proofs.YtdmonfimdinkeaaGreatDoor.EventS Go.Proofs.YtdmonfimdinkeaaGreatDoor.OctP Go.Proofs.YtdmonfimdinkeaaGreatDoor.IdentP Go.Proofs.YtdmonfimdinkeaaGreatDoor.IdentQ Go.Proofs.YtdmonfimdinkeaaGreatDoor.IdentR
set_option linter.unusedVariables false
set_option linter.unusedSimpArgs false

def RB (v : Value) (w : World) (e : Ending) (w' : World) : Prop := e = .returned v ∧ Below w.heap.size w w'

def evV (r s : ByteArray) (k : Int) (ky b : ByteArray) (n : Int) : Value := .agg #[.string r, .string s, .int .u8 k, .string ky, .string b, .int .i64 n]
def evOf (r s : ByteArray) (k : Int) (ky b : ByteArray) (n : Int) : Ev := ⟨bl r, bl s, k, bl ky, bl b, n⟩

def stateB (k : Int) : Bool := EventS.known k && (decide (k ≠ 6) && decide (k ≠ 7))
theorem room_at (w0 : World) (s : ByteArray) (hs : s.size ≤ 140737488351232) : ∃ n : Int, ∀ w, VarsI w → Calls Tryz.prog 49 #[.string s] w (RB (.tuple #[.int .i64 n, .bool (roomB (bl s))]) w) := by
  unfold roomB
  cases h : serverOf 2 (bl s) with
  | none => exact ⟨0, fun w hv => by have := Room_ok w s hv hs; unfold ServPost at this; rw [h] at this; exact this⟩
  | some n => exact ⟨n, fun w hv => by have := Room_ok w s hv hs; unfold ServPost at this; rw [h] at this; exact this⟩

end Go.Proofs.YtdmonfimdinkeaaGreatDoor.EventP

namespace Go.Proofs.YtdmonfimdinkeaaGreatDoor.EventC
open Go Go.RowKit Go.Proofs.YtdmonfimdinkeaaGreatDoor Go.Proofs.YtdmonfimdinkeaaGreatDoor.IdentS Go.Proofs.YtdmonfimdinkeaaGreatDoor.EventS Go.Proofs.YtdmonfimdinkeaaGreatDoor.OctP Go.Proofs.YtdmonfimdinkeaaGreatDoor.IdentP Go.Proofs.YtdmonfimdinkeaaGreatDoor.IdentQ Go.Proofs.YtdmonfimdinkeaaGreatDoor.IdentR Go.Proofs.YtdmonfimdinkeaaGreatDoor.EventP
set_option linter.unusedVariables false
set_option linter.unusedSimpArgs false

def whyOf (b : Bool) : Int := if b then 0 else 2

end Go.Proofs.YtdmonfimdinkeaaGreatDoor.EventC

namespace Go.Proofs.YtdmonfimdinkeaaGreatDoor.EventB
open Go Go.RowKit Go.Proofs.YtdmonfimdinkeaaGreatDoor Go.Proofs.YtdmonfimdinkeaaGreatDoor.OctetS Go.Proofs.YtdmonfimdinkeaaGreatDoor.IdentS Go.Proofs.YtdmonfimdinkeaaGreatDoor.EventS Go.Proofs.YtdmonfimdinkeaaGreatDoor.OctP Go.Proofs.YtdmonfimdinkeaaGreatDoor.OctQ Go.Proofs.YtdmonfimdinkeaaGreatDoor.IdentP Go.Proofs.YtdmonfimdinkeaaGreatDoor.EventP Go.Proofs.YtdmonfimdinkeaaGreatDoor.EventC
set_option linter.unusedVariables false
set_option linter.unusedSimpArgs false

theorem sl_built {w : World} {b n : Nat} {cs : Array Value} {t : TypeId} (h : w.heap[b]? = some (.cells cs t (0, 0))) (hn : n = cs.size) (hm : n ≤ maxLen) : Sl w (.slice (some ⟨b, 0, none⟩) n n) 1 n cs.toList := by
  subst hn
  refine ⟨by simp, .inr ⟨⟨b, 0, none⟩, cs.size, rfl, Nat.le_refl _, hm, fun j u hu => ?_⟩⟩
  rw [show (Addr.add ⟨b, 0, none⟩ j : Addr) = ⟨b, j, none⟩ by unfold Addr.add; cases j <;> simp]
  rw [cell_row h]
  simpa using hu

theorem cell_alloc {w : World} {p : Addr} {v : Value} (h : w.cell? p = some v) (o : Obj) : (w.alloc o).cell? p = some v :=
  (((Below.refl _ w).alloc (Nat.le_refl _) o).cell (World.block_lt_of_cell? w _ h)).trans h

def bytesOf (x : Ev) : List UInt8 := if checkB x then EventS.bytes x else []

end Go.Proofs.YtdmonfimdinkeaaGreatDoor.EventB

namespace Go.Proofs.YtdmonfimdinkeaaGreatDoor.EventK
open Go Go.RowKit Go.Proofs.YtdmonfimdinkeaaGreatDoor Go.Proofs.YtdmonfimdinkeaaGreatDoor.IdentS Go.Proofs.YtdmonfimdinkeaaGreatDoor.EventS Go.Proofs.YtdmonfimdinkeaaGreatDoor.OctP Go.Proofs.YtdmonfimdinkeaaGreatDoor.IdentP Go.Proofs.YtdmonfimdinkeaaGreatDoor.EventP
set_option linter.unusedVariables false
set_option linter.unusedSimpArgs false

theorem kind_hit {s : List UInt8} {k : Nat} (h1 : 1 ≤ k) (h9 : k < 9) (hlt : ∀ j, 1 ≤ j → j < k → wordN j ≠ s) (h : wordN k = s) : kindW s = k := by
  have hk : k = 1 ∨ k = 2 ∨ k = 3 ∨ k = 4 ∨ k = 5 ∨ k = 6 ∨ k = 7 ∨ k = 8 := by omega
  subst h
  rcases hk with rfl | rfl | rfl | rfl | rfl | rfl | rfl | rfl <;> decide
theorem kind_miss {s : List UInt8} (h : ∀ j, 1 ≤ j → j < 9 → wordN j ≠ s) : kindW s = 0 := by
  unfold kindW
  rw [if_neg (h 1 (by omega) (by omega)), if_neg (h 2 (by omega) (by omega)), if_neg (h 3 (by omega) (by omega)), if_neg (h 4 (by omega) (by omega)), if_neg (h 5 (by omega) (by omega)), if_neg (h 6 (by omega) (by omega)), if_neg (h 7 (by omega) (by omega)), if_neg (h 8 (by omega) (by omega))]

end Go.Proofs.YtdmonfimdinkeaaGreatDoor.EventK

namespace Go.Proofs.YtdmonfimdinkeaaGreatDoor.EventR
open Go Go.RowKit Go.Proofs.YtdmonfimdinkeaaGreatDoor Go.Proofs.YtdmonfimdinkeaaGreatDoor.OctetS Go.Proofs.YtdmonfimdinkeaaGreatDoor.IdentS Go.Proofs.YtdmonfimdinkeaaGreatDoor.EventS Go.Proofs.YtdmonfimdinkeaaGreatDoor.OctP Go.Proofs.YtdmonfimdinkeaaGreatDoor.OctQ Go.Proofs.YtdmonfimdinkeaaGreatDoor.OctG Go.Proofs.YtdmonfimdinkeaaGreatDoor.OctA Go.Proofs.YtdmonfimdinkeaaGreatDoor.IdentP Go.Proofs.YtdmonfimdinkeaaGreatDoor.EventP Go.Proofs.YtdmonfimdinkeaaGreatDoor.EventC Go.Proofs.YtdmonfimdinkeaaGreatDoor.EventK
set_option linter.unusedVariables false
set_option linter.unusedSimpArgs false

def readEV : Option Ev → Value
  | some x => .tuple #[evV (bsOf x.room) (bsOf x.sender) x.kind (bsOf x.key) (bsOf x.body) x.nonce, .int .i64 0]
  | none => .tuple #[evV ByteArray.empty ByteArray.empty 0 ByteArray.empty ByteArray.empty 0, .int .i64 6]
def EvPost (l : List UInt8) (w : World) (e : Ending) (w' : World) : Prop := e = .returned (readEV (EventS.parse l)) ∧ Below w.heap.size w w'

/-- A block of an event's six cells, written anew. -/
def set6 (w : World) (B : Nat) (v0 v1 v2 v3 v4 v5 : Value) : World := (((((w.setCell ⟨B, 0, none⟩ v0).setCell ⟨B, 1, none⟩ v1).setCell ⟨B, 2, none⟩ v2).setCell ⟨B, 3, none⟩ v3).setCell ⟨B, 4, none⟩ v4).setCell ⟨B, 5, none⟩ v5
theorem set6_row {w : World} {B : Nat} {x0 x1 x2 x3 x4 x5 : Value} {t : TypeId} (h : w.heap[B]? = some (.cells #[x0, x1, x2, x3, x4, x5] t (0, 0))) (v0 v1 v2 v3 v4 v5 : Value) :
    (set6 w B v0 v1 v2 v3 v4 v5).heap[B]? = some (.cells #[v0, v1, v2, v3, v4, v5] t (0, 0)) := by
  unfold set6
  exact heap_setCell_same (heap_setCell_same (heap_setCell_same (heap_setCell_same (heap_setCell_same (heap_setCell_same h _) _) _) _) _) _
theorem set6_below {n : Nat} {w0 w : World} {B : Nat} (h : Below n w0 w) (hB : n ≤ B) (v0 v1 v2 v3 v4 v5 : Value) : Below n w0 (set6 w B v0 v1 v2 v3 v4 v5) := by
  unfold set6
  exact (((((h.setCell (p := ⟨B, 0, none⟩) hB _).setCell (p := ⟨B, 1, none⟩) hB _).setCell (p := ⟨B, 2, none⟩) hB _).setCell (p := ⟨B, 3, none⟩) hB _).setCell (p := ⟨B, 4, none⟩) hB _).setCell (p := ⟨B, 5, none⟩) hB _

def evZero : Array Value := #[.string ByteArray.empty, .string ByteArray.empty, .int .u8 0, .string ByteArray.empty, .string ByteArray.empty, .int .i64 0]

/-- Six texts that are read: their cells. -/
theorem list6 {w0 w : World} {v : Value} {a b c d f g : List UInt8} (h : ListAt w0 w v [a, b, c, d, f, g]) :
    ∃ B cap, v = .slice (some ⟨B, 0, none⟩) 6 cap ∧ w0.heap.size ≤ B ∧ w.cell? ⟨B, 0, none⟩ = some (.string (bsOf a)) ∧ w.cell? ⟨B, 1, none⟩ = some (.string (bsOf b)) ∧ w.cell? ⟨B, 2, none⟩ = some (.string (bsOf c)) ∧
      w.cell? ⟨B, 3, none⟩ = some (.string (bsOf d)) ∧ w.cell? ⟨B, 4, none⟩ = some (.string (bsOf f)) ∧ w.cell? ⟨B, 5, none⟩ = some (.string (bsOf g)) := by
  unfold ListAt at h
  have hs := Sl.ofOwn h
  rcases h.2 with ⟨_, h0⟩ | ⟨B, cap, cur, rfl, hB, _⟩
  · simp at h0
  · rcases hs.2 with ⟨h0, _⟩ | ⟨a', cap', e, _, _, hc⟩
    · cases h0
    · simp only [Value.slice.injEq, Option.some.injEq] at e
      obtain ⟨rfl, _, rfl⟩ := e
      exact ⟨B, cap, rfl, hB, hc 0 _ rfl, hc 1 _ rfl, hc 2 _ rfl, hc 3 _ rfl, hc 4 _ rfl, hc 5 _ rfl⟩

theorem cell_alloc {w : World} {p : Addr} {v : Value} (h : w.cell? p = some v) (o : Obj) : (w.alloc o).cell? p = some v :=
  (((Below.refl _ w).alloc (Nat.le_refl _) o).cell (World.block_lt_of_cell? w _ h)).trans h
theorem set6_far {w : World} {B c : Nat} (h : c ≠ B) (v0 v1 v2 v3 v4 v5 : Value) : (set6 w B v0 v1 v2 v3 v4 v5).heap[c]? = w.heap[c]? := by
  unfold set6
  rw [heap_setCell_far _ h, heap_setCell_far _ h, heap_setCell_far _ h, heap_setCell_far _ h, heap_setCell_far _ h, heap_setCell_far _ h]
theorem set6_cell {w : World} {B c j : Nat} {v0 v1 v2 v3 v4 v5 v : Value} (h : c ≠ B) (hc : w.cell? ⟨c, j, none⟩ = some v) : (set6 w B v0 v1 v2 v3 v4 v5).cell? ⟨c, j, none⟩ = some v := by
  unfold World.cell? at hc ⊢
  simp only [set6_far h] at hc ⊢
  exact hc

end Go.Proofs.YtdmonfimdinkeaaGreatDoor.EventR
