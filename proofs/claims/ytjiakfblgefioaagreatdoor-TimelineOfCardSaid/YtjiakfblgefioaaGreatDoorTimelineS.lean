/-
  WHAT IS PROVED: plain laws of a room's lines: what entries come to, and what comes later. No program, no condition beside those that each theorem names.
-/
import Derived.Test.YtjiakfblgefioaaGreatDoorPlain
namespace Go.Proofs.YtjiakfblgefioaaGreatDoor.TimelineS
open Go.Proofs.YtjiakfblgefioaaGreatDoor Go.Proofs.YtjiakfblgefioaaGreatDoor.OctetS Go.Proofs.YtjiakfblgefioaaGreatDoor.IdentS Go.Proofs.YtjiakfblgefioaaGreatDoor.EventS Go.Proofs.YtjiakfblgefioaaGreatDoor.ShaS Go.Proofs.YtjiakfblgefioaaGreatDoor.RedactS

/-- An entry, as far as it is read: its index, and its event's bytes. -/
structure Ent where
  index : Int
  text : List UInt8
/-- A line. -/
structure Line where
  index : Int
  sender : List UInt8
  body : List UInt8
  gone : Bool

/-- The event of a kind that an entry has. -/
def evK (k : Int) (x : Ent) : Option Ev := match EventS.parse x.text with
  | some e => if e.kind = k then some e else none
  | none => none
def takes (m : Ev) (x : Ent) : Bool := match evK 7 x with
  | some r => decide (r.body = hex (refSum m))
  | none => false
def goneIn (m : Ev) (r : List Ent) : Bool := r.any (takes m)
def lineOf (i : Int) (m : Ev) (g : Bool) : Line := ⟨i, m.sender, if g then [] else m.body, g⟩
/-- The lines of entries. -/
def linesOf : List Ent → List Line
  | [] => []
  | x :: r => match evK 6 x with
    | some m => lineOf x.index m (goneIn m r) :: linesOf r
    | none => linesOf r
/-- Which were taken back. -/
def goneOf : Nat → List Ent → List Nat
  | _, [] => []
  | i, x :: r => match evK 6 x with
    | some m => if goneIn m r then i :: goneOf (i + 1) r else goneOf (i + 1) r
    | none => goneOf (i + 1) r

/-- One line later on. -/
def Later (a b : Line) : Prop := b.index = a.index ∧ b.sender = a.sender ∧ (a.gone = true → b.gone = true) ∧ (b = a ∨ (b.gone = true ∧ b.body = []))

theorem goneIn_append (m : Ev) (r t : List Ent) : goneIn m (r ++ t) = (goneIn m r || goneIn m t) := by unfold goneIn; rw [List.any_append]
theorem later_line (i : Int) (m : Ev) (g h : Bool) : Later (lineOf i m g) (lineOf i m (g || h)) := by
  cases g <;> cases h <;> simp [Later, lineOf]
/-- What comes later adds lines. -/
theorem lines_later : ∀ (l t : List Ent), ∃ a b, linesOf (l ++ t) = a ++ b ∧ a.length = (linesOf l).length ∧ ∀ (i : Nat) (x y : Line), (linesOf l)[i]? = some x → a[i]? = some y → Later x y
  | [], t => ⟨[], linesOf t, rfl, rfl, fun i x y h => by simp [linesOf] at h⟩
  | x :: r, t => by
    obtain ⟨a, b, h1, h2, h3⟩ := lines_later r t
    simp only [List.cons_append, linesOf]
    cases evK 6 x with
    | none => exact ⟨a, b, h1, h2, h3⟩
    | some m =>
      simp only
      rw [goneIn_append]
      refine ⟨lineOf x.index m (goneIn m r || goneIn m t) :: a, b, by rw [h1]; rfl, by simp [h2], fun i u v hu hv => ?_⟩
      cases i with
      | zero =>
        simp only [List.getElem?_cons_zero, Option.some.injEq] at hu hv
        subst hu hv
        exact later_line _ _ _ _
      | succ i =>
        simp only [List.getElem?_cons_succ] at hu hv
        exact h3 i u v hu hv
theorem gone_later : ∀ (l t : List Ent) (i : Nat), (goneOf i l).length ≤ (goneOf i (l ++ t)).length
  | [], t, i => by simp [goneOf]
  | x :: r, t, i => by
    have ih := gone_later r t (i + 1)
    simp only [List.cons_append, goneOf]
    cases evK 6 x with
    | none => exact ih
    | some m =>
      simp only
      rw [goneIn_append]
      cases goneIn m r <;> cases goneIn m t <;> simp <;> omega

/-! ### Texts of lines -/
def plain (s : List UInt8) : List UInt8 := s.map fun c => if c.toNat < 32 then 32 else c
def textOf (l : Line) : List UInt8 := l.sender ++ [58, 32] ++ (if l.gone then [45] else plain l.body) ++ [10]
def textsOf (l : List Line) : List UInt8 := l.flatMap textOf
def feeds (s : List UInt8) : Nat := s.countP fun c => decide (c = 10)

theorem plain_no_feed (s : List UInt8) : feeds (plain s) = 0 := by
  unfold feeds plain
  rw [List.countP_map, List.countP_eq_zero]
  intro c _
  simp only [Function.comp_apply, decide_eq_true_eq]
  split
  · decide
  · rename_i h
    intro e
    rw [e] at h
    exact h (by decide)
theorem feeds_append (a b : List UInt8) : feeds (a ++ b) = feeds a + feeds b := by unfold feeds; rw [List.countP_append]
theorem feeds_text (l : Line) : feeds (textOf l) = feeds l.sender + 1 := by
  unfold textOf
  rw [feeds_append, feeds_append, feeds_append]
  have h1 : feeds [58, 32] = 0 := by decide
  have h2 : feeds [10] = 1 := by decide
  have h3 : feeds (if l.gone then [45] else plain l.body) = 0 := by
    split
    · decide
    · exact plain_no_feed _
  omega

end Go.Proofs.YtjiakfblgefioaaGreatDoor.TimelineS
