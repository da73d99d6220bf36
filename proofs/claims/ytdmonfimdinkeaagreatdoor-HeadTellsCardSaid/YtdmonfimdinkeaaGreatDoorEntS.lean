/-
  WHAT IS PROVED: plain laws of entries: what is signed, and its coding: no program. Condition: what each theorem names.
-/
import Derived.Test.YtdmonfimdinkeaaGreatDoorPlain
namespace Go.Proofs.YtdmonfimdinkeaaGreatDoor.EntS
open Go.Proofs.YtdmonfimdinkeaaGreatDoor Go.Proofs.YtdmonfimdinkeaaGreatDoor.OctetS Go.Proofs.YtdmonfimdinkeaaGreatDoor.IdentS Go.Proofs.YtdmonfimdinkeaaGreatDoor.ShaS

structure Ent where
  room : List UInt8
  ep : Int
  ix : Int
  prev : List UInt8
  ev : List UInt8
  sig : List UInt8

def placeB (n : Int) : Bool := decide (0 ≤ n) && decide (n ≤ 4096)
theorem place_iff {n : Int} : placeB n = true ↔ 0 ≤ n ∧ n ≤ 4096 := by simp [placeB]
def checkB (e : Ent) : Bool := roomB e.room && (placeB e.ep && (placeB e.ix && (decide (e.ev.length ≤ 8192) && decide (e.sig.length ≤ 8192))))
structure Right (e : Ent) : Prop where
  room : roomB e.room = true
  ep0 : 0 ≤ e.ep
  ep1 : e.ep ≤ 4096
  ix0 : 0 ≤ e.ix
  ix1 : e.ix ≤ 4096
  ev : e.ev.length ≤ 8192
  sig : e.sig.length ≤ 8192
theorem check_iff {e : Ent} : checkB e = true ↔ Right e := by
  unfold checkB
  simp only [Bool.and_eq_true, place_iff, decide_eq_true_eq]
  exact ⟨fun ⟨a, b, c, d, f⟩ => ⟨a, b.1, b.2, c.1, c.2, d, f⟩, fun h => ⟨h.room, ⟨h.ep0, h.ep1⟩, ⟨h.ix0, h.ix1⟩, h.ev, h.sig⟩⟩

def mark : List UInt8 := [101, 110, 116, 114, 121]
def parts (e : Ent) : List (List UInt8) := [mark, e.room, num e.ep.toNat, num e.ix.toNat, e.prev, e.ev]
def text (e : Ent) : List UInt8 := OctetS.list (parts e)
def textOf (e : Ent) : List UInt8 := if checkB e then text e else []
theorem num_place {n : Int} (h0 : 0 ≤ n) (h1 : n ≤ 4096) : (num n.toNat).length ≤ 2 := OctetS.num_length2 (by omega)
theorem Right.fits {e : Ent} (h : Right e) (hp : e.prev.length = 32) : fits (parts e) = true := by
  rw [fits_iff]
  refine ⟨by simp [parts], fun t ht => ?_⟩
  have hr := room_length h.room
  have h1 := num_place h.ep0 h.ep1
  have h2 := num_place h.ix0 h.ix1
  have h3 := h.ev
  simp only [parts, List.mem_cons, List.not_mem_nil, or_false] at ht
  rcases ht with rfl | rfl | rfl | rfl | rfl | rfl
  · simp [mark]
  · omega
  · omega
  · omega
  · omega
  · exact h3

end Go.Proofs.YtdmonfimdinkeaaGreatDoor.EntS
