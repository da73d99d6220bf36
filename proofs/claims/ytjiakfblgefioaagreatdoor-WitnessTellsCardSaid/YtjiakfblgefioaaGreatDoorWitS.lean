/-
  WHAT IS PROVED: deeds as cells, and what the scripts must be. Condition: none.
-/
import Derived.Test.YtjiakfblgefioaaGreatDoorEnt
import Derived.Test.YtjiakfblgefioaaGreatDoorEntS
import Derived.Test.YtjiakfblgefioaaGreatDoorRowsX
import Derived.Test.YtjiakfblgefioaaGreatDoorWr
namespace Go.Proofs.YtjiakfblgefioaaGreatDoor.WitS
open Go Go.RowKit Go.Shelf Go.Proofs.YtjiakfblgefioaaGreatDoor Go.Proofs.YtjiakfblgefioaaGreatDoor.OctetS Go.Proofs.YtjiakfblgefioaaGreatDoor.IdentS Go.Proofs.YtjiakfblgefioaaGreatDoor.EventS Go.Proofs.YtjiakfblgefioaaGreatDoor.EntS Go.Proofs.YtjiakfblgefioaaGreatDoor.OctP Go.Proofs.YtjiakfblgefioaaGreatDoor.OctQ Go.Proofs.YtjiakfblgefioaaGreatDoor.IdentP Go.Proofs.YtjiakfblgefioaaGreatDoor.IdentR Go.Proofs.YtjiakfblgefioaaGreatDoor.EventP Go.Proofs.YtjiakfblgefioaaGreatDoor.EventC Go.Proofs.YtjiakfblgefioaaGreatDoor.EventB Go.Proofs.YtjiakfblgefioaaGreatDoor.EntP Go.Proofs.YtjiakfblgefioaaGreatDoor.RowsX
set_option linter.unusedVariables false
set_option linter.unusedSimpArgs false

/-- A deed. -/
structure Dd where
  k : Int
  who : Int
  n : Int
  text : ByteArray
  bits : Int
def Dd.cs (d : Dd) : List Value := [.int .u8 d.k, .int .i64 d.who, .int .i64 d.n, .string d.text, .int .u8 d.bits]
abbrev ddV (l : List Dd) : List Value := l.flatMap Dd.cs
theorem ddF : RowFn 5 Dd.cs := ⟨fun _ => rfl, fun x u hu => by
  unfold Dd.cs at hu
  simp only [List.mem_cons, List.not_mem_nil, or_false] at hu
  rcases hu with rfl | rfl | rfl | rfl | rfl <;> rfl⟩
def ddZero : Value := .agg #[.int .u8 0, .int .i64 0, .int .i64 0, .string ⟨#[]⟩, .int .u8 0]
theorem tyDeeds : SliceTy Tryz.prog 25 49 5 48 ddZero := SliceTy.mk' (by kernel_rfl) (by kernel_rfl) rfl (by omega)
theorem tyPlay : SliceTy Tryz.prog 42 49 5 48 ddZero := SliceTy.mk' (by kernel_rfl) (by kernel_rfl) rfl (by omega)

abbrev roomT : ByteArray := ⟨#[33, 104, 97, 108, 108, 58, 48]⟩
abbrev userT : ByteArray := ⟨#[64, 97, 110, 110, 58, 48]⟩
abbrev joinT : ByteArray := ⟨#[106, 111, 105, 110]⟩
abbrev sayT : ByteArray := ⟨#[115, 97, 121]⟩
def tx (k : Int) (ky b : ByteArray) (n : Int) : ByteArray := bsOf (bytesOf (evOf roomT userT k ky b n))
theorem tx_size (k : Int) (ky b : ByteArray) (n : Int) : (tx k ky b n).size ≤ 620 := by
  unfold tx bytesOf
  rw [size_bsOf]
  split
  · rename_i h
    exact (EventS.check_iff.1 h).length
  · simp
def nthT (k : Int) : ByteArray := if k = 1 then tx 1 ⟨#[]⟩ ⟨#[]⟩ 0 else if k = 2 then tx 2 userT joinT 0 else tx 6 ⟨#[]⟩ sayT k
theorem nthT_size (k : Int) : (nthT k).size ≤ 620 := by
  unfold nthT
  split
  · exact tx_size ..
  · split <;> exact tx_size ..
def cl (t : ByteArray) : Dd := ⟨1, 0, 0, t, 0⟩
def dl (i : Int) : Dd := ⟨6, 0, i, ⟨#[]⟩, 0⟩
def three (k : Nat) : List Dd := [cl (nthT ((k : Int) + 1)), dl 0, dl 0]
def longL (n : Nat) : List Dd := (List.range n).flatMap three
theorem longL_succ (n : Nat) : longL (n + 1) = longL n ++ three n := by
  unfold longL
  rw [List.range_succ, List.flatMap_append]
  simp
theorem longL_length : ∀ n : Nat, (longL n).length = 3 * n
  | 0 => rfl
  | n + 1 => by
    rw [longL_succ, List.length_append, longL_length n]
    simp [three]
    omega
def high (n : Int) : Int := if n ≤ 1 then 0 else if n ≤ 2 then 1 else if n ≤ 4 then 2 else if n ≤ 8 then 3 else if n ≤ 16 then 4 else if n ≤ 32 then 5 else if n ≤ 64 then 6 else 7
def lieT (ev : ByteArray) : ByteArray := bsOf (EntS.textOf (entOf roomT 0 0 (List.replicate 32 0) ev ⟨#[]⟩))
def twoL : List Dd := [⟨10, 0, 1, lieT (nthT 1), 0⟩, ⟨10, 0, 2, lieT (tx 1 ⟨#[]⟩ ⟨#[]⟩ 1), 0⟩, dl 0, dl 0, ⟨3, 1, 0, ⟨#[]⟩, 0⟩, dl 1, dl 2]
def turnL : List Dd := [cl (nthT 1), dl 0, dl 0, cl (nthT 2), dl 0, dl 0, cl (tx 8 ⟨#[]⟩ ⟨#[49]⟩ 3), dl 0, dl 0, dl 0, dl 0, cl (nthT 4), dl 0, dl 0, dl 0]
def setV (l h : Int) : Value := .agg #[.int .i64 3, .int .u64 l, .int .i64 h, .int .i64 1048576, .int .i64 2]

end Go.Proofs.YtjiakfblgefioaaGreatDoor.WitS
