/-
  WHAT IS PROVED: what the listed words are, and which rows messages and sums among the arguments are. Condition: what each theorem names.
-/
import Derived.Test.YtooincpbmlhpbaaGreatDoorLaidV
import Derived.Test.YtooincpbmlhpbaaGreatDoorWireA
namespace Go.Proofs.YtooincpbmlhpbaaGreatDoor.LaidW
open Go Go.ChangeShapes Go.WideShapes Go.RowKit Go.Proofs.YtooincpbmlhpbaaGreatDoor
set_option linter.unusedVariables false
set_option linter.unusedSimpArgs false

section
variable {H : Type} {enc : TypeId × Value → H} {w : World} {base : Nat} {spare : Nat → Bool} {held : Bool} {fuel : Nat} {cs : List Value} {x : DataW H × List MemPlace}
theorem u8_of {n : Int} (h : (Lit.int .u8 n).wf = true) : 0 ≤ n ∧ n ≤ 255 := by
  simp [Lit.wf, IntKind.min, IntKind.max, IntKind.signed, IntKind.bits] at h
  omega
theorem hash_of (hf : Fits (List.replicate 32 (some (some .u8))) cs) : ∃ l : List UInt8, l.length = 32 ∧ cs = byV l := by
  obtain ⟨hl, hk⟩ := hf
  have hl' : cs.length = 32 := by rw [← hl]; simp
  refine ⟨cs.map (fun v => match v with | .int _ n => UInt8.ofNat n.toNat | _ => 0), by rw [List.length_map]; exact hl', ?_⟩
  unfold byV
  rw [List.map_map]
  apply List.ext_getElem?
  intro i
  rw [List.getElem?_map]
  by_cases hi : i < 32
  · obtain ⟨v, hv, n, rfl, hw⟩ := hk i (some (some .u8)) (by rw [List.getElem?_replicate]; simp [hi])
    rw [hv]
    obtain ⟨h0, h1⟩ := u8_of hw
    simp only [Option.map_some, Function.comp]
    congr 2
    have : (UInt8.ofNat n.toNat).toNat = n.toNat % 256 := rfl
    rw [this]
    omega
  · rw [List.getElem?_eq_none (by omega)]
    rfl
end
end Go.Proofs.YtooincpbmlhpbaaGreatDoor.LaidW
