/-
  WHAT IS PROVED: what the listed words are, and which rows messages and sums among the arguments are. Condition: what each theorem names.
-/
import Derived.Test.YtdmonfimdinkeaaGreatDoorArgs
import Derived.Test.YtdmonfimdinkeaaGreatDoorWireA
import Derived.Test.YtdmonfimdinkeaaGreatDoorLaidV
namespace Go.Proofs.YtdmonfimdinkeaaGreatDoor.LaidW
open Go Go.ChangeShapes Go.WideShapes Go.RowKit Go.Proofs.YtdmonfimdinkeaaGreatDoor
set_option linter.unusedVariables false
set_option linter.unusedSimpArgs false

theorem deal_of {W : World} {rest : List (String × DataW Unit)} (h : laidMet Tryz.prog (("palaver/handover.words", Rows.laid_palaver_handover_words) :: rest) W) (k : Nat) (hk : k < 3) :
    W.cell? ⟨0, k, none⟩ = some (.string (bsOf (WireA.wordDn k))) := by
  have gW : Tryz.prog.globalNamed "palaver/handover.words" = some 0 := by kernel_rfl
  have tW : (Tryz.prog.globals[0]?).map (·.type) = some 76 := by kernel_rfl
  have a3 : Tryz.prog.underlying 76 = some (.array 3 9) := by kernel_rfl
  have a9 : Tryz.prog.underlying 9 = some .string := by kernel_rfl
  have c9 : Tryz.prog.cellsOf 9 = 1 := by kernel_rfl
  have hS : laidMet Tryz.prog (("palaver/handover.words", .agg (((List.range 3).map fun k => WireA.wordDn k).map fun l => .lit (.string l))) :: rest) W := h
  exact Laid.strs_of_head gW tW a3 a9 c9 hS k (WireA.wordDn k) (by rw [List.getElem?_map, List.getElem?_range hk]; rfl)

section
variable {H : Type} {enc : TypeId × Value → H} {w : World} {base : Nat} {spare : Nat → Bool} {held : Bool} {fuel : Nat} {cs : List Value} {x : DataW H × List MemPlace}
theorem u8_of {n : Int} (h : (Lit.int .u8 n).wf = true) : 0 ≤ n ∧ n ≤ 255 := by
  simp [Lit.wf, IntKind.min, IntKind.max, IntKind.signed, IntKind.bits] at h
  omega
theorem hash_of (hf : Fits (List.replicate 32 (some (some .u8))) cs) : ∃ l : List UInt8, l.length = 32 ∧ cs = byV l := by
  obtain ⟨hl, hk⟩ := hf
  have hl' : cs.length = 32 := by rw [← hl]; simp
  refine ⟨cs.map (fun v => match v with | .int _ n => UInt8.ofNat n.toNat | _ => 0), by rw [List.length_map]; exact hl', ?_⟩
  unfold byV
  rw [List.map_map]
  apply List.ext_getElem?
  intro i
  rw [List.getElem?_map]
  by_cases hi : i < 32
  · obtain ⟨v, hv, n, rfl, hw⟩ := hk i (some (some .u8)) (by rw [List.getElem?_replicate]; simp [hi])
    rw [hv]
    obtain ⟨h0, h1⟩ := u8_of hw
    simp only [Option.map_some, Function.comp]
    congr 2
    have : (UInt8.ofNat n.toNat).toNat = n.toNat % 256 := rfl
    rw [this]
    omega
  · rw [List.getElem?_eq_none (by omega)]
    rfl
end
end Go.Proofs.YtdmonfimdinkeaaGreatDoor.LaidW
