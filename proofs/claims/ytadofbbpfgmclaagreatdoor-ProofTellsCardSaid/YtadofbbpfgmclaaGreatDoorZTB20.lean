/-
  WHAT IS PROVED: contracts of functions, and plain laws. Condition: what each theorem names.
-/
import Derived.Test.YtadofbbpfgmclaaGreatDoorS0
import Derived.Test.YtadofbbpfgmclaaGreatDoorZTBH11
set_option linter.unusedVariables false
set_option linter.unusedSimpArgs false
set_option maxRecDepth 100000
set_option maxHeartbeats 4000000
namespace Go.Proofs.YtadofbbpfgmclaaGreatDoor
namespace LaidW
open Go Go.ChangeShapes Go.WideShapes Go.RowKit
section
variable {H : Type} {enc : TypeId × Value → H} {w : World} {base : Nat} {spare : Nat → Bool} {held : Bool} {fuel : Nat} {cs : List Value} {x : DataW H × List MemPlace}
theorem u8_of {n : Int} (h : (Lit.int .u8 n).wf = true) : 0 ≤ n ∧ n ≤ 255 := by
 simp [Lit.wf, IntKind.min, IntKind.max, IntKind.signed, IntKind.bits] at h
 omega
theorem hash_of (hf : Fits (List.replicate 32 (some (some .u8))) cs) : ∃ l : List UInt8, l.length = 32 ∧ cs = byV l := by
 obtain ⟨hl, hk⟩ := hf
 have hl' : cs.length = 32 := by rw [← hl]; simp
 refine ⟨cs.map (fun v => match v with | .int _ n => UInt8.ofNat n.toNat | _ => 0), by rw [List.length_map]; exact hl', ?_⟩
 unfold byV
 rw [List.map_map]
 apply List.ext_getElem?
 intro i
 rw [List.getElem?_map]
 by_cases hi : i < 32
 ·obtain ⟨v, hv, n, rfl, hw⟩ := hk i (some (some .u8)) (by rw [List.getElem?_replicate]; simp [hi])
  rw [hv]
  obtain ⟨h0, h1⟩ := u8_of hw
  simp only [Option.map_some, Function.comp]
  congr 2
  have : (UInt8.ofNat n.toNat).toNat = n.toNat % 256 := rfl
  rw [this]
  omega
 ·rw [List.getElem?_eq_none (by omega)]
  rfl
end
end LaidW
namespace LaidG
open Go Go.ChangeShapes Go.WideShapes Go.RowKit EntP WireT TreeA BookA
abbrev grantKs : List CK := [some (some .i64), some (some .i64), some (some .i64), some (some .i64)] ++ List.replicate 32 (some (some .u8))
theorem flatGrant : flat Tryz.prog 5 47 = some grantKs := by kernel_rfl
instance : Inhabited Gr' := ⟨⟨0, 0, 0, 0, CV⟩⟩
theorem gr_of (cs : List Value) (h : Fits grantKs cs) : ∃ x : Gr', cs = x.cs ∧ True := by
 have hl : cs.length = 36 := h.1.symm.trans (by simp [grantKs])
 have hi : ∀ j, j < 4 → ∃ n : Int, cs[j]? = some (.int .i64 n) := fun j hj => by
  obtain ⟨v, hv, n, rfl, _⟩ := h.2 j (some (some .i64)) (by
   match j, hj with
   | 0, _ => rfl
   | 1, _ => rfl
   | 2, _ => rfl
   | 3, _ => rfl)
  exact ⟨n, hv⟩
 obtain ⟨a, ha⟩ := hi 0 (by omega)
 obtain ⟨b, hb⟩ := hi 1 (by omega)
 obtain ⟨c, hc⟩ := hi 2 (by omega)
 obtain ⟨d, hd⟩ := hi 3 (by omega)
 have hf : Fits (List.replicate 32 (some (some .u8))) (cs.drop 4) := ⟨by simp [hl], fun i k hk => by
  have hk2 : grantKs[4 + i]? = some k := by
   rw [List.getElem?_append_right (by simp), show 4 + i - ([some (some .i64), some (some .i64), some (some .i64), some (some .i64)] : List CK).length = i by simp]
   exact hk
  obtain ⟨v, hv, hok⟩ := h.2 (4 + i) k hk2
  exact ⟨v, by rw [List.getElem?_drop]; exact hv, hok⟩⟩
 obtain ⟨pv, hpv, hcp⟩ := LaidW.hash_of hf
 refine ⟨⟨a, b, c, d, ⟨pv, hpv⟩⟩, ?_, trivial⟩
 unfold Gr'.cs
 apply List.ext_getElem?
 intro i
 rcases Nat.lt_or_ge i 4 with hi4 | hi4
 ·rw [List.getElem?_append_left (by simpa using hi4)]
  rcases i with _ | _ | _ | _ | i
  ·exact ha
  ·exact hb
  ·exact hc
  ·exact hd
  ·omega
 ·rw [List.getElem?_append_right (by simpa using hi4), show i - ([.int .i64 a, .int .i64 b, .int .i64 c, .int .i64 d] : List Value).length = i - 4 by simp]
  show cs[i]? = (byV pv)[i - 4]?
  rw [← hcp, List.getElem?_drop, show 4 + (i - 4) = i by omega]
end LaidG
end Go.Proofs.YtadofbbpfgmclaaGreatDoor
