/-
  WHAT IS PROVED: small laws over whatever program on numbers of 32 bits: what Go's operations give, said of Lean's own UInt32. No condition beside those that each law names.
-/
import Derived.Test.YtfodloepkgkilaaDoorBytes
import Derived.Laws.BitsAllLaws
namespace Go.Proofs.YtfodloepkgkilaaDoor.U32
open Go Go.RowKit Go.Proofs.YtfodloepkgkilaaDoor
set_option linter.unusedVariables false
set_option linter.unusedSimpArgs false

/-- A number of 32 bits, as a cell has it. -/
def u (x : UInt32) : Int := x.toNat
theorem u_lt (x : UInt32) : u x < 4294967296 := by have := x.toNat_lt; unfold u; omega
theorem u_ge (x : UInt32) : 0 ≤ u x := by unfold u; omega
theorem u_toNat (x : UInt32) : (u x).toNat = x.toNat := rfl
abbrev V (x : UInt32) : Value := .int .u32 (u x)

section
variable (t : TypeId) (yk : IntKind) (x y : UInt32)
theorem add' : (u x + u y) % 4294967296 = u (x + y) := by
  unfold u; rw [UInt32.toNat_add]; omega
theorem b_add : binOp .add t (.int .u32 (u x)) (.int .u32 (u y)) = pure (.int .u32 (u (x + y))) := by
  rw [binOp_add]
  show pure (Value.int .u32 (IntKind.u32.wrap (u x + u y))) = _
  rw [IntKind.wrap_u32', add']
theorem b_xor : binOp .xor t (.int .u32 (u x)) (.int .u32 (u y)) = pure (.int .u32 (u (x ^^^ y))) := by
  rw [binOp_xor, intBits_xor]
  congr 2
  show bits .xor .u32 (x.toNat : Int) (y.toNat : Int) = _
  rw [u32_xor_nat _ _ x.toNat_lt y.toNat_lt, ← UInt32.toNat_xor]
  rfl
theorem b_or : binOp .or t (.int .u32 (u x)) (.int .u32 (u y)) = pure (.int .u32 (u (x ||| y))) := by
  rw [binOp_or, intBits_or]
  congr 2
  show bits .or .u32 (x.toNat : Int) (y.toNat : Int) = _
  rw [u32_or_nat _ _ x.toNat_lt y.toNat_lt, ← UInt32.toNat_or]
  rfl
theorem b_and : binOp .and t (.int .u32 (u x)) (.int .u32 (u y)) = pure (.int .u32 (u (x &&& y))) := by
  rw [binOp_and, intBits_and]
  congr 2
  show bits .and .u32 (x.toNat : Int) (y.toNat : Int) = _
  rw [u32_and_nat _ _ x.toNat_lt y.toNat_lt, ← UInt32.toNat_and]
  rfl
theorem b_not : binOp .xor t (.int .u32 (u x)) (.int .u32 4294967295) = pure (.int .u32 (u (~~~x))) := by
  have := b_xor t x 0xFFFFFFFF
  have e : u 0xFFFFFFFF = 4294967295 := by decide
  rw [e] at this
  rw [this]
  congr 3
  apply UInt32.toBitVec_inj.1
  rw [UInt32.toBitVec_xor, UInt32.toBitVec_not, show (0xFFFFFFFF : UInt32).toBitVec = BitVec.allOnes 32 by decide, BitVec.xor_allOnes]
theorem shr_nat (n : Nat) (hn : n < 32) : u x / 2 ^ n = u (x >>> UInt32.ofNat n) := by
  unfold u
  rw [UInt32.toNat_shiftRight, UInt32.toNat_ofNat', Nat.shiftRight_eq_div_pow, Nat.mod_eq_of_lt (a := n) (b := 2 ^ 32) (by omega), Nat.mod_eq_of_lt (a := n) (b := 32) hn]
  push_cast
  rfl
theorem shl_nat (n : Nat) (hn : n < 32) : (u x * 2 ^ n) % 4294967296 = u (x <<< UInt32.ofNat n) := by
  unfold u
  rw [UInt32.toNat_shiftLeft, UInt32.toNat_ofNat', Nat.shiftLeft_eq, Nat.mod_eq_of_lt (a := n) (b := 2 ^ 32) (by omega), Nat.mod_eq_of_lt (a := n) (b := 32) hn]
  rw [Int.natCast_emod, Int.natCast_mul, Int.natCast_pow]
  rfl
theorem b_shr (n : Nat) (hn : n < 32) : binOp .shr t (.int .u32 (u x)) (.int yk n) = pure (.int .u32 (u (x >>> UInt32.ofNat n))) := by
  rw [binOp_shr, shift_shr _ _ _ _ (by omega) (by simp [IntKind.bits]; omega), Int.toNat_natCast, shr_nat x n hn]
theorem b_shl (n : Nat) (hn : n < 32) : binOp .shl t (.int .u32 (u x)) (.int yk n) = pure (.int .u32 (u (x <<< UInt32.ofNat n))) := by
  rw [binOp_shl, shift_shl _ _ _ _ (by omega) (by simp [IntKind.bits]; omega), Int.toNat_natCast, IntKind.wrap_u32', shl_nat x n hn]
theorem un_not : Op.unary .xor (.int .u32 (u x)) = pure (.int .u32 (u (~~~x))) := by
  have h := b_xor 0 0xFFFFFFFF x
  have e : u 0xFFFFFFFF = 4294967295 := by decide
  rw [e, binOp_xor] at h
  have : Op.unary .xor (.int .u32 (u x)) = Op.intBits .xor .u32 4294967295 (u x) := rfl
  rw [this, h]
  congr 3
theorem b_shr3 : binOp .shr t (.int .u32 (u x)) (.int yk 3) = pure (.int .u32 (u (x >>> 3))) := b_shr t yk x 3 (by omega)
theorem b_shr10 : binOp .shr t (.int .u32 (u x)) (.int yk 10) = pure (.int .u32 (u (x >>> 10))) := b_shr t yk x 10 (by omega)
end
end Go.Proofs.YtfodloepkgkilaaDoor.U32
