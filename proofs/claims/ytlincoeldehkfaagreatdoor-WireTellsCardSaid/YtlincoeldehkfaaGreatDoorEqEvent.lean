/-
  WHAT IS PROVED: what the model's '==' says of two events. No condition.
-/
import Derived.Test.YtlincoeldehkfaaGreatDoorBase
import Derived.Test.YtlincoeldehkfaaGreatDoorChecked
import Derived.Laws.StructEq
import Derived.Tactics
import Derived.Tactics2
import Derived.StillTactics
import Derived.KernelRfl
namespace Go.Proofs.YtlincoeldehkfaaGreatDoor.EqEvent
open Go Go.RowKit Go.Proofs.YtlincoeldehkfaaGreatDoor

set_option maxHeartbeats 1000000 in
theorem eqEvent (r1 s1 ky1 b1 r2 s2 ky2 b2 : ByteArray) (k1 n1 k2 n2 : Int) (w : World) : (Op.equalIn 10000 66 (.agg #[.string r1, .string s1, .int .u8 k1, .string ky1, .string b1, .int .i64 n1]) (.agg #[.string r2, .string s2, .int .u8 k2, .string ky2, .string b2, .int .i64 n2])).run Tryz.prog w =
    .ok (r1.toList == r2.toList && (s1.toList == s2.toList && (k1 == k2 && (ky1.toList == ky2.toList && (b1.toList == b2.toList && n1 == n2))))) w := by
  have u3 : Tryz.prog.underlying 2 = some (.int .i64) := by kernel_rfl
  have u4 : Tryz.prog.underlying 64 = some (.int .u8) := by kernel_rfl
  have u9 : Tryz.prog.underlying 9 = some .string := by kernel_rfl
  have hS : Tryz.prog.underlying 66 = some (.struct (Tryz.prog.fieldsOf 66)) := by kernel_rfl
  have hF : (Tryz.prog.fieldsOf 66).toList = [⟨"Room", 9, 0, false, "", "", 0⟩, ⟨"Sender", 9, 1, false, "", "", 16⟩, ⟨"Kind", 64, 2, false, "", "", 32⟩, ⟨"Key", 9, 3, false, "", "", 40⟩, ⟨"Body", 9, 4, false, "", "", 56⟩, ⟨"Nonce", 2, 5, false, "", "", 72⟩] := by kernel_rfl
  have hp : Tryz.prog.stoodInHeld 66 = false := by kernel_rfl
  rw [show (10000 : Nat) = 9999 + 1 from rfl, run_equalIn_agg w 9999 66 _ _ hS hp, hF]
  go_simp
  cases h1 : r1.toList == r2.toList <;> cases h2 : s1.toList == s2.toList <;> cases h3 : k1 == k2 <;> cases h4 : ky1.toList == ky2.toList <;> cases h5 : b1.toList == b2.toList <;> cases h6 : n1 == n2 <;> simp_all
end Go.Proofs.YtlincoeldehkfaaGreatDoor.EqEvent
