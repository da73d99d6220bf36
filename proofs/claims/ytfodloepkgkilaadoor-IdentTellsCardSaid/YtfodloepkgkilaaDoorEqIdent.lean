/-
  WHAT IS PROVED: what the model's '==' says of two identifiers. No condition.
-/
import Derived.Test.YtfodloepkgkilaaDoorIdentS
import Derived.Test.YtfodloepkgkilaaDoorBase
import Derived.Test.YtfodloepkgkilaaDoorChecked
import Derived.Laws.StructEq
import Derived.Tactics
import Derived.Tactics2
import Derived.StillTactics
import Derived.KernelRfl
namespace Go.Proofs.YtfodloepkgkilaaDoor.EqIdent
open Go Go.RowKit Go.Proofs.YtfodloepkgkilaaDoor

theorem eqIdent (k1 s1 k2 s2 : Int) (n1 n2 : ByteArray) (w : World) : (Op.equalIn 10000 24 (.agg #[.int .u8 k1, .string n1, .int .i64 s1]) (.agg #[.int .u8 k2, .string n2, .int .i64 s2])).run Tryd.prog w = .ok (k1 == k2 && (n1.toList == n2.toList && s1 == s2)) w := by
  have u3 : Tryd.prog.underlying 3 = some (.int .i64) := by kernel_rfl
  have a3 : (isAgg 3).run Tryd.prog w = .ok false w := by kernel_rfl
  have u4 : Tryd.prog.underlying 22 = some (.int .u8) := by kernel_rfl
  have u9 : Tryd.prog.underlying 9 = some .string := by kernel_rfl
  have hS : Tryd.prog.underlying 24 = some (.struct (Tryd.prog.fieldsOf 24)) := by kernel_rfl
  have hF : (Tryd.prog.fieldsOf 24).toList = [⟨"Kind", 22, 0, false, "", "", 0⟩, ⟨"Name", 9, 1, false, "", "", 8⟩, ⟨"Server", 3, 2, false, "", "", 24⟩] := by kernel_rfl
  have hp : Tryd.prog.stoodInHeld 24 = false := by kernel_rfl
  rw [show (10000 : Nat) = 9999 + 1 from rfl, run_equalIn_agg w 9999 24 _ _ hS hp, hF]
  go_simp
  cases hk : k1 == k2 <;> cases hn : n1.toList == n2.toList <;> cases hs : s1 == s2 <;> simp_all
end Go.Proofs.YtfodloepkgkilaaDoor.EqIdent
