/-
  WHAT IS PROVED: two lists of deeds that are one are one; what '==' says of deeds and setups. No condition beside what each theorem names.
-/
import Derived.Test.YtjiakfblgefioaaGreatDoorWitS
import Derived.Test.YtjiakfblgefioaaGreatDoorEqHash
namespace Go.Proofs.YtjiakfblgefioaaGreatDoor.WitQ
open Go Go.RowKit Go.Proofs.YtjiakfblgefioaaGreatDoor Go.Proofs.YtjiakfblgefioaaGreatDoor.OctP Go.Proofs.YtjiakfblgefioaaGreatDoor.EventP Go.Proofs.YtjiakfblgefioaaGreatDoor.RowsX Go.Proofs.YtjiakfblgefioaaGreatDoor.WitS
set_option linter.unusedVariables false
set_option linter.unusedSimpArgs false

theorem eqDd (a b c : Int) (d : ByteArray) (e : Int) (w : World) : (Op.equalIn 10000 49 (.agg #[.int .u8 a, .int .i64 b, .int .i64 c, .string d, .int .u8 e]) (.agg #[.int .u8 a, .int .i64 b, .int .i64 c, .string d, .int .u8 e])).run Tryz.prog w = .ok true w := by
  have u3 : Tryz.prog.underlying 3 = some (.int .i64) := by kernel_rfl
  have u4 : Tryz.prog.underlying 47 = some (.int .u8) := by kernel_rfl
  have u5 : Tryz.prog.underlying 5 = some (.int .u8) := by kernel_rfl
  have u9 : Tryz.prog.underlying 9 = some .string := by kernel_rfl
  have hS : Tryz.prog.underlying 49 = some (.struct (Tryz.prog.fieldsOf 49)) := by kernel_rfl
  have hF : (Tryz.prog.fieldsOf 49).toList = [⟨"Kind", 47, 0, false, "", "", 0⟩, ⟨"Who", 3, 1, false, "", "", 8⟩, ⟨"N", 3, 2, false, "", "", 16⟩, ⟨"Text", 9, 3, false, "", "", 24⟩, ⟨"Bits", 5, 4, false, "", "", 40⟩] := by kernel_rfl
  have hp : Tryz.prog.stoodInHeld 49 = false := by kernel_rfl
  rw [show (10000 : Nat) = 9999 + 1 from rfl, run_equalIn_agg w 9999 49 _ _ hS hp, hF]
  go_simp
theorem guardDd : Go.Program.eqGuardType Tryz.prog Tryz.prog.depth 49 = false := by kernel_rfl
theorem eqSet (a b c d e : Int) (w : World) : (Op.equalIn 10000 24 (.agg #[.int .i64 a, .int .u64 b, .int .i64 c, .int .i64 d, .int .i64 e]) (.agg #[.int .i64 a, .int .u64 b, .int .i64 c, .int .i64 d, .int .i64 e])).run Tryz.prog w = .ok true w := by
  have u3 : Tryz.prog.underlying 3 = some (.int .i64) := by kernel_rfl
  have u4 : Tryz.prog.underlying 22 = some (.int .u64) := by kernel_rfl
  have u5 : Tryz.prog.underlying 2 = some (.int .i64) := by kernel_rfl
  have hS : Tryz.prog.underlying 24 = some (.struct (Tryz.prog.fieldsOf 24)) := by kernel_rfl
  have hF : (Tryz.prog.fieldsOf 24).toList = [⟨"Servers", 3, 0, false, "", "", 0⟩, ⟨"Liars", 22, 1, false, "", "", 8⟩, ⟨"High", 3, 2, false, "", "", 16⟩, ⟨"Size", 3, 3, false, "", "", 24⟩, ⟨"Gap", 2, 4, false, "", "", 32⟩] := by kernel_rfl
  have hp : Tryz.prog.stoodInHeld 24 = false := by kernel_rfl
  rw [show (10000 : Nat) = 9999 + 1 from rfl, run_equalIn_agg w 9999 24 _ _ hS hp, hF]
  go_simp
theorem guardSet : Go.Program.eqGuardType Tryz.prog Tryz.prog.depth 24 = false := by kernel_rfl
attribute [local go_sem] eqDd
attribute [-go_sem] run_equalIn_agg

theorem dd_cells {w : World} {a : Option Addr} {cap : Nat} {l : List Dd} (h : Sl w (.slice a l.length cap) 5 l.length (ddV l)) :
    ∀ k x, l[k]? = some x → ∃ ab ao, a = some ⟨ab, ao, none⟩ ∧ ab < w.heap.size ∧ w.cell? ⟨ab, ao + k * 5, none⟩ = some (.int .u8 x.k) ∧ w.cell? ⟨ab, ao + k * 5 + 1, none⟩ = some (.int .i64 x.who) ∧ w.cell? ⟨ab, ao + k * 5 + 2, none⟩ = some (.int .i64 x.n) ∧
      w.cell? ⟨ab, ao + k * 5 + 3, none⟩ = some (.string x.text) ∧ w.cell? ⟨ab, ao + k * 5 + 4, none⟩ = some (.int .u8 x.bits) := by
  intro k x hx
  obtain ⟨ab, ao, rfl, hlt, hc⟩ := row_cells ddF (by omega) h hx
  exact ⟨ab, ao, rfl, hlt, hc 0 _ rfl, hc 1 _ rfl, hc 2 _ rfl, hc 3 _ rfl, hc 4 _ rfl⟩

set_option maxRecDepth 100000 in
set_option maxHeartbeats 2000000 in
theorem Same_ok (w : World) (v v' : Value) (l : List Dd) (hv : Sl w v 5 l.length (ddV l)) (hv' : Sl w v' 5 l.length (ddV l)) :
    Calls Tryz.prog 12 #[v, v'] w (RB (.bool true) w) := by
  obtain ⟨a, cap, rfl, hcap, hm⟩ := hv.form
  obtain ⟨a', cap', rfl, hcap', hm'⟩ := hv'.form
  have hlen : l.length ≤ 9223372036854775807 := by unfold maxLen at hm; omega
  have HV := Lib.hid hv
  have HV' := Lib.hid hv'
  have hG := guardDd
  clear hv hv' hcap hcap' hm hm'
  go_enter Tryz.func12, Tryz.ntmps12
  go_wp2
  go_loopw [13] (fun i wr => ∃ (k n : Nat), i = .int .i64 k ∧ k ≤ l.length ∧ wr = w.drewN n) (fun i _ => l.length - (intOf i).toNat)
  case atStart => exact ⟨0, 0, rfl, by omega, rfl⟩
  case round =>
    obtain ⟨k, n, rfl, hk, rfl⟩ := hrel
    by_cases hlt : k < l.length
    · obtain ⟨⟨x0, x1, x2, x3, x4⟩, hx⟩ : ∃ x, l[k]? = some x := ⟨_, List.getElem?_eq_getElem hlt⟩
      obtain ⟨ab, ao, rfl, hab, g0, g1, g2, g3, g4⟩ := dd_cells HV.out k _ hx
      obtain ⟨ab', ao', rfl, hab', g0', g1', g2', g3', g4'⟩ := dd_cells HV'.out k _ hx
      simp only at g0 g1 g2 g3 g4 g0' g1' g2' g3' g4'
      have b1 : 0 ≤ (k : Int) ∧ (k : Int) < (l.length : Int) := by omega
      have b2 : (k : Int).toNat = k := by omega
      clear hx
      go_wp2
      go_quiet (fail)
      clear b1 b2
      go_wp2
      go_roundw
      case rel => exact ⟨k + 1, _, by go_num, by omega, by first | rfl | (rw [World.drewN_drewN]) | simp⟩
      case measure => simp [intOf]; omega
    · obtain rfl : k = l.length := by omega
      go_wp2
      go_ret
      exact ⟨rfl, Bl.drewN (Below.refl _ _) _⟩

end Go.Proofs.YtjiakfblgefioaaGreatDoor.WitQ
