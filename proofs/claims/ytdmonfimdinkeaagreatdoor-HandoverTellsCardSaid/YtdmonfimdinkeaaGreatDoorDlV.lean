/-
  WHAT IS PROVED: the word's kind of a deal. Condition: the variables hold what 'VarsD' says.
-/
import Derived.Test.YtdmonfimdinkeaaGreatDoorWireA
namespace Go.Proofs.YtdmonfimdinkeaaGreatDoor.DlV
open Go Go.RowKit Go.Shelf Go.Proofs.YtdmonfimdinkeaaGreatDoor Go.Proofs.YtdmonfimdinkeaaGreatDoor.OctetS Go.Proofs.YtdmonfimdinkeaaGreatDoor.IdentS Go.Proofs.YtdmonfimdinkeaaGreatDoor.EntS Go.Proofs.YtdmonfimdinkeaaGreatDoor.WireS Go.Proofs.YtdmonfimdinkeaaGreatDoor.OctP Go.Proofs.YtdmonfimdinkeaaGreatDoor.OctQ Go.Proofs.YtdmonfimdinkeaaGreatDoor.IdentP Go.Proofs.YtdmonfimdinkeaaGreatDoor.WireT Go.Proofs.YtdmonfimdinkeaaGreatDoor.WireA
set_option linter.unusedVariables false
set_option linter.unusedSimpArgs false

/-- What the package-level variables hold. -/
structure VarsD (w : World) : Prop where
  i : VarsI w
  hw : ∀ k : Nat, k < 3 → w.cell? ⟨0, k, none⟩ = some (.string (bsOf (wordDn k)))
theorem VarsD.below {w w' : World} (h : VarsD w) (hb : Below w.heap.size w w') : VarsD w' :=
  ⟨h.i.below hb, fun k hk => Steps.below_cell hb (h.hw k hk)⟩
set_option maxHeartbeats 1000000 in
theorem d_kind_ok (w : World) (s : ByteArray) (hv : VarsD w) : Calls Tryz.prog 55 #[.string s] w fun e w' => e = .returned (.int .u8 (kindD (bl s))) ∧ w = w' := by
  have HV := Lib.hid hv.hw
  clear hv
  go_enter Tryz.func55, Tryz.ntmps55
  go_wp2
  go_loop [3] (fun i => ∃ k : Nat, i = .int .u8 k ∧ 1 ≤ k ∧ k ≤ 3 ∧ ∀ j, 1 ≤ j → j < k → wordDn j ≠ bl s) (fun i => 3 - (intOf i).toNat)
  case atStart => exact ⟨1, rfl, by omega, by omega, fun j h1 h2 => by omega⟩
  case round =>
    obtain ⟨k, rfl, hk1, hk9, hall⟩ := hrel
    have Hall := Lib.hid hall
    clear hall
    by_cases hlt : k < 3
    · have hc := HV.out k hlt
      by_cases he : wordDn k = bl s
      · have hb : (bsOf (wordDn k)).toList == s.toList := by rw [he, bsOf_bl]; simp
        have hb' : ((bsOf (wordDn k)).toList == s.toList) = true := hb
        have hfin := d_kind_hit hk1 hlt Hall.out he
        have Hfin := Lib.hid hfin
        clear hfin he hb
        obtain ⟨wd, hwd⟩ : ∃ wd, wd = bsOf (wordDn k) := ⟨_, rfl⟩
        rw [← hwd] at hc hb'
        clear hwd
        go_wp2
        go_ret
        exact ⟨by rw [Hfin.out]; rfl, rfl⟩
      · have hb' : ((bsOf (wordDn k)).toList == s.toList) = false := str_ne (fun h => he (by have := congrArg bl h; rw [bl_bsOf] at this; exact this))
        have hnx : ∀ j, 1 ≤ j → j < k + 1 → wordDn j ≠ bl s := fun j h1 h2 => by
          by_cases hj : j = k
          · rw [hj]; exact he
          · exact Hall.out j h1 (by omega)
        have Hnx := Lib.hid hnx
        clear he hnx
        obtain ⟨wd, hwd⟩ : ∃ wd, wd = bsOf (wordDn k) := ⟨_, rfl⟩
        rw [← hwd] at hc hb'
        clear hwd
        go_wp2
        go_round
        case rel => exact ⟨k + 1, by go_num, by omega, by omega, Hnx.out⟩
        case measure => simp [intOf]; omega
    · obtain rfl : k = 3 := by omega
      have hfin := d_kind_miss Hall.out
      have Hfin := Lib.hid hfin
      clear hfin
      go_wp2
      go_ret
      exact ⟨by rw [Hfin.out]; rfl, rfl⟩

end Go.Proofs.YtdmonfimdinkeaaGreatDoor.DlV
