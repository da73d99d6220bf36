/-
  WHAT IS PROVED: the program's event package reads a kind's word. Condition: the listed variables hold what 'VarsE' says.
-/
import Derived.Test.YtfodloepkgkilaaDoorEventP
namespace Go.Proofs.YtfodloepkgkilaaDoor.EventK
open Go Go.RowKit Go.Proofs.YtfodloepkgkilaaDoor Go.Proofs.YtfodloepkgkilaaDoor.IdentS Go.Proofs.YtfodloepkgkilaaDoor.EventS Go.Proofs.YtfodloepkgkilaaDoor.OctP Go.Proofs.YtfodloepkgkilaaDoor.IdentP Go.Proofs.YtfodloepkgkilaaDoor.EventP
set_option linter.unusedVariables false
set_option linter.unusedSimpArgs false

theorem kind_hit {s : List UInt8} {k : Nat} (h1 : 1 ≤ k) (h9 : k < 9) (hlt : ∀ j, 1 ≤ j → j < k → wordN j ≠ s) (h : wordN k = s) : kindW s = k := by
  have hk : k = 1 ∨ k = 2 ∨ k = 3 ∨ k = 4 ∨ k = 5 ∨ k = 6 ∨ k = 7 ∨ k = 8 := by omega
  subst h
  rcases hk with rfl | rfl | rfl | rfl | rfl | rfl | rfl | rfl <;> decide
theorem kind_miss {s : List UInt8} (h : ∀ j, 1 ≤ j → j < 9 → wordN j ≠ s) : kindW s = 0 := by
  unfold kindW
  rw [if_neg (h 1 (by omega) (by omega)), if_neg (h 2 (by omega) (by omega)), if_neg (h 3 (by omega) (by omega)), if_neg (h 4 (by omega) (by omega)), if_neg (h 5 (by omega) (by omega)), if_neg (h 6 (by omega) (by omega)), if_neg (h 7 (by omega) (by omega)), if_neg (h 8 (by omega) (by omega))]

set_option maxHeartbeats 1000000 in
theorem kind_ok (w : World) (s : ByteArray) (hv : VarsE w) : Calls Tryd.prog 76 #[.string s] w fun e w' => e = .returned (.int .u8 (kindW (bl s))) ∧ w = w' := by
  have HV := Lib.hid hv.words
  clear hv
  go_enter Tryd.func76, Tryd.ntmps76
  go_wp2
  go_loop [3] (fun i => ∃ k : Nat, i = .int .u8 k ∧ 1 ≤ k ∧ k ≤ 9 ∧ ∀ j, 1 ≤ j → j < k → wordN j ≠ bl s) (fun i => 9 - (intOf i).toNat)
  case atStart => exact ⟨1, rfl, by omega, by omega, fun j h1 h2 => by omega⟩
  case round =>
    obtain ⟨k, rfl, hk1, hk9, hall⟩ := hrel
    have Hall := Lib.hid hall
    clear hall
    by_cases hlt : k < 9
    · have hc := HV.out k hlt
      by_cases he : wordN k = bl s
      · have hb : (bsOf (wordN k)).toList == s.toList := by rw [he, bsOf_bl]; simp
        have hb' : ((bsOf (wordN k)).toList == s.toList) = true := hb
        have hfin := kind_hit hk1 hlt Hall.out he
        have Hfin := Lib.hid hfin
        clear hfin he hb
        obtain ⟨wd, hwd⟩ : ∃ wd, wd = bsOf (wordN k) := ⟨_, rfl⟩
        rw [← hwd] at hc hb'
        clear hwd
        go_wp2
        go_ret
        exact ⟨by rw [Hfin.out]; rfl, rfl⟩
      · have hb' : ((bsOf (wordN k)).toList == s.toList) = false := str_ne (fun h => he (by have := congrArg bl h; rw [bl_bsOf] at this; exact this))
        have hnx : ∀ j, 1 ≤ j → j < k + 1 → wordN j ≠ bl s := fun j h1 h2 => by
          by_cases hj : j = k
          · rw [hj]; exact he
          · exact Hall.out j h1 (by omega)
        have Hnx := Lib.hid hnx
        clear he hnx
        obtain ⟨wd, hwd⟩ : ∃ wd, wd = bsOf (wordN k) := ⟨_, rfl⟩
        rw [← hwd] at hc hb'
        clear hwd
        go_wp2
        go_round
        case rel => exact ⟨k + 1, by go_num, by omega, by omega, Hnx.out⟩
        case measure => simp [intOf]; omega
    · obtain rfl : k = 9 := by omega
      have hfin := kind_miss Hall.out
      have Hfin := Lib.hid hfin
      clear hfin
      go_wp2
      go_ret
      exact ⟨by rw [Hfin.out]; rfl, rfl⟩

end Go.Proofs.YtfodloepkgkilaaDoor.EventK
