/-
  WHAT IS PROVED: what the document's own answers on a kind's word, and on whether its events are of the state, are. Condition: the kind is a number of eight bits.
-/
import Derived.Test.YtfodloepkgkilaaDoorEventP
namespace Go.Proofs.YtfodloepkgkilaaDoor.EvRW
open Go Go.RowKit Go.Proofs.YtfodloepkgkilaaDoor Go.Proofs.YtfodloepkgkilaaDoor.IdentS Go.Proofs.YtfodloepkgkilaaDoor.EventS Go.Proofs.YtfodloepkgkilaaDoor.EventP
set_option linter.unusedVariables false

theorem kind_is {k : Int} (h0 : 0 ≤ k) : k = 0 ∨ k = 1 ∨ k = 2 ∨ k = 3 ∨ k = 4 ∨ k = 5 ∨ k = 6 ∨ k = 7 ∨ k = 8 ∨ 9 ≤ k := by omega
theorem word_far {k : Int} (h : 9 ≤ k) : word k = [] := by
  unfold word
  obtain ⟨n, hn⟩ : ∃ n, k.toNat = n + 9 := ⟨k.toNat - 9, by omega⟩
  rw [hn]
  rfl

set_option maxHeartbeats 4000000 in
theorem Word_ok (w : World) (k : Int) (h0 : 0 ≤ k) (h1 : k ≤ 255) : Calls Tryd.prog 41 #[.int .u8 k] w (RB (.string (bsOf (word k))) w) := by
  rcases kind_is h0 with rfl | rfl | rfl | rfl | rfl | rfl | rfl | rfl | rfl | h9

  rotate_right
  · rw [word_far h9]
    go_enter Tryd.func41, Tryd.ntmps41
    go_wp2
    go_ret
    exact ⟨rfl, (Below.refl _ w).alloc (Nat.le_refl _) _⟩
  all_goals
    go_enter Tryd.func41, Tryd.ntmps41
    go_wp2
    go_ret
    exact ⟨rfl, (Below.refl _ w).alloc (Nat.le_refl _) _⟩

theorem word_empty {k : Int} (h : EventS.known k = false) : word k = [] := by
  unfold EventS.known at h
  simp only [Bool.and_eq_false_iff, decide_eq_false_iff_not] at h
  by_cases h9 : 9 ≤ k
  · exact word_far h9
  · unfold word
    rw [show k.toNat = 0 by omega]
    rfl
theorem word_full {k : Int} (h : EventS.known k = true) : (bsOf (word k)).toList.isEmpty = false := by
  rw [bl_toList, bl_bsOf]
  rcases known_cases h with rfl | rfl | rfl | rfl | rfl | rfl | rfl | rfl <;> rfl

theorem State_ok (w : World) (k : Int) (h0 : 0 ≤ k) (h1 : k ≤ 255) : Calls Tryd.prog 39 #[.int .u8 k] w (RB (.bool (stateB k)) w) := by
  have hW := Word_ok w k h0 h1
  have hk : EventS.known k = false ∨ k = 6 ∨ k = 7 ∨ (EventS.known k = true ∧ (k != 6) = true ∧ (k != 7) = true) := by
    cases h : EventS.known k
    · exact .inl rfl
    · by_cases h6 : k = 6
      · exact .inr (.inl h6)
      · by_cases h7 : k = 7
        · exact .inr (.inr (.inl h7))
        · exact .inr (.inr (.inr ⟨rfl, by simp [h6], by simp [h7]⟩))
  obtain ⟨T, hT⟩ : ∃ T, T = bsOf (word k) := ⟨_, rfl⟩
  rw [← hT] at hW
  have HW := Lib.hid hW
  rcases hk with hk | rfl | rfl | ⟨hk, h6, h7⟩
  · have hfin : stateB k = false := by simp [stateB, hk]
    have hE : T = ByteArray.empty := by rw [hT, word_empty hk]; rfl
    subst hE
    rw [hfin]
    clear hW hT hk hfin
    go_enter Tryd.func39, Tryd.ntmps39
    go_wp2_with fail
    refine HW.out.mono ?_
    rintro e w1 ⟨rfl, hb⟩
    have HB := Lib.hid hb
    clear hb
    go_wp2
    go_ret
    exact ⟨rfl, HB.out⟩
  · have hE : T.toList.isEmpty = false := by rw [hT]; exact word_full (by decide)
    clear hW hT
    go_enter Tryd.func39, Tryd.ntmps39
    go_wp2_with fail
    refine HW.out.mono ?_
    rintro e w1 ⟨rfl, hb⟩
    have HB := Lib.hid hb
    clear hb
    go_wp2
    go_ret
    exact ⟨rfl, HB.out⟩
  · have hE : T.toList.isEmpty = false := by rw [hT]; exact word_full (by decide)
    clear hW hT
    go_enter Tryd.func39, Tryd.ntmps39
    go_wp2_with fail
    refine HW.out.mono ?_
    rintro e w1 ⟨rfl, hb⟩
    have HB := Lib.hid hb
    clear hb
    go_wp2
    go_ret
    exact ⟨rfl, HB.out⟩
  · have hfin : stateB k = true := by simp [stateB, hk] at h6 h7 ⊢; exact ⟨h6, h7⟩
    have hE : T.toList.isEmpty = false := by rw [hT]; exact word_full hk
    rw [hfin]
    clear hW hT hk hfin
    go_enter Tryd.func39, Tryd.ntmps39
    go_wp2_with fail
    refine HW.out.mono ?_
    rintro e w1 ⟨rfl, hb⟩
    have HB := Lib.hid hb
    clear hb
    go_wp2
    go_ret
    exact ⟨rfl, HB.out⟩

end Go.Proofs.YtfodloepkgkilaaDoor.EvRW
