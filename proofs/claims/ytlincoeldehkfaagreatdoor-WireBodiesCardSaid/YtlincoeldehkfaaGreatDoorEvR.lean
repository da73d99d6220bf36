/-
  WHAT IS PROVED: what the document's own answers on events are. Condition: what each theorem names.
-/
import Derived.Test.YtlincoeldehkfaaGreatDoorEvent
import Derived.Test.YtlincoeldehkfaaGreatDoorRefId
import Derived.Test.YtlincoeldehkfaaGreatDoorLivesE
import Derived.Test.YtlincoeldehkfaaGreatDoorRef1
namespace Go.Proofs.YtlincoeldehkfaaGreatDoor.EvRW
open Go Go.RowKit Go.Proofs.YtlincoeldehkfaaGreatDoor Go.Proofs.YtlincoeldehkfaaGreatDoor.IdentS Go.Proofs.YtlincoeldehkfaaGreatDoor.EventS Go.Proofs.YtlincoeldehkfaaGreatDoor.EventP
set_option linter.unusedVariables false
set_option linter.unusedSimpArgs false

theorem kind_is {k : Int} (h0 : 0 ≤ k) : k = 0 ∨ k = 1 ∨ k = 2 ∨ k = 3 ∨ k = 4 ∨ k = 5 ∨ k = 6 ∨ k = 7 ∨ k = 8 ∨ 9 ≤ k := by omega
theorem word_far {k : Int} (h : 9 ≤ k) : word k = [] := by
  unfold word
  obtain ⟨n, hn⟩ : ∃ n, k.toNat = n + 9 := ⟨k.toNat - 9, by omega⟩
  rw [hn]
  rfl

set_option maxHeartbeats 4000000 in
theorem Word_ok (w : World) (k : Int) (h0 : 0 ≤ k) (h1 : k ≤ 255) : Calls Tryz.prog 58 #[.int .u8 k] w (RB (.string (bsOf (word k))) w) := by
  rcases kind_is h0 with rfl | rfl | rfl | rfl | rfl | rfl | rfl | rfl | rfl | h9

  rotate_right
  · rw [word_far h9]
    go_enter Tryz.func58, Tryz.ntmps58
    go_wp2
    go_ret
    exact ⟨rfl, (Below.refl _ w).alloc (Nat.le_refl _) _⟩
  all_goals
    go_enter Tryz.func58, Tryz.ntmps58
    go_wp2
    go_ret
    exact ⟨rfl, (Below.refl _ w).alloc (Nat.le_refl _) _⟩

theorem word_empty {k : Int} (h : EventS.known k = false) : word k = [] := by
  unfold EventS.known at h
  simp only [Bool.and_eq_false_iff, decide_eq_false_iff_not] at h
  by_cases h9 : 9 ≤ k
  · exact word_far h9
  · unfold word
    rw [show k.toNat = 0 by omega]
    rfl
theorem word_full {k : Int} (h : EventS.known k = true) : (bsOf (word k)).toList.isEmpty = false := by
  rw [bl_toList, bl_bsOf]
  rcases known_cases h with rfl | rfl | rfl | rfl | rfl | rfl | rfl | rfl <;> rfl

end Go.Proofs.YtlincoeldehkfaaGreatDoor.EvRW

namespace Go.Proofs.YtlincoeldehkfaaGreatDoor.EvRC
open Go Go.RowKit Go.Proofs.YtlincoeldehkfaaGreatDoor Go.Proofs.YtlincoeldehkfaaGreatDoor.IdentS Go.Proofs.YtlincoeldehkfaaGreatDoor.EventS Go.Proofs.YtlincoeldehkfaaGreatDoor.OctP Go.Proofs.YtlincoeldehkfaaGreatDoor.IdentP Go.Proofs.YtlincoeldehkfaaGreatDoor.IdentQ Go.Proofs.YtlincoeldehkfaaGreatDoor.IdentR Go.Proofs.YtlincoeldehkfaaGreatDoor.EventP Go.Proofs.YtlincoeldehkfaaGreatDoor.EventC Go.Proofs.YtlincoeldehkfaaGreatDoor.EvRW
set_option linter.unusedVariables false
set_option linter.unusedSimpArgs false

theorem user_at (s : ByteArray) (hs : s.size ≤ 140737488351232) : ∃ n : Int, ∀ w, Calls Tryz.prog 75 #[.string s] w (RB (.tuple #[.int .i64 n, .bool (userB (bl s))]) w) := by
  unfold userB
  cases h : serverOf 1 (bl s) with
  | none => exact ⟨0, fun w => by have := RefU.User_ok w s hs; unfold ServPost at this; rw [h] at this; exact this⟩
  | some n => exact ⟨n, fun w => by have := RefU.User_ok w s hs; unfold ServPost at this; rw [h] at this; exact this⟩
theorem room_at (s : ByteArray) (hs : s.size ≤ 140737488351232) : ∃ n : Int, ∀ w, Calls Tryz.prog 74 #[.string s] w (RB (.tuple #[.int .i64 n, .bool (roomB (bl s))]) w) := by
  unfold roomB
  cases h : serverOf 2 (bl s) with
  | none => exact ⟨0, fun w => by have := RefU.Room_ok w s hs; unfold ServPost at this; rw [h] at this; exact this⟩
  | some n => exact ⟨n, fun w => by have := RefU.Room_ok w s hs; unfold ServPost at this; rw [h] at this; exact this⟩

set_option maxRecDepth 100000 in
set_option maxHeartbeats 4000000 in
theorem Check_ok (w : World) (r s : ByteArray) (k : Int) (ky b : ByteArray) (n : Int) (h0 : 0 ≤ k) (h1 : k ≤ 255) (hr : r.size ≤ 140737488351232) (hs : s.size ≤ 140737488351232) (hk : ky.size ≤ 140737488351232) (hb : b.size ≤ maxLen) :
    Calls Tryz.prog 59 #[evV r s k ky b n] w (RB (.int .i64 (whyOf (checkB (evOf r s k ky b n)))) w) := by
  unfold maxLen at hb
  obtain ⟨rn, hR⟩ := room_at r hr
  obtain ⟨un, hU⟩ := user_at s hs
  obtain ⟨kn, hK⟩ := user_at ky hk
  have hW := fun w => Word_ok w k h0 h1
  have hkey : keyB (evOf r s k ky b n) = if k = 2 then userB (bl ky) else ky.toList.isEmpty := by
    unfold keyB evOf
    simp only
    split
    · rfl
    · rw [bl_toList]
      cases bl ky <;> rfl
  have hchk : checkB (evOf r s k ky b n) = (roomB (bl r) && (userB (bl s) && (EventS.known k && ((if k = 2 then userB (bl ky) else ky.toList.isEmpty) && (decide (b.size ≤ 512) && (decide (0 ≤ n) && decide (n ≤ 1099511627776))))))) := by
    have hbl : (evOf r s k ky b n).body.length = b.size := bl_length b
    unfold checkB
    rw [hbl, hkey]
    rfl
  rw [hchk]
  clear hchk hkey
  obtain ⟨rb, hrb⟩ : ∃ x, x = roomB (bl r) := ⟨_, rfl⟩
  obtain ⟨ub, hub⟩ : ∃ x, x = userB (bl s) := ⟨_, rfl⟩
  obtain ⟨kb, hkb⟩ : ∃ x, x = userB (bl ky) := ⟨_, rfl⟩
  obtain ⟨T, hT⟩ : ∃ x, x = bsOf (word k) := ⟨_, rfl⟩
  rw [← hrb] at hR ⊢
  rw [← hub] at hU ⊢
  rw [← hkb] at hK ⊢
  rw [← hT] at hW
  clear hrb hub hkb
  have hTe : T.toList.isEmpty = !EventS.known k := by
    rw [hT]
    cases h : EventS.known k
    · rw [word_empty h, bl_toList, bl_bsOf]; rfl
    · exact word_full h
  obtain ⟨nb, hnb⟩ : ∃ x, x = EventS.known k := ⟨_, rfl⟩
  rw [← hnb] at hTe ⊢
  clear hnb hT
  obtain ⟨y, hy⟩ : ∃ y, y = whyOf (rb && (ub && (nb && ((if k = 2 then kb else ky.toList.isEmpty) && (decide (b.size ≤ 512) && (decide (0 ≤ n) && decide (n ≤ 1099511627776))))))) := ⟨_, rfl⟩
  rw [← hy]
  have Hy0 := Lib.hid hy
  clear hy
  obtain ⟨w0, hw0⟩ : ∃ w0, w0 = w.alloc (.cells #[.string r, .string s, .int .u8 k, .string ky, .string b, .int .i64 n] 66) := ⟨_, rfl⟩
  have hB0 : Below w.heap.size w w0 := by rw [hw0]; exact (Below.refl _ w).alloc (Nat.le_refl _) _
  have hx0 : w0.heap[w.heap.size]? = some (.cells #[.string r, .string s, .int .u8 k, .string ky, .string b, .int .i64 n] 66 (0, 0)) := by rw [hw0]; exact heap_new _ _
  have hl0 := lt_row hx0
  have HB0 := Lib.hid hB0
  have Hw0 := Lib.hid hw0
  have HR := Lib.hid hR
  have HU := Lib.hid hU
  have HK := Lib.hid hK
  have HW := Lib.hid hW
  clear hR hU hK hW hB0 hw0 hr hs hk
  unfold evV
  have hcase : rb = false ∨ (rb = true ∧ ub = false) ∨ (rb = true ∧ ub = true ∧ nb = false) ∨ (rb = true ∧ ub = true ∧ nb = true ∧ k = 2 ∧ kb = false) ∨ (rb = true ∧ ub = true ∧ nb = true ∧ k = 2 ∧ kb = true) ∨
      (rb = true ∧ ub = true ∧ nb = true ∧ k ≠ 2 ∧ ky.toList.isEmpty = false) ∨ (rb = true ∧ ub = true ∧ nb = true ∧ k ≠ 2 ∧ ky.toList.isEmpty = true) := by
    by_cases h2 : k = 2
    · cases rb <;> cases ub <;> cases nb <;> cases kb <;> simp [h2]
    · cases rb <;> cases ub <;> cases nb <;> cases ky.toList.isEmpty <;> simp [h2]
  have hyes : ∀ (x : Bool), rb = true → ub = true → nb = true → (if k = 2 then kb else ky.toList.isEmpty) = x →
      ((b.size ≤ 512 ∧ 0 ≤ n ∧ n ≤ 1099511627776 ∧ x = true ∧ y = 0) ∨ (¬ (b.size ≤ 512 ∧ 0 ≤ n ∧ n ≤ 1099511627776 ∧ x = true) ∧ y = 2)) := by
    intro x a1 a2 a3 a4
    rw [Hy0.out, a1, a2, a3, a4]
    unfold whyOf
    simp only [Bool.true_and, Bool.and_eq_true, decide_eq_true_eq]
    by_cases h : x = true ∧ b.size ≤ 512 ∧ 0 ≤ n ∧ n ≤ 1099511627776
    · rw [if_pos h]
      exact .inl ⟨h.2.1, h.2.2.1, h.2.2.2, h.1, rfl⟩
    · rw [if_neg h]
      exact .inr ⟨fun h' => h ⟨h'.2.2.2, h'.1, h'.2.1, h'.2.2.1⟩, rfl⟩
  have hcase2 : rb = false ∨ (rb = true ∧ ub = false) ∨ (rb = true ∧ ub = true ∧ nb = false) ∨
      (∃ x : Bool, rb = true ∧ ub = true ∧ nb = true ∧ (k == 2) = true ∧ (k != 2) = false ∧ kb = x ∧ Hid ((b.size ≤ 512 ∧ 0 ≤ n ∧ n ≤ 1099511627776 ∧ x = true ∧ y = 0) ∨ (¬ (b.size ≤ 512 ∧ 0 ≤ n ∧ n ≤ 1099511627776 ∧ x = true) ∧ y = 2))) ∨
      (∃ x : Bool, rb = true ∧ ub = true ∧ nb = true ∧ (k == 2) = false ∧ (k != 2) = true ∧ ky.toList.isEmpty = x ∧ Hid ((b.size ≤ 512 ∧ 0 ≤ n ∧ n ≤ 1099511627776 ∧ x = true ∧ y = 0) ∨ (¬ (b.size ≤ 512 ∧ 0 ≤ n ∧ n ≤ 1099511627776 ∧ x = true) ∧ y = 2))) := by
    rcases hcase with h | h | h | ⟨a1, a2, a3, a4, a5⟩ | ⟨a1, a2, a3, a4, a5⟩ | ⟨a1, a2, a3, a4, a5⟩ | ⟨a1, a2, a3, a4, a5⟩
    · exact .inl h
    · exact .inr (.inl h)
    · exact .inr (.inr (.inl h))
    · exact .inr (.inr (.inr (.inl ⟨false, a1, a2, a3, by simp [a4], by simp [a4], a5, Lib.hid (hyes false a1 a2 a3 (by rw [if_pos a4, a5]))⟩)))
    · exact .inr (.inr (.inr (.inl ⟨true, a1, a2, a3, by simp [a4], by simp [a4], a5, Lib.hid (hyes true a1 a2 a3 (by rw [if_pos a4, a5]))⟩)))
    · exact .inr (.inr (.inr (.inr ⟨false, a1, a2, a3, by simp [a4], by simp [a4], a5, Lib.hid (hyes false a1 a2 a3 (by rw [if_neg a4, a5]))⟩)))
    · exact .inr (.inr (.inr (.inr ⟨true, a1, a2, a3, by simp [a4], by simp [a4], a5, Lib.hid (hyes true a1 a2 a3 (by rw [if_neg a4, a5]))⟩)))
  clear hcase hyes
  rcases hcase2 with rfl | ⟨rfl, rfl⟩ | ⟨rfl, rfl, rfl⟩ | ⟨x, rfl, rfl, rfl, h2, h2', hx, Hy⟩ | ⟨x, rfl, rfl, rfl, h2, h2', hx, Hy⟩
  all_goals
    try simp only [Bool.not_true, Bool.not_false] at hTe
    go_enter Tryz.func59, Tryz.ntmps59
    go_wp2_with fail
    rw [show (w.alloc (.cells #[.string r, .string s, .int .u8 k, .string ky, .string b, .int .i64 n] 66)) = w0 from Hw0.out.symm]
    obtain ⟨hc0, hf0⟩ := row_facts hx0
    refine (HR.out w0).mono ?_
    rintro e w1 ⟨rfl, hb1⟩
    have HB1 := Lib.hid (HB0.out.trans (hb1.mono HB0.out.size))
    have hx1 := (hb1.block _ hl0).trans hx0
    have hl1 := lt_row hx1
    obtain ⟨hc1, hf1⟩ := row_facts hx1
    clear hb1 hc0 hf0
    go_wp2_with fail
    refine (HU.out w1).mono ?_
    rintro e w2 ⟨rfl, hb2⟩
    have HB2 := Lib.hid (HB1.out.trans (hb2.mono HB1.out.size))
    have hx2 := (hb2.block _ hl1).trans hx1
    have hl2 := lt_row hx2
    obtain ⟨hc2, hf2⟩ := row_facts hx2
    clear hb2 hc1 hf1
    go_wp2_with fail
    refine (HK.out w2).mono ?_
    rintro e w3 ⟨rfl, hb3⟩
    have HB3 := Lib.hid (HB2.out.trans (hb3.mono HB2.out.size))
    have hx3 := (hb3.block _ hl2).trans hx2
    have hl3 := lt_row hx3
    obtain ⟨hc3, hf3⟩ := row_facts hx3
    clear hb3 hc2 hf2
  · go_wp2
    go_ret
    exact ⟨by rw [Hy0.out]; rfl, HB3.out⟩
  · go_wp2
    go_ret
    exact ⟨by rw [Hy0.out]; rfl, HB3.out⟩
  all_goals
    go_wp2_with fail
    refine (HW.out w3).mono ?_
    rintro e w4 ⟨rfl, hb4⟩
    have HB4 := Lib.hid (HB3.out.trans (hb4.mono HB3.out.size))
    have hx4 := (hb4.block _ hl3).trans hx3
    have hl4 := lt_row hx4
    obtain ⟨hc4, hf4⟩ := row_facts hx4
    clear hb4 hc3 hf3
  · go_wp2
    go_ret
    exact ⟨by rw [Hy0.out]; rfl, HB4.out⟩
  all_goals
    cases x
  all_goals
    go_wp2
  all_goals
    go_ret
    refine ⟨?_, HB4.out⟩
    have hy := Hy.out
    simp at hy
    first
      | (obtain rfl : y = 0 := by omega
         rfl)
      | (obtain rfl : y = 2 := by omega
         rfl)

end Go.Proofs.YtlincoeldehkfaaGreatDoor.EvRC

namespace Go.Proofs.YtlincoeldehkfaaGreatDoor.EvRB
open Go Go.RowKit Go.Proofs.YtlincoeldehkfaaGreatDoor Go.Proofs.YtlincoeldehkfaaGreatDoor.OctetS Go.Proofs.YtlincoeldehkfaaGreatDoor.IdentS Go.Proofs.YtlincoeldehkfaaGreatDoor.EventS Go.Proofs.YtlincoeldehkfaaGreatDoor.OctP Go.Proofs.YtlincoeldehkfaaGreatDoor.OctQ Go.Proofs.YtlincoeldehkfaaGreatDoor.IdentP Go.Proofs.YtlincoeldehkfaaGreatDoor.EventP Go.Proofs.YtlincoeldehkfaaGreatDoor.EventC Go.Proofs.YtlincoeldehkfaaGreatDoor.EventB
set_option linter.unusedVariables false
set_option linter.unusedSimpArgs false
open Go.Proofs.YtlincoeldehkfaaGreatDoor.LivesE (below_cell)

end Go.Proofs.YtlincoeldehkfaaGreatDoor.EvRB
