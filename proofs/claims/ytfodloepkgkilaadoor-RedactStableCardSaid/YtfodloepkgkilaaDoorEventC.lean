/-
  WHAT IS PROVED: the program's event package tells whether an event is right. Condition: the listed variables hold what 'VarsI' says, and the strings are not longer than the theorem says.
-/
import Derived.Test.YtfodloepkgkilaaDoorEventP
namespace Go.Proofs.YtfodloepkgkilaaDoor.EventC
open Go Go.RowKit Go.Proofs.YtfodloepkgkilaaDoor Go.Proofs.YtfodloepkgkilaaDoor.IdentS Go.Proofs.YtfodloepkgkilaaDoor.EventS Go.Proofs.YtfodloepkgkilaaDoor.OctP Go.Proofs.YtfodloepkgkilaaDoor.IdentP Go.Proofs.YtfodloepkgkilaaDoor.IdentQ Go.Proofs.YtfodloepkgkilaaDoor.IdentR Go.Proofs.YtfodloepkgkilaaDoor.EventP
set_option linter.unusedVariables false
set_option linter.unusedSimpArgs false

def whyOf (b : Bool) : Int := if b then 0 else 2

set_option maxRecDepth 100000 in
set_option maxHeartbeats 4000000 in
theorem Check_ok (w : World) (r s : ByteArray) (k : Int) (ky b : ByteArray) (n : Int) (hv : VarsI w) (hr : r.size ≤ 140737488351232) (hs : s.size ≤ 140737488351232) (hk : ky.size ≤ 140737488351232) (hb : b.size ≤ maxLen) :
    Calls Tryd.prog 29 #[evV r s k ky b n] w (RB (.int .i64 (whyOf (checkB (evOf r s k ky b n)))) w) := by
  unfold maxLen at hb
  obtain ⟨rn, hR⟩ := room_at w r hr
  obtain ⟨un, hU⟩ := user_at w s hs
  have hK := fun w hv => key_ok w r s k ky b n hv hk
  have hN := fun w => known_ok w k
  have hchk : checkB (evOf r s k ky b n) = (roomB (bl r) && (userB (bl s) && (EventS.known k && (keyB (evOf r s k ky b n) && (decide (b.size ≤ 512) && (decide (0 ≤ n) && decide (n ≤ 1099511627776))))))) := by
    have hbl : (evOf r s k ky b n).body.length = b.size := bl_length b
    unfold checkB
    rw [hbl]
    rfl
  rw [hchk]
  clear hchk
  obtain ⟨rb, hrb⟩ : ∃ x, x = roomB (bl r) := ⟨_, rfl⟩
  obtain ⟨ub, hub⟩ : ∃ x, x = userB (bl s) := ⟨_, rfl⟩
  obtain ⟨nb, hnb⟩ : ∃ x, x = EventS.known k := ⟨_, rfl⟩
  obtain ⟨kb, hkb⟩ : ∃ x, x = keyB (evOf r s k ky b n) := ⟨_, rfl⟩
  rw [← hrb] at hR ⊢
  rw [← hub] at hU ⊢
  rw [← hkb] at hK ⊢
  rw [← hnb] at hN ⊢
  clear hrb hub hnb hkb
  obtain ⟨y, hy⟩ : ∃ y, y = whyOf (rb && (ub && (nb && (kb && (decide (b.size ≤ 512) && (decide (0 ≤ n) && decide (n ≤ 1099511627776))))))) := ⟨_, rfl⟩
  rw [← hy]
  have Hy0 := Lib.hid hy
  clear hy
  obtain ⟨w0, hw0⟩ : ∃ w0, w0 = w.alloc (.cells #[.string r, .string s, .int .u8 k, .string ky, .string b, .int .i64 n] 36) := ⟨_, rfl⟩
  have hB0 : Below w.heap.size w w0 := by rw [hw0]; exact (Below.refl _ w).alloc (Nat.le_refl _) _
  have hx0 : w0.heap[w.heap.size]? = some (.cells #[.string r, .string s, .int .u8 k, .string ky, .string b, .int .i64 n] 36 (0, 0)) := by rw [hw0]; exact heap_new _ _
  have hl0 := lt_row hx0
  have HV0 := Lib.hid (hv.below hB0)
  have HB0 := Lib.hid hB0
  have Hw0 := Lib.hid hw0
  have HR := Lib.hid hR
  have HU := Lib.hid hU
  have HK := Lib.hid hK
  have HN := Lib.hid hN
  clear hR hU hK hN hv hB0 hw0 hr hs hk
  unfold evV
  have hcase : rb = false ∨ (rb = true ∧ ub = false) ∨ (rb = true ∧ ub = true ∧ nb = false) ∨ (rb = true ∧ ub = true ∧ nb = true ∧ kb = false) ∨ (rb = true ∧ ub = true ∧ nb = true ∧ kb = true) := by
    cases rb <;> cases ub <;> cases nb <;> cases kb <;> simp
  have hb0 := row_facts hx0
  rcases hcase with rfl | ⟨rfl, rfl⟩ | ⟨rfl, rfl, rfl⟩ | ⟨rfl, rfl, rfl, rfl⟩ | ⟨rfl, rfl, rfl, rfl⟩
  all_goals
    go_enter Tryd.func29, Tryd.ntmps29
    go_wp2_with fail
    rw [show (w.alloc (.cells #[.string r, .string s, .int .u8 k, .string ky, .string b, .int .i64 n] 36)) = w0 from Hw0.out.symm]
    refine (HR.out w0 HV0.out).mono ?_
    rintro e w1 ⟨rfl, hb1⟩
    have HV1 := Lib.hid (HV0.out.below hb1)
    have HB1 := Lib.hid (HB0.out.trans (hb1.mono HB0.out.size))
    have hx1 := (hb1.block _ hl0).trans hx0
    have hl1 := lt_row hx1
    obtain ⟨hc1, hf1⟩ := row_facts hx1
    clear hb1
    go_wp2_with fail
    refine (HU.out w1 HV1.out).mono ?_
    rintro e w2 ⟨rfl, hb2⟩
    have HV2 := Lib.hid (HV1.out.below hb2)
    have HB2 := Lib.hid (HB1.out.trans (hb2.mono HB1.out.size))
    have hx2 := (hb2.block _ hl1).trans hx1
    have hl2 := lt_row hx2
    obtain ⟨hc2, hf2⟩ := row_facts hx2
    clear hb2 hc1 hf1
  · go_wp2
    go_ret
    exact ⟨by rw [Hy0.out]; rfl, HB2.out⟩
  · go_wp2
    go_ret
    exact ⟨by rw [Hy0.out]; rfl, HB2.out⟩
  · go_wp2_with fail
    refine (HN.out w2).mono ?_
    rintro e w3 ⟨rfl, rfl⟩
    go_wp2
    go_ret
    exact ⟨by rw [Hy0.out]; rfl, HB2.out⟩
  all_goals
    go_wp2_with fail
    refine (HN.out w2).mono ?_
    rintro e w3 ⟨rfl, rfl⟩
    go_wp2_with fail
    refine (HK.out w2 HV2.out).mono ?_
    rintro e w3 ⟨rfl, hb3⟩
    have HB3 := Lib.hid (HB2.out.trans (hb3.mono HB2.out.size))
    have hx3 := (hb3.block _ hl2).trans hx2
    have hl3 := lt_row hx3
    obtain ⟨hc3, hf3⟩ := row_facts hx3
    clear hb3 hc2 hf2
  · go_wp2
    go_ret
    exact ⟨by rw [Hy0.out]; rfl, HB3.out⟩
  · have hy' : (b.size ≤ 512 ∧ 0 ≤ n ∧ n ≤ 1099511627776 ∧ y = 0) ∨ (¬ (b.size ≤ 512 ∧ 0 ≤ n ∧ n ≤ 1099511627776) ∧ y = 2) := by
      rw [Hy0.out]
      unfold whyOf
      simp only [Bool.true_and, Bool.and_eq_true, decide_eq_true_eq]
      by_cases h : b.size ≤ 512 ∧ 0 ≤ n ∧ n ≤ 1099511627776
      · rw [if_pos h]
        exact .inl ⟨h.1, h.2.1, h.2.2, rfl⟩
      · rw [if_neg h]
        exact .inr ⟨h, rfl⟩
    have Hy := Lib.hid hy'
    clear hy'
    go_wp2
    all_goals
      go_ret
      refine ⟨?_, HB3.out⟩
      have hy := Hy.out
      first
        | (obtain rfl : y = 0 := by omega
           rfl)
        | (obtain rfl : y = 2 := by omega
           rfl)

end Go.Proofs.YtfodloepkgkilaaDoor.EventC
