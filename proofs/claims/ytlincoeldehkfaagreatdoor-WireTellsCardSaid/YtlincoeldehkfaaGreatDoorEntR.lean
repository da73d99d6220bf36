/-
  WHAT IS PROVED: by the document an entry is right or not, and what is signed. Condition: what each theorem names.
-/
import Derived.Test.YtlincoeldehkfaaGreatDoorEvR
import Derived.Test.YtlincoeldehkfaaGreatDoorEnt
namespace Go.Proofs.YtlincoeldehkfaaGreatDoor.EntR
open Go Go.RowKit Go.Shelf Go.Proofs.YtlincoeldehkfaaGreatDoor Go.Proofs.YtlincoeldehkfaaGreatDoor.OctetS Go.Proofs.YtlincoeldehkfaaGreatDoor.IdentS Go.Proofs.YtlincoeldehkfaaGreatDoor.EntS Go.Proofs.YtlincoeldehkfaaGreatDoor.OctP Go.Proofs.YtlincoeldehkfaaGreatDoor.OctQ Go.Proofs.YtlincoeldehkfaaGreatDoor.EventP Go.Proofs.YtlincoeldehkfaaGreatDoor.EventC Go.Proofs.YtlincoeldehkfaaGreatDoor.EntP
set_option linter.unusedVariables false
set_option linter.unusedSimpArgs false

set_option maxRecDepth 100000 in
set_option maxHeartbeats 4000000 in
theorem Check_ok (w : World) (p : Array Value) (r : ByteArray) (ep ix : Int) (pv : List UInt8) (e s : ByteArray) (hp : EntP p r ep ix pv e s) (hr : r.size ≤ 140737488351232) (he : e.size ≤ maxLen) (hs : s.size ≤ maxLen) :
    Calls Tryz.prog 77 #[.agg p] w (RB (.int .i64 (whyOf (EntS.checkB (entOf r ep ix pv e s)))) w) := by
  unfold maxLen at he hs
  rw [chk_eq]
  obtain ⟨rn, hR⟩ := EvRC.room_at r hr
  obtain ⟨rb, hrb⟩ : ∃ x, x = roomB (bl r) := ⟨_, rfl⟩
  rw [← hrb] at hR ⊢
  clear hrb
  obtain ⟨y, hy⟩ : ∃ y, y = whyOf (rb && (placeB ep && (placeB ix && (decide (e.size ≤ 8192) && decide (s.size ≤ 8192))))) := ⟨_, rfl⟩
  rw [← hy]
  have Hy0 := Lib.hid hy
  clear hy
  have p0 := hp.c0
  have p1 := hp.c1
  have p2 := hp.c2
  have p35 := hp.c35
  have p36 := hp.c36
  obtain ⟨w0, hw0⟩ : ∃ w0, w0 = w.alloc (.cells p 70) := ⟨_, rfl⟩
  have hb0 : Below w.heap.size w w0 := by rw [hw0]; exact ((Below.refl _ w).alloc (Nat.le_refl _) _)
  have hx0 : w0.heap[w.heap.size]? = some (.cells p 70 (0, 0)) := by rw [hw0]; exact heap_new _ _
  have HBL0 := Lib.hid hb0
  have HW0 := Lib.hid hw0
  have lx0 := lt_row hx0
  obtain ⟨cx0, fx0⟩ := row_facts hx0
  have HR := Lib.hid hR
  clear hR hb0 hw0 hr hp
  have hcase : rb = false ∨ rb = true := by cases rb <;> simp
  rcases hcase with rfl | rfl
  all_goals
    go_enter Tryz.func77, Tryz.ntmps77
    go_wp2_with fail
    rw [← HW0.out]
    refine (HR.out w0).mono ?_
    rintro e w1 ⟨rfl, hb⟩
    have HBL1 := Lib.hid (HBL0.out.trans (hb.mono HBL0.out.size))
    have hx1 := (hb.block _ lx0).trans hx0
    have lx1 := lt_row hx1
    obtain ⟨cx1, fx1⟩ := row_facts hx1
    clear hb hx0 cx0 fx0
  · go_wp2
    go_ret
    exact ⟨by rw [Hy0.out]; rfl, HBL1.out⟩
  · have hy' : (0 ≤ ep ∧ ep ≤ 4096 ∧ 0 ≤ ix ∧ ix ≤ 4096 ∧ e.size ≤ 8192 ∧ s.size ≤ 8192 ∧ y = 0) ∨ (¬ (0 ≤ ep ∧ ep ≤ 4096 ∧ 0 ≤ ix ∧ ix ≤ 4096 ∧ e.size ≤ 8192 ∧ s.size ≤ 8192) ∧ y = 2) := by
      rw [Hy0.out]
      unfold whyOf placeB
      simp only [Bool.true_and, Bool.and_eq_true, decide_eq_true_eq]
      by_cases h : 0 ≤ ep ∧ ep ≤ 4096 ∧ 0 ≤ ix ∧ ix ≤ 4096 ∧ e.size ≤ 8192 ∧ s.size ≤ 8192
      · rw [if_pos ⟨⟨h.1, h.2.1⟩, ⟨h.2.2.1, h.2.2.2.1⟩, h.2.2.2.2⟩]
        exact .inl ⟨h.1, h.2.1, h.2.2.1, h.2.2.2.1, h.2.2.2.2.1, h.2.2.2.2.2, rfl⟩
      · rw [if_neg (fun h' => h ⟨h'.1.1, h'.1.2, h'.2.1.1, h'.2.1.2, h'.2.2⟩)]
        exact .inr ⟨h, rfl⟩
    have Hy := Lib.hid hy'
    clear hy'
    go_wp2
    all_goals
      go_ret
      refine ⟨?_, HBL1.out⟩
      have hy := Hy.out
      first
        | (obtain rfl : y = 0 := by omega
           rfl)
        | (obtain rfl : y = 2 := by omega
           rfl)


end Go.Proofs.YtlincoeldehkfaaGreatDoor.EntR
