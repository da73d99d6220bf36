/-
  WHAT IS PROVED: an entry is right or not, and what is signed. Condition: the variables hold what 'VarsI' says, and what each theorem names.
-/
import Derived.Test.YtlincoeldehkfaaGreatDoorEvent
import Derived.Test.YtlincoeldehkfaaGreatDoorEntS
import Derived.Test.YtlincoeldehkfaaGreatDoorWr
namespace Go.Proofs.YtlincoeldehkfaaGreatDoor.EntP
open Go Go.RowKit Go.Shelf Go.Proofs.YtlincoeldehkfaaGreatDoor Go.Proofs.YtlincoeldehkfaaGreatDoor.OctetS Go.Proofs.YtlincoeldehkfaaGreatDoor.IdentS Go.Proofs.YtlincoeldehkfaaGreatDoor.EntS Go.Proofs.YtlincoeldehkfaaGreatDoor.OctP Go.Proofs.YtlincoeldehkfaaGreatDoor.OctQ Go.Proofs.YtlincoeldehkfaaGreatDoor.IdentP Go.Proofs.YtlincoeldehkfaaGreatDoor.IdentR Go.Proofs.YtlincoeldehkfaaGreatDoor.EventP Go.Proofs.YtlincoeldehkfaaGreatDoor.EventC
set_option linter.unusedVariables false
set_option linter.unusedSimpArgs false

/-- An entry's cells. -/
def entA (r : ByteArray) (ep ix : Int) (pv : List UInt8) (e s : ByteArray) : Array Value := ([.string r, .int .i64 ep, .int .i64 ix] ++ byV pv ++ [.string e, .string s] : List Value).toArray
def entOf (r : ByteArray) (ep ix : Int) (pv : List UInt8) (e s : ByteArray) : Ent := ⟨bl r, ep, ix, pv, bl e, bl s⟩
structure EntP (p : Array Value) (r : ByteArray) (ep ix : Int) (pv : List UInt8) (e s : ByteArray) : Prop where
  eq : p = entA r ep ix pv e s
  len : pv.length = 32
section
variable {p : Array Value} {r : ByteArray} {ep ix : Int} {pv : List UInt8} {e s : ByteArray}
theorem EntP.size (h : EntP p r ep ix pv e s) : p.size = 37 := by rw [h.eq]; simp [entA, byV_length, h.len]
theorem EntP.c0 (h : EntP p r ep ix pv e s) : p[0]? = some (.string r) := by rw [h.eq]; rfl
theorem EntP.c1 (h : EntP p r ep ix pv e s) : p[1]? = some (.int .i64 ep) := by rw [h.eq]; rfl
theorem EntP.c2 (h : EntP p r ep ix pv e s) : p[2]? = some (.int .i64 ix) := by rw [h.eq]; rfl
theorem EntP.cp (h : EntP p r ep ix pv e s) (j : Nat) (u : Value) (hj : (byV pv)[j]? = some u) : p[3 + j]? = some u := by
  have hl : j < 32 := by
    have := (List.getElem?_eq_some_iff.1 hj).1
    rw [byV_length, h.len] at this
    exact this
  rw [h.eq]
  unfold entA
  rw [List.getElem?_toArray, List.getElem?_append_left (by simp [byV_length, h.len]; omega), List.getElem?_append_right (by simp)]
  simpa using hj
theorem EntP.c35 (h : EntP p r ep ix pv e s) : p[35]? = some (.string e) := by
  rw [h.eq]
  unfold entA
  rw [List.getElem?_toArray, List.getElem?_append_right (by simp [byV_length, h.len])]
  simp [byV_length, h.len]
theorem EntP.c36 (h : EntP p r ep ix pv e s) : p[36]? = some (.string s) := by
  rw [h.eq]
  unfold entA
  rw [List.getElem?_toArray, List.getElem?_append_right (by simp [byV_length, h.len])]
  simp [byV_length, h.len]
/-- The bytes of the entry's link, where the entry lies. -/
theorem EntP.sl (h : EntP p r ep ix pv e s) {W : World} {B : Nat} {t : TypeId} (hb : W.heap[B]? = some (.cells p t (0, 0))) : Sl W (.slice (some ⟨B, 3, none⟩) 32 32) 1 pv.length (byV pv) := by
  rw [h.len]
  refine ⟨by rw [byV_length, h.len], .inr ⟨_, 32, rfl, Nat.le_refl _, by unfold maxLen; omega, fun j u hu => ?_⟩⟩
  rw [Addr.add_mid, cell_row hb]
  exact h.cp j u hu
end
theorem chk_eq (r : ByteArray) (ep ix : Int) (pv : List UInt8) (e s : ByteArray) : EntS.checkB (entOf r ep ix pv e s) = (roomB (bl r) && (placeB ep && (placeB ix && (decide (e.size ≤ 8192) && decide (s.size ≤ 8192))))) := by
  unfold EntS.checkB entOf
  simp only [bl_length]

theorem place_ok (w : World) (n : Int) : Calls Tryz.prog 83 #[.int .i64 n] w fun e w' => e = .returned (.bool (placeB n)) ∧ w = w' := by
  by_cases h0 : 0 ≤ n
  · go_enter Tryz.func83, Tryz.ntmps83
    go_wp2
    go_ret
    exact ⟨by simp [placeB, h0], rfl⟩
  · have h1 : decide (0 ≤ n) = false := by simpa using h0
    go_enter Tryz.func83, Tryz.ntmps83
    go_wp2
    go_ret
    exact ⟨by simp [placeB, h1], rfl⟩

set_option maxRecDepth 100000 in
set_option maxHeartbeats 4000000 in
theorem Check_ok (w : World) (p : Array Value) (r : ByteArray) (ep ix : Int) (pv : List UInt8) (e s : ByteArray) (hp : EntP p r ep ix pv e s) (hv : VarsI w) (hr : r.size ≤ 140737488351232) (he : e.size ≤ maxLen) (hs : s.size ≤ maxLen) :
    Calls Tryz.prog 70 #[.agg p] w (RB (.int .i64 (whyOf (EntS.checkB (entOf r ep ix pv e s)))) w) := by
  unfold maxLen at he hs
  rw [chk_eq]
  obtain ⟨rn, hR⟩ := room_at w r hr
  obtain ⟨rb, hrb⟩ : ∃ x, x = roomB (bl r) := ⟨_, rfl⟩
  rw [← hrb] at hR ⊢
  clear hrb
  have hPe := fun w => place_ok w ep
  have hPi := fun w => place_ok w ix
  obtain ⟨pe, hpe⟩ : ∃ x, x = placeB ep := ⟨_, rfl⟩
  obtain ⟨pi, hpi⟩ : ∃ x, x = placeB ix := ⟨_, rfl⟩
  rw [← hpe] at hPe ⊢
  rw [← hpi] at hPi ⊢
  clear hpe hpi
  obtain ⟨y, hy⟩ : ∃ y, y = whyOf (rb && (pe && (pi && (decide (e.size ≤ 8192) && decide (s.size ≤ 8192))))) := ⟨_, rfl⟩
  rw [← hy]
  have Hy0 := Lib.hid hy
  clear hy
  have p0 := hp.c0
  have p1 := hp.c1
  have p2 := hp.c2
  have p35 := hp.c35
  have p36 := hp.c36
  obtain ⟨w0, hw0⟩ : ∃ w0, w0 = w.alloc (.cells p 70) := ⟨_, rfl⟩
  have hb0 : Below w.heap.size w w0 := by rw [hw0]; exact ((Below.refl _ w).alloc (Nat.le_refl _) _)
  have hx0 : w0.heap[w.heap.size]? = some (.cells p 70 (0, 0)) := by rw [hw0]; exact heap_new _ _
  have HBL0 := Lib.hid hb0
  have HW0 := Lib.hid hw0
  have lx0 := lt_row hx0
  obtain ⟨cx0, fx0⟩ := row_facts hx0
  have HV0 := Lib.hid (hv.below hb0)
  have HR := Lib.hid hR
  have HPe := Lib.hid hPe
  have HPi := Lib.hid hPi
  clear hR hPe hPi hv hb0 hw0 hr hp
  have hcase : rb = false ∨ (rb = true ∧ pe = false) ∨ (rb = true ∧ pe = true ∧ pi = false) ∨ (rb = true ∧ pe = true ∧ pi = true) := by
    cases rb <;> cases pe <;> cases pi <;> simp
  rcases hcase with rfl | ⟨rfl, rfl⟩ | ⟨rfl, rfl, rfl⟩ | ⟨rfl, rfl, rfl⟩
  all_goals
    go_enter Tryz.func70, Tryz.ntmps70
    go_wp2_with fail
    rw [← HW0.out]
    refine (HR.out w0 HV0.out).mono ?_
    rintro e w1 ⟨rfl, hb⟩
    have HBL1 := Lib.hid (HBL0.out.trans (hb.mono HBL0.out.size))
    have hx1 := (hb.block _ lx0).trans hx0
    have lx1 := lt_row hx1
    obtain ⟨cx1, fx1⟩ := row_facts hx1
    have HV1 := Lib.hid (HV0.out.below hb)
    clear hb hx0 cx0 fx0
  · go_wp2
    go_ret
    exact ⟨by rw [Hy0.out]; rfl, HBL1.out⟩
  · go_wp2_with fail
    refine (HPe.out w1).mono ?_
    rintro e' w2 ⟨rfl, rfl⟩
    go_wp2
    go_ret
    exact ⟨by rw [Hy0.out]; rfl, HBL1.out⟩
  · go_wp2_with fail
    refine (HPe.out w1).mono ?_
    rintro e' w2 ⟨rfl, rfl⟩
    go_wp2_with fail
    refine (HPi.out w1).mono ?_
    rintro e' w2 ⟨rfl, rfl⟩
    go_wp2
    go_ret
    exact ⟨by rw [Hy0.out]; rfl, HBL1.out⟩
  · have hy' : (e.size ≤ 8192 ∧ s.size ≤ 8192 ∧ y = 0) ∨ (¬ (e.size ≤ 8192 ∧ s.size ≤ 8192) ∧ y = 2) := by
      rw [Hy0.out]
      unfold whyOf
      simp only [Bool.true_and, Bool.and_eq_true, decide_eq_true_eq]
      by_cases h : e.size ≤ 8192 ∧ s.size ≤ 8192
      · rw [if_pos h]
        exact .inl ⟨h.1, h.2, rfl⟩
      · rw [if_neg h]
        exact .inr ⟨h, rfl⟩
    have Hy := Lib.hid hy'
    clear hy'
    go_wp2_with fail
    refine (HPe.out w1).mono ?_
    rintro e' w2 ⟨rfl, rfl⟩
    go_wp2_with fail
    refine (HPi.out w1).mono ?_
    rintro e' w2 ⟨rfl, rfl⟩
    go_wp2
    all_goals
      go_ret
      refine ⟨?_, HBL1.out⟩
      have hy := Hy.out
      first
        | (obtain rfl : y = 0 := by omega
           rfl)
        | (obtain rfl : y = 2 := by omega
           rfl)


end Go.Proofs.YtlincoeldehkfaaGreatDoor.EntP
