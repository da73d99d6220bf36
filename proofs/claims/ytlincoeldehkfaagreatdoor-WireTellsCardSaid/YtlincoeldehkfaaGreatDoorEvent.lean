/-
  WHAT IS PROVED: what the program's package of events computes. Condition: what each theorem names.
-/
import Derived.Test.YtlincoeldehkfaaGreatDoorIdent
import Derived.Test.YtlincoeldehkfaaGreatDoorPlain
import Derived.Test.YtlincoeldehkfaaGreatDoorOct
namespace Go.Proofs.YtlincoeldehkfaaGreatDoor.EventP
open Go Go.RowKit Go.Proofs.YtlincoeldehkfaaGreatDoor Go.Proofs.YtlincoeldehkfaaGreatDoor.IdentS Go.Proofs.YtlincoeldehkfaaGreatDoor.EventS Go.Proofs.YtlincoeldehkfaaGreatDoor.OctP Go.Proofs.YtlincoeldehkfaaGreatDoor.IdentP Go.Proofs.YtlincoeldehkfaaGreatDoor.IdentQ Go.Proofs.YtlincoeldehkfaaGreatDoor.IdentR
set_option linter.unusedVariables false
set_option linter.unusedSimpArgs false

def RB (v : Value) (w : World) (e : Ending) (w' : World) : Prop := e = .returned v ∧ Below w.heap.size w w'

def evV (r s : ByteArray) (k : Int) (ky b : ByteArray) (n : Int) : Value := .agg #[.string r, .string s, .int .u8 k, .string ky, .string b, .int .i64 n]
def evOf (r s : ByteArray) (k : Int) (ky b : ByteArray) (n : Int) : Ev := ⟨bl r, bl s, k, bl ky, bl b, n⟩

/-- What the package-level variables hold. -/
structure VarsE (w : World) : Prop where
  i : VarsI w
  words : ∀ k, k < 9 → w.cell? ⟨1, k, none⟩ = some (.string (bsOf (wordN k)))
theorem VarsE.below {w w' : World} (h : VarsE w) (hb : Below w.heap.size w w') : VarsE w' :=
  ⟨h.i.below hb, fun k hk => (hb.cell (World.block_lt_of_cell? w _ (h.words k hk))).trans (h.words k hk)⟩

theorem known_ok (w : World) (k : Int) : Calls Tryz.prog 67 #[.int .u8 k] w fun e w' => e = .returned (.bool (EventS.known k)) ∧ w = w' := by
  go_enter Tryz.func67, Tryz.ntmps67
  go_wp2
  all_goals
    go_ret
    refine ⟨?_, rfl⟩
    congr 2
    simp [EventS.known] at *
    try omega

theorem user_at (w0 : World) (s : ByteArray) (hs : s.size ≤ 140737488351232) : ∃ n : Int, ∀ w, VarsI w → Calls Tryz.prog 66 #[.string s] w (RB (.tuple #[.int .i64 n, .bool (userB (bl s))]) w) := by
  unfold userB
  cases h : serverOf 1 (bl s) with
  | none => exact ⟨0, fun w hv => by have := User_ok w s hv hs; unfold ServPost at this; rw [h] at this; exact this⟩
  | some n => exact ⟨n, fun w hv => by have := User_ok w s hv hs; unfold ServPost at this; rw [h] at this; exact this⟩
theorem room_at (w0 : World) (s : ByteArray) (hs : s.size ≤ 140737488351232) : ∃ n : Int, ∀ w, VarsI w → Calls Tryz.prog 65 #[.string s] w (RB (.tuple #[.int .i64 n, .bool (roomB (bl s))]) w) := by
  unfold roomB
  cases h : serverOf 2 (bl s) with
  | none => exact ⟨0, fun w hv => by have := Room_ok w s hv hs; unfold ServPost at this; rw [h] at this; exact this⟩
  | some n => exact ⟨n, fun w hv => by have := Room_ok w s hv hs; unfold ServPost at this; rw [h] at this; exact this⟩

theorem key_ok (w : World) (r s : ByteArray) (k : Int) (ky b : ByteArray) (n : Int) (hv : VarsI w) (hk : ky.size ≤ 140737488351232) :
    Calls Tryz.prog 68 #[evV r s k ky b n] w (RB (.bool (keyB (evOf r s k ky b n))) w) := by
  obtain ⟨un, hU⟩ := user_at w ky hk
  have hV := hv.below ((Below.refl _ w).alloc (Nat.le_refl _) (.cells #[.string r, .string s, .int .u8 k, .string ky, .string b, .int .i64 n] 66))
  have HU := Lib.hid hU
  have HV := Lib.hid hV
  clear hU hV hv hk
  unfold evV
  by_cases h2 : k = 2
  · subst h2
    have hfin : keyB (evOf r s 2 ky b n) = userB (bl ky) := by unfold keyB evOf; exact if_pos rfl
    rw [hfin]
    clear hfin
    go_enter Tryz.func68, Tryz.ntmps68
    go_wp2_with fail
    refine (HU.out _ HV.out).mono ?_
    rintro e w' ⟨rfl, hb⟩
    have HB := Lib.hid (((Below.refl _ w).alloc (Nat.le_refl _) _).trans (hb.mono (by simp)))
    clear hb
    go_wp2
    go_ret
    exact ⟨rfl, HB.out⟩
  · have hkb : (k != 2) = true := by simp [h2]
    have hfin : keyB (evOf r s k ky b n) = ky.toList.isEmpty := by
      unfold keyB evOf
      simp only [h2, if_false]
      have he0 : (ByteArray.empty).toList = [] := by decide +kernel
      by_cases he : ky = ByteArray.empty
      · subst he
        rw [he0]
        rfl
      · have h3 := str_ne he
        rw [he0, beq_eq_false_iff_ne] at h3
        rw [List.isEmpty_eq_false_iff.2 h3]
        simp only [decide_eq_false_iff_not]
        intro h
        exact he (bl_inj h)
    rw [hfin]
    clear hfin
    go_enter Tryz.func68, Tryz.ntmps68
    go_wp2
    go_ret
    exact ⟨rfl, (Below.refl _ w).alloc (Nat.le_refl _) _⟩

end Go.Proofs.YtlincoeldehkfaaGreatDoor.EventP

namespace Go.Proofs.YtlincoeldehkfaaGreatDoor.EventC
open Go Go.RowKit Go.Proofs.YtlincoeldehkfaaGreatDoor Go.Proofs.YtlincoeldehkfaaGreatDoor.IdentS Go.Proofs.YtlincoeldehkfaaGreatDoor.EventS Go.Proofs.YtlincoeldehkfaaGreatDoor.OctP Go.Proofs.YtlincoeldehkfaaGreatDoor.IdentP Go.Proofs.YtlincoeldehkfaaGreatDoor.IdentQ Go.Proofs.YtlincoeldehkfaaGreatDoor.IdentR Go.Proofs.YtlincoeldehkfaaGreatDoor.EventP
set_option linter.unusedVariables false
set_option linter.unusedSimpArgs false

def whyOf (b : Bool) : Int := if b then 0 else 2

set_option maxRecDepth 100000 in
set_option maxHeartbeats 4000000 in
theorem Check_ok (w : World) (r s : ByteArray) (k : Int) (ky b : ByteArray) (n : Int) (hv : VarsI w) (hr : r.size ≤ 140737488351232) (hs : s.size ≤ 140737488351232) (hk : ky.size ≤ 140737488351232) (hb : b.size ≤ maxLen) :
    Calls Tryz.prog 52 #[evV r s k ky b n] w (RB (.int .i64 (whyOf (checkB (evOf r s k ky b n)))) w) := by
  unfold maxLen at hb
  obtain ⟨rn, hR⟩ := room_at w r hr
  obtain ⟨un, hU⟩ := user_at w s hs
  have hK := fun w hv => key_ok w r s k ky b n hv hk
  have hN := fun w => known_ok w k
  have hchk : checkB (evOf r s k ky b n) = (roomB (bl r) && (userB (bl s) && (EventS.known k && (keyB (evOf r s k ky b n) && (decide (b.size ≤ 512) && (decide (0 ≤ n) && decide (n ≤ 1099511627776))))))) := by
    have hbl : (evOf r s k ky b n).body.length = b.size := bl_length b
    unfold checkB
    rw [hbl]
    rfl
  rw [hchk]
  clear hchk
  obtain ⟨rb, hrb⟩ : ∃ x, x = roomB (bl r) := ⟨_, rfl⟩
  obtain ⟨ub, hub⟩ : ∃ x, x = userB (bl s) := ⟨_, rfl⟩
  obtain ⟨nb, hnb⟩ : ∃ x, x = EventS.known k := ⟨_, rfl⟩
  obtain ⟨kb, hkb⟩ : ∃ x, x = keyB (evOf r s k ky b n) := ⟨_, rfl⟩
  rw [← hrb] at hR ⊢
  rw [← hub] at hU ⊢
  rw [← hkb] at hK ⊢
  rw [← hnb] at hN ⊢
  clear hrb hub hnb hkb
  obtain ⟨y, hy⟩ : ∃ y, y = whyOf (rb && (ub && (nb && (kb && (decide (b.size ≤ 512) && (decide (0 ≤ n) && decide (n ≤ 1099511627776))))))) := ⟨_, rfl⟩
  rw [← hy]
  have Hy0 := Lib.hid hy
  clear hy
  obtain ⟨w0, hw0⟩ : ∃ w0, w0 = w.alloc (.cells #[.string r, .string s, .int .u8 k, .string ky, .string b, .int .i64 n] 66) := ⟨_, rfl⟩
  have hB0 : Below w.heap.size w w0 := by rw [hw0]; exact (Below.refl _ w).alloc (Nat.le_refl _) _
  have hx0 : w0.heap[w.heap.size]? = some (.cells #[.string r, .string s, .int .u8 k, .string ky, .string b, .int .i64 n] 66 (0, 0)) := by rw [hw0]; exact heap_new _ _
  have hl0 := lt_row hx0
  have HV0 := Lib.hid (hv.below hB0)
  have HB0 := Lib.hid hB0
  have Hw0 := Lib.hid hw0
  have HR := Lib.hid hR
  have HU := Lib.hid hU
  have HK := Lib.hid hK
  have HN := Lib.hid hN
  clear hR hU hK hN hv hB0 hw0 hr hs hk
  unfold evV
  have hcase : rb = false ∨ (rb = true ∧ ub = false) ∨ (rb = true ∧ ub = true ∧ nb = false) ∨ (rb = true ∧ ub = true ∧ nb = true ∧ kb = false) ∨ (rb = true ∧ ub = true ∧ nb = true ∧ kb = true) := by
    cases rb <;> cases ub <;> cases nb <;> cases kb <;> simp
  have hb0 := row_facts hx0
  rcases hcase with rfl | ⟨rfl, rfl⟩ | ⟨rfl, rfl, rfl⟩ | ⟨rfl, rfl, rfl, rfl⟩ | ⟨rfl, rfl, rfl, rfl⟩
  all_goals
    go_enter Tryz.func52, Tryz.ntmps52
    go_wp2_with fail
    rw [show (w.alloc (.cells #[.string r, .string s, .int .u8 k, .string ky, .string b, .int .i64 n] 66)) = w0 from Hw0.out.symm]
    refine (HR.out w0 HV0.out).mono ?_
    rintro e w1 ⟨rfl, hb1⟩
    have HV1 := Lib.hid (HV0.out.below hb1)
    have HB1 := Lib.hid (HB0.out.trans (hb1.mono HB0.out.size))
    have hx1 := (hb1.block _ hl0).trans hx0
    have hl1 := lt_row hx1
    obtain ⟨hc1, hf1⟩ := row_facts hx1
    clear hb1
    go_wp2_with fail
    refine (HU.out w1 HV1.out).mono ?_
    rintro e w2 ⟨rfl, hb2⟩
    have HV2 := Lib.hid (HV1.out.below hb2)
    have HB2 := Lib.hid (HB1.out.trans (hb2.mono HB1.out.size))
    have hx2 := (hb2.block _ hl1).trans hx1
    have hl2 := lt_row hx2
    obtain ⟨hc2, hf2⟩ := row_facts hx2
    clear hb2 hc1 hf1
  · go_wp2
    go_ret
    exact ⟨by rw [Hy0.out]; rfl, HB2.out⟩
  · go_wp2
    go_ret
    exact ⟨by rw [Hy0.out]; rfl, HB2.out⟩
  · go_wp2_with fail
    refine (HN.out w2).mono ?_
    rintro e w3 ⟨rfl, rfl⟩
    go_wp2
    go_ret
    exact ⟨by rw [Hy0.out]; rfl, HB2.out⟩
  all_goals
    go_wp2_with fail
    refine (HN.out w2).mono ?_
    rintro e w3 ⟨rfl, rfl⟩
    go_wp2_with fail
    refine (HK.out w2 HV2.out).mono ?_
    rintro e w3 ⟨rfl, hb3⟩
    have HB3 := Lib.hid (HB2.out.trans (hb3.mono HB2.out.size))
    have hx3 := (hb3.block _ hl2).trans hx2
    have hl3 := lt_row hx3
    obtain ⟨hc3, hf3⟩ := row_facts hx3
    clear hb3 hc2 hf2
  · go_wp2
    go_ret
    exact ⟨by rw [Hy0.out]; rfl, HB3.out⟩
  · have hy' : (b.size ≤ 512 ∧ 0 ≤ n ∧ n ≤ 1099511627776 ∧ y = 0) ∨ (¬ (b.size ≤ 512 ∧ 0 ≤ n ∧ n ≤ 1099511627776) ∧ y = 2) := by
      rw [Hy0.out]
      unfold whyOf
      simp only [Bool.true_and, Bool.and_eq_true, decide_eq_true_eq]
      by_cases h : b.size ≤ 512 ∧ 0 ≤ n ∧ n ≤ 1099511627776
      · rw [if_pos h]
        exact .inl ⟨h.1, h.2.1, h.2.2, rfl⟩
      · rw [if_neg h]
        exact .inr ⟨h, rfl⟩
    have Hy := Lib.hid hy'
    clear hy'
    go_wp2
    all_goals
      go_ret
      refine ⟨?_, HB3.out⟩
      have hy := Hy.out
      first
        | (obtain rfl : y = 0 := by omega
           rfl)
        | (obtain rfl : y = 2 := by omega
           rfl)

end Go.Proofs.YtlincoeldehkfaaGreatDoor.EventC

namespace Go.Proofs.YtlincoeldehkfaaGreatDoor.EventB
open Go Go.RowKit Go.Proofs.YtlincoeldehkfaaGreatDoor Go.Proofs.YtlincoeldehkfaaGreatDoor.OctetS Go.Proofs.YtlincoeldehkfaaGreatDoor.IdentS Go.Proofs.YtlincoeldehkfaaGreatDoor.EventS Go.Proofs.YtlincoeldehkfaaGreatDoor.OctP Go.Proofs.YtlincoeldehkfaaGreatDoor.OctQ Go.Proofs.YtlincoeldehkfaaGreatDoor.IdentP Go.Proofs.YtlincoeldehkfaaGreatDoor.EventP Go.Proofs.YtlincoeldehkfaaGreatDoor.EventC
set_option linter.unusedVariables false
set_option linter.unusedSimpArgs false

theorem sl_built {w : World} {b n : Nat} {cs : Array Value} {t : TypeId} (h : w.heap[b]? = some (.cells cs t (0, 0))) (hn : n = cs.size) (hm : n ≤ maxLen) : Sl w (.slice (some ⟨b, 0, none⟩) n n) 1 n cs.toList := by
  subst hn
  refine ⟨by simp, .inr ⟨⟨b, 0, none⟩, cs.size, rfl, Nat.le_refl _, hm, fun j u hu => ?_⟩⟩
  rw [show (Addr.add ⟨b, 0, none⟩ j : Addr) = ⟨b, j, none⟩ by unfold Addr.add; cases j <;> simp]
  rw [cell_row h]
  simpa using hu

theorem cell_alloc {w : World} {p : Addr} {v : Value} (h : w.cell? p = some v) (o : Obj) : (w.alloc o).cell? p = some v :=
  (((Below.refl _ w).alloc (Nat.le_refl _) o).cell (World.block_lt_of_cell? w _ h)).trans h

end Go.Proofs.YtlincoeldehkfaaGreatDoor.EventB

namespace Go.Proofs.YtlincoeldehkfaaGreatDoor.EventK
open Go Go.RowKit Go.Proofs.YtlincoeldehkfaaGreatDoor Go.Proofs.YtlincoeldehkfaaGreatDoor.IdentS Go.Proofs.YtlincoeldehkfaaGreatDoor.EventS Go.Proofs.YtlincoeldehkfaaGreatDoor.OctP Go.Proofs.YtlincoeldehkfaaGreatDoor.IdentP Go.Proofs.YtlincoeldehkfaaGreatDoor.EventP
set_option linter.unusedVariables false
set_option linter.unusedSimpArgs false

theorem kind_hit {s : List UInt8} {k : Nat} (h1 : 1 ≤ k) (h9 : k < 9) (hlt : ∀ j, 1 ≤ j → j < k → wordN j ≠ s) (h : wordN k = s) : kindW s = k := by
  have hk : k = 1 ∨ k = 2 ∨ k = 3 ∨ k = 4 ∨ k = 5 ∨ k = 6 ∨ k = 7 ∨ k = 8 := by omega
  subst h
  rcases hk with rfl | rfl | rfl | rfl | rfl | rfl | rfl | rfl <;> decide
theorem kind_miss {s : List UInt8} (h : ∀ j, 1 ≤ j → j < 9 → wordN j ≠ s) : kindW s = 0 := by
  unfold kindW
  rw [if_neg (h 1 (by omega) (by omega)), if_neg (h 2 (by omega) (by omega)), if_neg (h 3 (by omega) (by omega)), if_neg (h 4 (by omega) (by omega)), if_neg (h 5 (by omega) (by omega)), if_neg (h 6 (by omega) (by omega)), if_neg (h 7 (by omega) (by omega)), if_neg (h 8 (by omega) (by omega))]

set_option maxHeartbeats 1000000 in
theorem kind_ok (w : World) (s : ByteArray) (hv : VarsE w) : Calls Tryz.prog 51 #[.string s] w fun e w' => e = .returned (.int .u8 (kindW (bl s))) ∧ w = w' := by
  have HV := Lib.hid hv.words
  clear hv
  go_enter Tryz.func51, Tryz.ntmps51
  go_wp2
  go_loop [3] (fun i => ∃ k : Nat, i = .int .u8 k ∧ 1 ≤ k ∧ k ≤ 9 ∧ ∀ j, 1 ≤ j → j < k → wordN j ≠ bl s) (fun i => 9 - (intOf i).toNat)
  case atStart => exact ⟨1, rfl, by omega, by omega, fun j h1 h2 => by omega⟩
  case round =>
    obtain ⟨k, rfl, hk1, hk9, hall⟩ := hrel
    have Hall := Lib.hid hall
    clear hall
    by_cases hlt : k < 9
    · have hc := HV.out k hlt
      by_cases he : wordN k = bl s
      · have hb : (bsOf (wordN k)).toList == s.toList := by rw [he, bsOf_bl]; simp
        have hb' : ((bsOf (wordN k)).toList == s.toList) = true := hb
        have hfin := kind_hit hk1 hlt Hall.out he
        have Hfin := Lib.hid hfin
        clear hfin he hb
        obtain ⟨wd, hwd⟩ : ∃ wd, wd = bsOf (wordN k) := ⟨_, rfl⟩
        rw [← hwd] at hc hb'
        clear hwd
        go_wp2
        go_ret
        exact ⟨by rw [Hfin.out]; rfl, rfl⟩
      · have hb' : ((bsOf (wordN k)).toList == s.toList) = false := str_ne (fun h => he (by have := congrArg bl h; rw [bl_bsOf] at this; exact this))
        have hnx : ∀ j, 1 ≤ j → j < k + 1 → wordN j ≠ bl s := fun j h1 h2 => by
          by_cases hj : j = k
          · rw [hj]; exact he
          · exact Hall.out j h1 (by omega)
        have Hnx := Lib.hid hnx
        clear he hnx
        obtain ⟨wd, hwd⟩ : ∃ wd, wd = bsOf (wordN k) := ⟨_, rfl⟩
        rw [← hwd] at hc hb'
        clear hwd
        go_wp2
        go_round
        case rel => exact ⟨k + 1, by go_num, by omega, by omega, Hnx.out⟩
        case measure => simp [intOf]; omega
    · obtain rfl : k = 9 := by omega
      have hfin := kind_miss Hall.out
      have Hfin := Lib.hid hfin
      clear hfin
      go_wp2
      go_ret
      exact ⟨by rw [Hfin.out]; rfl, rfl⟩

end Go.Proofs.YtlincoeldehkfaaGreatDoor.EventK

namespace Go.Proofs.YtlincoeldehkfaaGreatDoor.EventR
open Go Go.RowKit Go.Proofs.YtlincoeldehkfaaGreatDoor Go.Proofs.YtlincoeldehkfaaGreatDoor.OctetS Go.Proofs.YtlincoeldehkfaaGreatDoor.IdentS Go.Proofs.YtlincoeldehkfaaGreatDoor.EventS Go.Proofs.YtlincoeldehkfaaGreatDoor.OctP Go.Proofs.YtlincoeldehkfaaGreatDoor.OctQ Go.Proofs.YtlincoeldehkfaaGreatDoor.OctG Go.Proofs.YtlincoeldehkfaaGreatDoor.OctA Go.Proofs.YtlincoeldehkfaaGreatDoor.IdentP Go.Proofs.YtlincoeldehkfaaGreatDoor.EventP Go.Proofs.YtlincoeldehkfaaGreatDoor.EventC Go.Proofs.YtlincoeldehkfaaGreatDoor.EventK
set_option linter.unusedVariables false
set_option linter.unusedSimpArgs false

def readEV : Option Ev → Value
  | some x => .tuple #[evV (bsOf x.room) (bsOf x.sender) x.kind (bsOf x.key) (bsOf x.body) x.nonce, .int .i64 0]
  | none => .tuple #[evV ByteArray.empty ByteArray.empty 0 ByteArray.empty ByteArray.empty 0, .int .i64 6]
def EvPost (l : List UInt8) (w : World) (e : Ending) (w' : World) : Prop := e = .returned (readEV (EventS.parse l)) ∧ Below w.heap.size w w'

/-- A block of an event's six cells, written anew. -/
def set6 (w : World) (B : Nat) (v0 v1 v2 v3 v4 v5 : Value) : World := (((((w.setCell ⟨B, 0, none⟩ v0).setCell ⟨B, 1, none⟩ v1).setCell ⟨B, 2, none⟩ v2).setCell ⟨B, 3, none⟩ v3).setCell ⟨B, 4, none⟩ v4).setCell ⟨B, 5, none⟩ v5
theorem set6_row {w : World} {B : Nat} {x0 x1 x2 x3 x4 x5 : Value} {t : TypeId} (h : w.heap[B]? = some (.cells #[x0, x1, x2, x3, x4, x5] t (0, 0))) (v0 v1 v2 v3 v4 v5 : Value) :
    (set6 w B v0 v1 v2 v3 v4 v5).heap[B]? = some (.cells #[v0, v1, v2, v3, v4, v5] t (0, 0)) := by
  unfold set6
  exact heap_setCell_same (heap_setCell_same (heap_setCell_same (heap_setCell_same (heap_setCell_same (heap_setCell_same h _) _) _) _) _) _
theorem set6_below {n : Nat} {w0 w : World} {B : Nat} (h : Below n w0 w) (hB : n ≤ B) (v0 v1 v2 v3 v4 v5 : Value) : Below n w0 (set6 w B v0 v1 v2 v3 v4 v5) := by
  unfold set6
  exact (((((h.setCell (p := ⟨B, 0, none⟩) hB _).setCell (p := ⟨B, 1, none⟩) hB _).setCell (p := ⟨B, 2, none⟩) hB _).setCell (p := ⟨B, 3, none⟩) hB _).setCell (p := ⟨B, 4, none⟩) hB _).setCell (p := ⟨B, 5, none⟩) hB _

def evZero : Array Value := #[.string ByteArray.empty, .string ByteArray.empty, .int .u8 0, .string ByteArray.empty, .string ByteArray.empty, .int .i64 0]

/-- Whatever the bytes are not: the answer is the same. -/
theorem fin_none {w w3 : World} {l : List UInt8} {x0 x1 x2 x3 x4 x5 : Value} (hn : EventS.parse l = none) (h : w3.heap[w.heap.size]? = some (.cells #[x0, x1, x2, x3, x4, x5] 66 (0, 0))) (hb : Below w.heap.size w w3) (W4 : World)
    (hW : W4 = set6 w3 w.heap.size (.string ByteArray.empty) (.string ByteArray.empty) (.int .u8 0) (.string ByteArray.empty) (.string ByteArray.empty) (.int .i64 0)) :
    (∀ j, W4.cell? ⟨w.heap.size, j, none⟩ = evZero[j]?) ∧ EvPost l w (.returned (.tuple #[.agg evZero, .int .i64 6])) W4 := by
  subst hW
  refine ⟨fun j => cell_row (set6_row h ..), ?_, set6_below hb (Nat.le_refl _) ..⟩
  rw [hn]
  rfl

set_option maxRecDepth 100000 in
set_option maxHeartbeats 2000000 in
theorem Parse_bad (w : World) (s : ByteArray) (hv : VarsE w) (hs : s.size ≤ 140737488351232) {l : List (List UInt8)} {y : Int} (ha : all (bl s) = (l, y)) (hbad : y ≠ 0 ∨ (y = 0 ∧ l.length ≠ 6)) :
    Calls Tryz.prog 39 #[.string s] w (EvPost (bl s) w) := by
  have hn : EventS.parse (bl s) = none := by
    unfold EventS.parse partsB
    rw [ha]
    rcases hbad with h | ⟨_, h⟩ <;> simp [h]
  have hA := fun w => All_ok w s (by unfold maxLen; omega)
  unfold AllPost at hA
  rw [ha] at hA
  obtain ⟨W0, hW0⟩ : ∃ W0, W0 = w.alloc (.cells evZero 66) := ⟨_, rfl⟩
  have hB0 : Below w.heap.size w W0 := by rw [hW0]; exact (Below.refl _ w).alloc (Nat.le_refl _) _
  have hx0 : W0.heap[w.heap.size]? = some (.cells evZero 66 (0, 0)) := by rw [hW0]; exact heap_new _ _
  have hl0 := lt_row hx0
  have HA := Lib.hid hA
  have HB0 := Lib.hid hB0
  have HW0 := Lib.hid hW0
  have Hn := Lib.hid hn
  have hcase : (y != 0) = true ∨ (y = 0 ∧ ((l.length : Int) != 6) = true) := by
    rcases hbad with h | ⟨h0, h⟩
    · exact .inl (by simpa using h)
    · exact .inr ⟨h0, by simp; omega⟩
  clear hA hB0 hW0 hn hv hs ha hbad
  rcases hcase with hy | ⟨rfl, hy⟩
  all_goals
    go_enter Tryz.func39, Tryz.ntmps39
    go_wp2_with fail
    rw [show (w.alloc (.cells #[.string ⟨#[]⟩, .string ⟨#[]⟩, .int .u8 0, .string ⟨#[]⟩, .string ⟨#[]⟩, .int .i64 0] 66)) = W0 from HW0.out.symm]
    refine (HA.out W0).mono ?_
    rintro e w1 ⟨v, rfl, hl, hb1⟩
    obtain ⟨a, cap, rfl, _, _⟩ := (Sl.ofOwn hl).form
    have HB1 := Lib.hid (HB0.out.trans (hb1.mono HB0.out.size))
    have hx1 := (hb1.block _ hl0).trans hx0
    unfold evZero at hx1
    have hl1 := lt_row hx1
    have hrow := row_facts hx1
    obtain ⟨hc1, hf1⟩ := hrow
    clear hb1 hl
    go_wp2
    obtain ⟨W4, hW4⟩ : ∃ W4, W4 = set6 w1 w.heap.size (.string ByteArray.empty) (.string ByteArray.empty) (.int .u8 0) (.string ByteArray.empty) (.string ByteArray.empty) (.int .i64 0) := ⟨_, rfl⟩
    obtain ⟨hk, hp⟩ := fin_none Hn.out hx1 HB1.out W4 hW4
    have k0 := hk 0
    have k1 := hk 1
    have k2 := hk 2
    have k3 := hk 3
    have k4 := hk 4
    have k5 := hk 5
    unfold evZero at k0 k1 k2 k3 k4 k5
    change bodyPost _ _ _ _ _ (set6 w1 w.heap.size (.string ByteArray.empty) (.string ByteArray.empty) (.int .u8 0) (.string ByteArray.empty) (.string ByteArray.empty) (.int .i64 0))
    rw [← hW4]
    refine bodyPost_ret (v := .tuple #[.agg evZero, .int .i64 6]) (by simp [results, Tryz.results39, go_sem, evZero, k0, k1, k2, k3, k4, k5]) rfl hp

/-- Six texts that are read: their cells. -/
theorem list6 {w0 w : World} {v : Value} {a b c d f g : List UInt8} (h : ListAt w0 w v [a, b, c, d, f, g]) :
    ∃ B cap, v = .slice (some ⟨B, 0, none⟩) 6 cap ∧ w0.heap.size ≤ B ∧ w.cell? ⟨B, 0, none⟩ = some (.string (bsOf a)) ∧ w.cell? ⟨B, 1, none⟩ = some (.string (bsOf b)) ∧ w.cell? ⟨B, 2, none⟩ = some (.string (bsOf c)) ∧
      w.cell? ⟨B, 3, none⟩ = some (.string (bsOf d)) ∧ w.cell? ⟨B, 4, none⟩ = some (.string (bsOf f)) ∧ w.cell? ⟨B, 5, none⟩ = some (.string (bsOf g)) := by
  unfold ListAt at h
  have hs := Sl.ofOwn h
  rcases h.2 with ⟨_, h0⟩ | ⟨B, cap, cur, rfl, hB, _⟩
  · simp at h0
  · rcases hs.2 with ⟨h0, _⟩ | ⟨a', cap', e, _, _, hc⟩
    · cases h0
    · simp only [Value.slice.injEq, Option.some.injEq] at e
      obtain ⟨rfl, _, rfl⟩ := e
      exact ⟨B, cap, rfl, hB, hc 0 _ rfl, hc 1 _ rfl, hc 2 _ rfl, hc 3 _ rfl, hc 4 _ rfl, hc 5 _ rfl⟩

set_option maxRecDepth 100000 in
set_option maxHeartbeats 4000000 in
theorem Parse_num (w : World) (s : ByteArray) (hv : VarsE w) (hs : s.size ≤ 140737488351232) {a b c d f g : List UInt8} (ha : all (bl s) = ([a, b, c, d, f, g], 0)) (hbad : (getNum g).2.2 ≠ 0 ∨ ((getNum g).2.2 = 0 ∧ (getNum g).2.1 < g.length)) :
    Calls Tryz.prog 39 #[.string s] w (EvPost (bl s) w) := by
  have hn : EventS.parse (bl s) = none := by
    unfold EventS.parse partsB
    rw [ha]
    simp only [List.getD_cons_zero, List.getD_cons_succ]
    rcases hbad with h | ⟨_, h⟩
    · simp [h]
    · simp
      omega
  obtain ⟨hfit, _⟩ := all_ok ha
  obtain ⟨_, hlen⟩ := fits_iff.1 hfit
  obtain ⟨A0, hA0⟩ : ∃ A0, A0 = bsOf a := ⟨_, rfl⟩
  obtain ⟨A1, hA1⟩ : ∃ A1, A1 = bsOf b := ⟨_, rfl⟩
  obtain ⟨A2, hA2⟩ : ∃ A2, A2 = bsOf c := ⟨_, rfl⟩
  obtain ⟨A3, hA3⟩ : ∃ A3, A3 = bsOf d := ⟨_, rfl⟩
  obtain ⟨A4, hA4⟩ : ∃ A4, A4 = bsOf f := ⟨_, rfl⟩
  obtain ⟨A5, hA5⟩ : ∃ A5, A5 = bsOf g := ⟨_, rfl⟩
  have z0 : A0.size ≤ 8192 := by rw [hA0, size_bsOf]; exact hlen a (by simp)
  have z1 : A1.size ≤ 8192 := by rw [hA1, size_bsOf]; exact hlen b (by simp)
  have z3 : A3.size ≤ 8192 := by rw [hA3, size_bsOf]; exact hlen d (by simp)
  have z4 : A4.size ≤ 8192 := by rw [hA4, size_bsOf]; exact hlen f (by simp)
  have z5 : A5.size ≤ 8192 := by rw [hA5, size_bsOf]; exact hlen g (by simp)
  have hA := fun w => All_ok w s (by unfold maxLen; omega)
  unfold AllPost at hA
  rw [ha] at hA
  obtain ⟨n, u, y, hg⟩ : ∃ n u y, getNum g = (n, u, y) := ⟨_, _, _, rfl⟩
  have hG := fun w => GetNum_at w A5 (by unfold maxLen; omega) (n := n) (u := u) (y := y) (by rw [hA5, bl_bsOf]; exact hg)
  obtain ⟨W0, hW0⟩ : ∃ W0, W0 = w.alloc (.cells evZero 66) := ⟨_, rfl⟩
  have hB0 : Below w.heap.size w W0 := by rw [hW0]; exact (Below.refl _ w).alloc (Nat.le_refl _) _
  have hx0 : W0.heap[w.heap.size]? = some (.cells evZero 66 (0, 0)) := by rw [hW0]; exact heap_new _ _
  have hl0 := lt_row hx0
  have HB0 := Lib.hid hB0
  have HW0 := Lib.hid hW0
  have HV0 := Lib.hid (hv.below hB0)
  rw [hg] at hbad
  simp only at hbad
  have hcase : (y != 0) = true ∨ (y = 0 ∧ u < A5.size) := by
    rcases hbad with h | ⟨h0, h⟩
    · exact .inl (by simpa using h)
    · exact .inr ⟨h0, by rw [hA5, size_bsOf]; exact h⟩
  have HA0 := Lib.hid hA0
  have HA1 := Lib.hid hA1
  have HA2 := Lib.hid hA2
  have HA3 := Lib.hid hA3
  have HA4 := Lib.hid hA4
  have HA5 := Lib.hid hA5
  clear hA0 hA1 hA2 hA3 hA4 hA5
  have HA := Lib.hid hA
  have HG := Lib.hid hG
  have Hn := Lib.hid hn
  clear hA hB0 hW0 hn hv hs ha hbad hG hg hlen hfit
  rcases hcase with hy | ⟨rfl, hy⟩
  all_goals
    go_enter Tryz.func39, Tryz.ntmps39
    go_wp2_with fail
    rw [show (w.alloc (.cells #[.string ⟨#[]⟩, .string ⟨#[]⟩, .int .u8 0, .string ⟨#[]⟩, .string ⟨#[]⟩, .int .i64 0] 66)) = W0 from HW0.out.symm]
    refine (HA.out W0).mono ?_
    rintro e w1 ⟨v, rfl, hl, hb1⟩
    obtain ⟨B, cap, rfl, hBn, h0, h1, h2, h3, h4, h5⟩ := list6 hl
    rw [← HA0.out] at h0
    rw [← HA1.out] at h1
    rw [← HA2.out] at h2
    rw [← HA3.out] at h3
    rw [← HA4.out] at h4
    rw [← HA5.out] at h5
    have HB1 := Lib.hid (HB0.out.trans (hb1.mono HB0.out.size))
    have HV1 := Lib.hid (HV0.out.below hb1)
    have hx1 := (hb1.block _ hl0).trans hx0
    unfold evZero at hx1
    have hl1 := lt_row hx1
    obtain ⟨hc1, hf1⟩ := row_facts hx1
    clear hb1 hl
    go_wp2_with fail
    refine (HG.out w1).mono ?_
    rintro e w2 ⟨rfl, rfl⟩
    go_wp2
    obtain ⟨W4, hW4⟩ : ∃ W4, W4 = set6 w1 w.heap.size (.string ByteArray.empty) (.string ByteArray.empty) (.int .u8 0) (.string ByteArray.empty) (.string ByteArray.empty) (.int .i64 0) := ⟨_, rfl⟩
    obtain ⟨hk, hp⟩ := fin_none Hn.out hx1 HB1.out W4 hW4
    have k0 := hk 0
    have k1 := hk 1
    have k2 := hk 2
    have k3 := hk 3
    have k4 := hk 4
    have k5 := hk 5
    unfold evZero at k0 k1 k2 k3 k4 k5
    change bodyPost _ _ _ _ _ (set6 w1 w.heap.size (.string ByteArray.empty) (.string ByteArray.empty) (.int .u8 0) (.string ByteArray.empty) (.string ByteArray.empty) (.int .i64 0))
    rw [← hW4]
    refine bodyPost_ret (v := .tuple #[.agg evZero, .int .i64 6]) (by simp [results, Tryz.results39, go_sem, evZero, k0, k1, k2, k3, k4, k5]) rfl hp

theorem cell_alloc {w : World} {p : Addr} {v : Value} (h : w.cell? p = some v) (o : Obj) : (w.alloc o).cell? p = some v :=
  (((Below.refl _ w).alloc (Nat.le_refl _) o).cell (World.block_lt_of_cell? w _ h)).trans h
set_option maxRecDepth 100000 in
set_option maxHeartbeats 4000000 in
theorem Parse_no (w : World) (s : ByteArray) (hv : VarsE w) (hs : s.size ≤ 140737488351232) {a b c d f g : List UInt8} (ha : all (bl s) = ([a, b, c, d, f, g], 0)) {n u : Nat} (hgn : getNum g = (n, u, 0)) (hul : g.length ≤ u) (hck : checkB ⟨a, b, kindW c, d, f, n⟩ = false) :
    Calls Tryz.prog 39 #[.string s] w (EvPost (bl s) w) := by
  have hu : u = g.length := by
    obtain ⟨_, _, h3, _⟩ := getNum_ok hgn
    omega
  have hmax : n ≤ 281474976710656 := (getNum_ok hgn).2.2.2.2
  have hn : EventS.parse (bl s) = none := by
    unfold EventS.parse partsB
    rw [ha]
    simp only [List.getD_cons_zero, List.getD_cons_succ, hgn, hu]
    have : ofParts [a, b, c, d, f, g] = ⟨a, b, kindW c, d, f, n⟩ := by simp [ofParts, hgn]
    rw [this, hck]
    simp
  obtain ⟨hfit, _⟩ := all_ok ha
  obtain ⟨_, hlen⟩ := fits_iff.1 hfit
  obtain ⟨A0, hA0⟩ : ∃ A0, A0 = bsOf a := ⟨_, rfl⟩
  obtain ⟨A1, hA1⟩ : ∃ A1, A1 = bsOf b := ⟨_, rfl⟩
  obtain ⟨A2, hA2⟩ : ∃ A2, A2 = bsOf c := ⟨_, rfl⟩
  obtain ⟨A3, hA3⟩ : ∃ A3, A3 = bsOf d := ⟨_, rfl⟩
  obtain ⟨A4, hA4⟩ : ∃ A4, A4 = bsOf f := ⟨_, rfl⟩
  obtain ⟨A5, hA5⟩ : ∃ A5, A5 = bsOf g := ⟨_, rfl⟩
  have z0 : A0.size ≤ 8192 := by rw [hA0, size_bsOf]; exact hlen a (by simp)
  have z1 : A1.size ≤ 8192 := by rw [hA1, size_bsOf]; exact hlen b (by simp)
  have z3 : A3.size ≤ 8192 := by rw [hA3, size_bsOf]; exact hlen d (by simp)
  have z4 : A4.size ≤ 8192 := by rw [hA4, size_bsOf]; exact hlen f (by simp)
  have z5 : A5.size ≤ 8192 := by rw [hA5, size_bsOf]; exact hlen g (by simp)
  have hA := fun w => All_ok w s (by unfold maxLen; omega)
  unfold AllPost at hA
  rw [ha] at hA
  have hg := hgn
  have hG := fun w => GetNum_at w A5 (by unfold maxLen; omega) (n := n) (u := u) (y := 0) (by rw [hA5, bl_bsOf]; exact hg)
  obtain ⟨W0, hW0⟩ : ∃ W0, W0 = w.alloc (.cells evZero 66) := ⟨_, rfl⟩
  have hB0 : Below w.heap.size w W0 := by rw [hW0]; exact (Below.refl _ w).alloc (Nat.le_refl _) _
  have hx0 : W0.heap[w.heap.size]? = some (.cells evZero 66 (0, 0)) := by rw [hW0]; exact heap_new _ _
  have hl0 := lt_row hx0
  have HB0 := Lib.hid hB0
  have HW0 := Lib.hid hW0
  have HV0 := Lib.hid (hv.below hB0)
  have hu' : u = A5.size := by rw [hA5, size_bsOf]; exact hu
  obtain ⟨kw, hkw⟩ : ∃ kw, kw = kindW c := ⟨_, rfl⟩
  have hK := fun w hv => EventK.kind_ok w A2 hv
  have hev : evOf A0 A1 kw A3 A4 n = ⟨a, b, kindW c, d, f, n⟩ := by unfold evOf; rw [hA0, hA1, hA3, hA4, hkw]; simp only [bl_bsOf]
  have hC := fun w hv => Check_ok w A0 A1 kw A3 A4 n hv (by omega) (by omega) (by omega) (by unfold maxLen; omega)
  rw [hev, hck] at hC
  unfold evV at hC
  rw [show kindW (bl A2) = kw by rw [hA2, bl_bsOf, hkw]] at hK
  have hwr : wrap64 (n : Int) = n := by unfold wrap64; omega
  have HA0 := Lib.hid hA0
  have HA1 := Lib.hid hA1
  have HA2 := Lib.hid hA2
  have HA3 := Lib.hid hA3
  have HA4 := Lib.hid hA4
  have HA5 := Lib.hid hA5
  clear hA0 hA1 hA2 hA3 hA4 hA5
  have HA := Lib.hid hA
  have HG := Lib.hid hG
  have HK := Lib.hid hK
  have HC := Lib.hid hC
  have Hn := Lib.hid hn
  subst hu'
  clear hA hB0 hW0 hn hv hs ha hG hg hlen hfit hC hK hgn hck hev hkw hu
  go_enter Tryz.func39, Tryz.ntmps39
  go_wp2_with fail
  rw [show (w.alloc (.cells #[.string ⟨#[]⟩, .string ⟨#[]⟩, .int .u8 0, .string ⟨#[]⟩, .string ⟨#[]⟩, .int .i64 0] 66)) = W0 from HW0.out.symm]
  refine (HA.out W0).mono ?_
  rintro e w1 ⟨v, rfl, hl, hb1⟩
  obtain ⟨B, cap, rfl, hBn, h0, h1, h2, h3, h4, h5⟩ := list6 hl
  rw [← HA0.out] at h0
  rw [← HA1.out] at h1
  rw [← HA2.out] at h2
  rw [← HA3.out] at h3
  rw [← HA4.out] at h4
  rw [← HA5.out] at h5
  have HB1 := Lib.hid (HB0.out.trans (hb1.mono HB0.out.size))
  have HV1 := Lib.hid (HV0.out.below hb1)
  have hx1 := (hb1.block _ hl0).trans hx0
  unfold evZero at hx1
  have hl1 := lt_row hx1
  obtain ⟨hc1, hf1⟩ := row_facts hx1
  clear hb1 hl
  go_wp2_with fail
  refine (HG.out w1).mono ?_
  rintro e w2 ⟨rfl, rfl⟩
  go_wp2_with fail
  have hBl := World.block_lt_of_cell? w1 _ h0
  have hS0 : w1.drew.cell? ⟨B, 0, none⟩ = some (.string A0) ∧ w1.drew.cell? ⟨B, 1, none⟩ = some (.string A1) ∧ w1.drew.cell? ⟨B, 2, none⟩ = some (.string A2) ∧ w1.drew.cell? ⟨B, 3, none⟩ = some (.string A3) ∧ w1.drew.cell? ⟨B, 4, none⟩ = some (.string A4) := ⟨h0, h1, h2, h3, h4⟩
  have hS1 : (w1.drew.alloc (.cells #[.string ByteArray.empty, .string ByteArray.empty, .int .u8 0, .string ByteArray.empty, .string ByteArray.empty, .int .i64 0] 66)).cell? ⟨B, 0, none⟩ = some (.string A0) ∧ (w1.drew.alloc (.cells #[.string ByteArray.empty, .string ByteArray.empty, .int .u8 0, .string ByteArray.empty, .string ByteArray.empty, .int .i64 0] 66)).cell? ⟨B, 1, none⟩ = some (.string A1) ∧ (w1.drew.alloc (.cells #[.string ByteArray.empty, .string ByteArray.empty, .int .u8 0, .string ByteArray.empty, .string ByteArray.empty, .int .i64 0] 66)).cell? ⟨B, 2, none⟩ = some (.string A2) ∧ (w1.drew.alloc (.cells #[.string ByteArray.empty, .string ByteArray.empty, .int .u8 0, .string ByteArray.empty, .string ByteArray.empty, .int .i64 0] 66)).cell? ⟨B, 3, none⟩ = some (.string A3) ∧ (w1.drew.alloc (.cells #[.string ByteArray.empty, .string ByteArray.empty, .int .u8 0, .string ByteArray.empty, .string ByteArray.empty, .int .i64 0] 66)).cell? ⟨B, 4, none⟩ = some (.string A4) := ⟨cell_alloc (w := w1.drew) h0 _, cell_alloc (w := w1.drew) h1 _, cell_alloc (w := w1.drew) h2 _, cell_alloc (w := w1.drew) h3 _, cell_alloc (w := w1.drew) h4 _⟩
  obtain ⟨W2, hW2⟩ : ∃ W2, W2 = w1.drew.alloc (.cells #[.string A0, .string A1, .int .u8 kw, .string A3, .string A4, .int .i64 n] 66) := ⟨_, rfl⟩
  have hS2 : W2.cell? ⟨B, 0, none⟩ = some (.string A0) ∧ W2.cell? ⟨B, 1, none⟩ = some (.string A1) ∧ W2.cell? ⟨B, 2, none⟩ = some (.string A2) ∧ W2.cell? ⟨B, 3, none⟩ = some (.string A3) ∧ W2.cell? ⟨B, 4, none⟩ = some (.string A4) := by
    rw [hW2]
    exact ⟨cell_alloc (w := w1.drew) h0 _, cell_alloc (w := w1.drew) h1 _, cell_alloc (w := w1.drew) h2 _, cell_alloc (w := w1.drew) h3 _, cell_alloc (w := w1.drew) h4 _⟩
  have hy2 : W2.heap[w1.heap.size]? = some (.cells #[.string A0, .string A1, .int .u8 kw, .string A3, .string A4, .int .i64 n] 66 (0, 0)) := by rw [hW2]; exact heap_new' _ rfl
  have hx2 : W2.heap[w.heap.size]? = some (.cells evZero 66 (0, 0)) := by rw [hW2]; exact heap_at (w := w1.drew) hx1 _
  unfold evZero at hx2
  have hl2 := lt_row hx2
  have hm2 := lt_row hy2
  have hb2 : Below w1.heap.size w1 W2 := by rw [hW2]; exact (Bl.drew (Below.refl _ w1)).alloc (Nat.le_refl _) _
  have HV2 := Lib.hid (HV1.out.below hb2)
  have HB2 := Lib.hid (HB1.out.trans (hb2.mono HB1.out.size))
  obtain ⟨hc2, hf2⟩ := row_facts hx2
  obtain ⟨hd2, hg2⟩ := row_facts hy2
  have Hst := Lib.hid hW2
  have hwr2 : IntKind.i64.wrap (n : Int) = n := IntWalk.i64_in _ (by omega)
  clear hb2 hc1 hf1 hW2
  refine wp_region_noPanic ?_
  refine wp_region_held (S := (fun W => W.cell? ⟨B, 0, none⟩ = some (.string A0) ∧ W.cell? ⟨B, 1, none⟩ = some (.string A1) ∧ W.cell? ⟨B, 2, none⟩ = some (.string A2) ∧ W.cell? ⟨B, 3, none⟩ = some (.string A3) ∧ W.cell? ⟨B, 4, none⟩ = some (.string A4))) (by kernel_rfl) ?_
  change wpAnyH _ _ _ _ _ _ _ _ (World.drew w1)
  refine wpAnyH_take (i := 0) (v := ?_) rfl (by kernel_rfl) (by kernel_rfl) (by kernel_rfl) (fun _ _ _ h => h) (Or.inl ⟨by rfl, ?_⟩) hS0 ?_
  rotate_left
  · intro w hSw
    obtain ⟨q0, q1, q2, q3, q4⟩ := hSw
    go_simp
    rfl
  simp only [Act.put, List.getElem_toArray, List.getElem_cons_zero, List.getElem_cons_succ, List.setIfInBounds_toArray, List.set_cons_zero, List.set_cons_succ]
  refine wpAnyH_take (i := 1) (v := ?_) rfl (by kernel_rfl) (by kernel_rfl) (by kernel_rfl) (fun _ _ _ h => h) (Or.inl ⟨by rfl, ?_⟩) hS0 ?_
  rotate_left
  · intro w hSw
    obtain ⟨q0, q1, q2, q3, q4⟩ := hSw
    go_simp
    rfl
  simp only [Act.put, List.getElem_toArray, List.getElem_cons_zero, List.getElem_cons_succ, List.setIfInBounds_toArray, List.set_cons_zero, List.set_cons_succ]
  refine wpAnyH_take (i := 2) (v := ?_) rfl (by kernel_rfl) (by kernel_rfl) (by kernel_rfl) (fun _ _ _ h => h) (Or.inl ⟨by rfl, ?_⟩) hS0 ?_
  rotate_left
  · intro w hSw
    obtain ⟨q0, q1, q2, q3, q4⟩ := hSw
    go_simp
    rfl
  simp only [Act.put, List.getElem_toArray, List.getElem_cons_zero, List.getElem_cons_succ, List.setIfInBounds_toArray, List.set_cons_zero, List.set_cons_succ]
  refine wpAnyH_take (i := 3) (v := ?_) rfl (by kernel_rfl) (by kernel_rfl) (by kernel_rfl) (fun _ _ _ h => h) (Or.inl ⟨by rfl, ?_⟩) hS0 ?_
  rotate_left
  · intro w hSw
    obtain ⟨q0, q1, q2, q3, q4⟩ := hSw
    go_simp
    rfl
  simp only [Act.put, List.getElem_toArray, List.getElem_cons_zero, List.getElem_cons_succ, List.setIfInBounds_toArray, List.set_cons_zero, List.set_cons_succ]
  refine wpAnyH_take (i := 4) (v := ?_) rfl (by kernel_rfl) (by kernel_rfl) (by kernel_rfl) (fun _ _ _ h => h) (Or.inl ⟨by rfl, ?_⟩) hS0 ?_
  rotate_left
  · intro w hSw
    obtain ⟨q0, q1, q2, q3, q4⟩ := hSw
    go_simp
    rfl
  simp only [Act.put, List.getElem_toArray, List.getElem_cons_zero, List.getElem_cons_succ, List.setIfInBounds_toArray, List.set_cons_zero, List.set_cons_succ]
  refine wpAnyH_take (i := 5) (v := ?_) rfl (by kernel_rfl) (by kernel_rfl) (by kernel_rfl) (fun _ _ _ h => h) (Or.inl ⟨by rfl, ?_⟩) hS0 ?_
  rotate_left
  · intro w hSw
    obtain ⟨q0, q1, q2, q3, q4⟩ := hSw
    go_simp
    rfl
  simp only [Act.put, List.getElem_toArray, List.getElem_cons_zero, List.getElem_cons_succ, List.setIfInBounds_toArray, List.set_cons_zero, List.set_cons_succ]
  refine wpAnyH_take (i := 6) (v := ?_) rfl (by kernel_rfl) (by kernel_rfl) (by kernel_rfl) (fun _ _ _ h => h) (Or.inl ⟨by rfl, ?_⟩) hS0 ?_
  rotate_left
  · intro w hSw
    obtain ⟨q0, q1, q2, q3, q4⟩ := hSw
    go_simp
    rfl
  simp only [Act.put, List.getElem_toArray, List.getElem_cons_zero, List.getElem_cons_succ, List.setIfInBounds_toArray, List.set_cons_zero, List.set_cons_succ]
  refine wpAnyH_take (i := 7) (v := ?_) rfl (by kernel_rfl) (by kernel_rfl) (by kernel_rfl) (fun _ _ _ h => h) (Or.inl ⟨by rfl, ?_⟩) hS0 ?_
  rotate_left
  · intro w hSw
    obtain ⟨q0, q1, q2, q3, q4⟩ := hSw
    go_simp
    rfl
  simp only [Act.put, List.getElem_toArray, List.getElem_cons_zero, List.getElem_cons_succ, List.setIfInBounds_toArray, List.set_cons_zero, List.set_cons_succ]
  refine wpAnyH_take (i := 8) (v := ?_) rfl (by kernel_rfl) (by kernel_rfl) (by kernel_rfl) (fun _ _ _ h => h) (Or.inl ⟨by rfl, ?_⟩) hS0 ?_
  rotate_left
  · intro w hSw
    obtain ⟨q0, q1, q2, q3, q4⟩ := hSw
    go_simp
    rfl
  simp only [Act.put, List.getElem_toArray, List.getElem_cons_zero, List.getElem_cons_succ, List.setIfInBounds_toArray, List.set_cons_zero, List.set_cons_succ]
  refine wpAnyH_take (i := 10) (v := ?_) rfl (by kernel_rfl) (by kernel_rfl) (by kernel_rfl) (fun _ _ _ h => h) (Or.inl ⟨by rfl, ?_⟩) hS0 ?_
  rotate_left
  · intro w hSw
    obtain ⟨q0, q1, q2, q3, q4⟩ := hSw
    go_simp
    rfl
  simp only [Act.put, List.getElem_toArray, List.getElem_cons_zero, List.getElem_cons_succ, List.setIfInBounds_toArray, List.set_cons_zero, List.set_cons_succ]
  refine wpAnyH_take (i := 11) (v := ?_) rfl (by kernel_rfl) (by kernel_rfl) (by kernel_rfl) (fun _ _ _ h => h) (Or.inl ⟨by rfl, ?_⟩) hS0 ?_
  rotate_left
  · intro w hSw
    obtain ⟨q0, q1, q2, q3, q4⟩ := hSw
    go_simp
    rfl
  simp only [Act.put, List.getElem_toArray, List.getElem_cons_zero, List.getElem_cons_succ, List.setIfInBounds_toArray, List.set_cons_zero, List.set_cons_succ]
  refine wpAnyH_take (i := 12) (v := ?_) rfl (by kernel_rfl) (by kernel_rfl) (by kernel_rfl) (fun _ _ _ h => h) (Or.inl ⟨by rfl, ?_⟩) hS0 ?_
  rotate_left
  · intro w hSw
    obtain ⟨q0, q1, q2, q3, q4⟩ := hSw
    go_simp
    rfl
  simp only [Act.put, List.getElem_toArray, List.getElem_cons_zero, List.getElem_cons_succ, List.setIfInBounds_toArray, List.set_cons_zero, List.set_cons_succ]
  refine wpAnyH_take (i := 13) (v := ?_) rfl (by kernel_rfl) (by kernel_rfl) (by kernel_rfl) (fun _ _ _ h => h) (Or.inl ⟨by rfl, ?_⟩) hS0 ?_
  rotate_left
  · intro w hSw
    obtain ⟨q0, q1, q2, q3, q4⟩ := hSw
    go_simp
    rfl
  simp only [Act.put, List.getElem_toArray, List.getElem_cons_zero, List.getElem_cons_succ, List.setIfInBounds_toArray, List.set_cons_zero, List.set_cons_succ]
  refine wpAnyH_take (i := 14) (v := ?_) rfl (by kernel_rfl) (by kernel_rfl) (by kernel_rfl) (fun _ _ _ h => h) (Or.inl ⟨by rfl, ?_⟩) hS0 ?_
  rotate_left
  · intro w hSw
    obtain ⟨q0, q1, q2, q3, q4⟩ := hSw
    go_simp
    rfl
  simp only [Act.put, List.getElem_toArray, List.getElem_cons_zero, List.getElem_cons_succ, List.setIfInBounds_toArray, List.set_cons_zero, List.set_cons_succ]
  refine wpAnyH_take (i := 15) (v := ?_) rfl (by kernel_rfl) (by kernel_rfl) (by kernel_rfl) (fun _ _ _ h => h) (Or.inl ⟨by rfl, ?_⟩) hS0 ?_
  rotate_left
  · intro w hSw
    obtain ⟨q0, q1, q2, q3, q4⟩ := hSw
    go_simp
    rfl
  simp only [Act.put, List.getElem_toArray, List.getElem_cons_zero, List.getElem_cons_succ, List.setIfInBounds_toArray, List.set_cons_zero, List.set_cons_succ]
  refine wpAnyH_take (i := 16) (v := ?_) rfl (by kernel_rfl) (by kernel_rfl) (by kernel_rfl) (fun _ _ _ h => h) (Or.inl ⟨by rfl, ?_⟩) hS0 ?_
  rotate_left
  · intro w hSw
    obtain ⟨q0, q1, q2, q3, q4⟩ := hSw
    go_simp
    rfl
  simp only [Act.put, List.getElem_toArray, List.getElem_cons_zero, List.getElem_cons_succ, List.setIfInBounds_toArray, List.set_cons_zero, List.set_cons_succ]
  refine wpAnyH_take (i := 17) (v := (.int .i64 n)) rfl (by kernel_rfl) (by kernel_rfl) (by kernel_rfl) (fun _ _ _ h => h) (Or.inl ⟨by rfl, ?_⟩) hS0 ?_
  · intro w hSw
    obtain ⟨q0, q1, q2, q3, q4⟩ := hSw
    go_simp
  simp only [Act.put, List.getElem_toArray, List.getElem_cons_zero, List.getElem_cons_succ, List.setIfInBounds_toArray, List.set_cons_zero, List.set_cons_succ]
  refine wpAnyH_all (rs := [9, 19]) (by kernel_rfl) (by simp) ?_
  intro i hi
  simp only [List.mem_cons, List.not_mem_nil, or_false] at hi
  rcases hi with rfl | rfl
  · refine wpOp_call rfl (by rfl) (by go_simp; first | rfl | exact ⟨⟨rfl, rfl⟩, rfl⟩ | exact ⟨rfl, rfl⟩) ?_
    refine (HK.out w1.drew ?_).mono ?_
    · exact HV1.out.below (Bl.drew (Below.refl _ w1))
    rintro e w2 ⟨rfl, rfl⟩
    refine ⟨_, rfl, ?_, ?_⟩
    · exact hS0
    simp only [Act.put, List.getElem_toArray, List.getElem_cons_zero, List.getElem_cons_succ, List.setIfInBounds_toArray, List.set_cons_zero, List.set_cons_succ]
    refine wpAnyH_take (i := 18) (v := ?_) rfl (by kernel_rfl) (by kernel_rfl) (by kernel_rfl) (fun _ _ _ h => h) (Or.inl ⟨by rfl, ?_⟩) hS0 ?_
    rotate_left
    · intro w hSw
      obtain ⟨q0, q1, q2, q3, q4⟩ := hSw
      go_simp
      rfl
    simp only [Act.put, List.getElem_toArray, List.getElem_cons_zero, List.getElem_cons_succ, List.setIfInBounds_toArray, List.set_cons_zero, List.set_cons_succ]
    refine wpAnyH_all (rs := [19]) (by kernel_rfl) (by simp) ?_
    intro i hi
    simp only [List.mem_cons, List.not_mem_nil, or_false] at hi
    subst hi
    refine wpOp_run rfl (by rfl) (w' := (w1.drew.alloc (.cells #[.string ByteArray.empty, .string ByteArray.empty, .int .u8 0, .string ByteArray.empty, .string ByteArray.empty, .int .i64 0] 66))) (v := .pointer (some ⟨w1.heap.size, 0, none⟩)) (by go_simp; rfl) ⟨?_, ?_⟩
    · exact hS1
    simp only [Act.put, List.getElem_toArray, List.getElem_cons_zero, List.getElem_cons_succ, List.setIfInBounds_toArray, List.set_cons_zero, List.set_cons_succ]
    refine wpAnyH_all (rs := [20]) (by kernel_rfl) (by simp) ?_
    intro i hi
    simp only [List.mem_cons, List.not_mem_nil, or_false] at hi
    subst hi
    refine wpOp_skip rfl (by rfl) (w' := w1.drew.alloc (.cells #[.string A0, .string A1, .int .u8 kw, .string A3, .string A4, .int .i64 n] 66)) (by go_simp) ⟨?_, ?_⟩
    · rw [← Hst.out]
      exact hS2
    simp only [Act.put, List.getElem_toArray, List.getElem_cons_zero, List.getElem_cons_succ, List.setIfInBounds_toArray, List.set_cons_zero, List.set_cons_succ]
    refine wpAnyH_done (by kernel_rfl) (NoPanic.normal ?_) _
    rw [← Hst.out]
    go_wp2_with fail
    refine (HC.out W2 HV2.out.i).mono ?_
    rintro e w4 ⟨rfl, hb4⟩
    have hx4 := (hb4.block w.heap.size hl2).trans hx2
    have hy4 := (hb4.block w1.heap.size hm2).trans hy2
    have HB4 := Lib.hid (HB2.out.trans (hb4.mono HB2.out.size))
    have hl4 := lt_row hx4
    have hm4 := lt_row hy4
    obtain ⟨hc4, hf4⟩ := row_facts hx4
    obtain ⟨hd4, hg4⟩ := row_facts hy4
    clear hb4
    unfold whyOf
    go_wp2
    obtain ⟨W4, hW4⟩ : ∃ W4, W4 = set6 w4 w.heap.size (.string ByteArray.empty) (.string ByteArray.empty) (.int .u8 0) (.string ByteArray.empty) (.string ByteArray.empty) (.int .i64 0) := ⟨_, rfl⟩
    obtain ⟨hk, hp⟩ := fin_none Hn.out hx4 HB4.out W4 hW4
    have k0 := hk 0
    have k1 := hk 1
    have k2 := hk 2
    have k3 := hk 3
    have k4 := hk 4
    have k5 := hk 5
    unfold evZero at k0 k1 k2 k3 k4 k5
    change bodyPost _ _ _ _ _ (set6 w4 w.heap.size (.string ByteArray.empty) (.string ByteArray.empty) (.int .u8 0) (.string ByteArray.empty) (.string ByteArray.empty) (.int .i64 0))
    rw [← hW4]
    refine bodyPost_ret (v := .tuple #[.agg evZero, .int .i64 6]) (by simp [results, Tryz.results39, go_sem, evZero, k0, k1, k2, k3, k4, k5]) rfl hp
  · refine wpOp_run rfl (by rfl) (w' := (w1.drew.alloc (.cells #[.string ByteArray.empty, .string ByteArray.empty, .int .u8 0, .string ByteArray.empty, .string ByteArray.empty, .int .i64 0] 66))) (v := .pointer (some ⟨w1.heap.size, 0, none⟩)) (by go_simp; rfl) ⟨?_, ?_⟩
    · exact hS1
    simp only [Act.put, List.getElem_toArray, List.getElem_cons_zero, List.getElem_cons_succ, List.setIfInBounds_toArray, List.set_cons_zero, List.set_cons_succ]
    refine wpAnyH_all (rs := [9]) (by kernel_rfl) (by simp) ?_
    intro i hi
    simp only [List.mem_cons, List.not_mem_nil, or_false] at hi
    subst hi
    refine wpOp_call rfl (by rfl) (by go_simp; first | rfl | exact ⟨⟨rfl, rfl⟩, rfl⟩ | exact ⟨rfl, rfl⟩) ?_
    refine (HK.out (w1.drew.alloc (.cells #[.string ByteArray.empty, .string ByteArray.empty, .int .u8 0, .string ByteArray.empty, .string ByteArray.empty, .int .i64 0] 66)) ?_).mono ?_
    · exact (HV1.out.below (Bl.drew (Below.refl _ w1))).below ((Below.refl _ w1.drew).alloc (Nat.le_refl _) _)
    rintro e w2 ⟨rfl, rfl⟩
    refine ⟨_, rfl, ?_, ?_⟩
    · exact hS1
    simp only [Act.put, List.getElem_toArray, List.getElem_cons_zero, List.getElem_cons_succ, List.setIfInBounds_toArray, List.set_cons_zero, List.set_cons_succ]
    refine wpAnyH_take (i := 18) (v := ?_) rfl (by kernel_rfl) (by kernel_rfl) (by kernel_rfl) (fun _ _ _ h => h) (Or.inl ⟨by rfl, ?_⟩) hS1 ?_
    rotate_left
    · intro w hSw
      obtain ⟨q0, q1, q2, q3, q4⟩ := hSw
      go_simp
      rfl
    simp only [Act.put, List.getElem_toArray, List.getElem_cons_zero, List.getElem_cons_succ, List.setIfInBounds_toArray, List.set_cons_zero, List.set_cons_succ]
    refine wpAnyH_all (rs := [20]) (by kernel_rfl) (by simp) ?_
    intro i hi
    simp only [List.mem_cons, List.not_mem_nil, or_false] at hi
    subst hi
    refine wpOp_skip rfl (by rfl) (w' := w1.drew.alloc (.cells #[.string A0, .string A1, .int .u8 kw, .string A3, .string A4, .int .i64 n] 66)) (by go_simp) ⟨?_, ?_⟩
    · rw [← Hst.out]
      exact hS2
    simp only [Act.put, List.getElem_toArray, List.getElem_cons_zero, List.getElem_cons_succ, List.setIfInBounds_toArray, List.set_cons_zero, List.set_cons_succ]
    refine wpAnyH_done (by kernel_rfl) (NoPanic.normal ?_) _
    rw [← Hst.out]
    go_wp2_with fail
    refine (HC.out W2 HV2.out.i).mono ?_
    rintro e w4 ⟨rfl, hb4⟩
    have hx4 := (hb4.block w.heap.size hl2).trans hx2
    have hy4 := (hb4.block w1.heap.size hm2).trans hy2
    have HB4 := Lib.hid (HB2.out.trans (hb4.mono HB2.out.size))
    have hl4 := lt_row hx4
    have hm4 := lt_row hy4
    obtain ⟨hc4, hf4⟩ := row_facts hx4
    obtain ⟨hd4, hg4⟩ := row_facts hy4
    clear hb4
    unfold whyOf
    go_wp2
    obtain ⟨W4, hW4⟩ : ∃ W4, W4 = set6 w4 w.heap.size (.string ByteArray.empty) (.string ByteArray.empty) (.int .u8 0) (.string ByteArray.empty) (.string ByteArray.empty) (.int .i64 0) := ⟨_, rfl⟩
    obtain ⟨hk, hp⟩ := fin_none Hn.out hx4 HB4.out W4 hW4
    have k0 := hk 0
    have k1 := hk 1
    have k2 := hk 2
    have k3 := hk 3
    have k4 := hk 4
    have k5 := hk 5
    unfold evZero at k0 k1 k2 k3 k4 k5
    change bodyPost _ _ _ _ _ (set6 w4 w.heap.size (.string ByteArray.empty) (.string ByteArray.empty) (.int .u8 0) (.string ByteArray.empty) (.string ByteArray.empty) (.int .i64 0))
    rw [← hW4]
    refine bodyPost_ret (v := .tuple #[.agg evZero, .int .i64 6]) (by simp [results, Tryz.results39, go_sem, evZero, k0, k1, k2, k3, k4, k5]) rfl hp

set_option maxRecDepth 100000 in
set_option maxHeartbeats 4000000 in
theorem Parse_yes (w : World) (s : ByteArray) (hv : VarsE w) (hs : s.size ≤ 140737488351232) {a b c d f g : List UInt8} (ha : all (bl s) = ([a, b, c, d, f, g], 0)) {n u : Nat} (hgn : getNum g = (n, u, 0)) (hul : g.length ≤ u) (hck : checkB ⟨a, b, kindW c, d, f, n⟩ = true) :
    Calls Tryz.prog 39 #[.string s] w (EvPost (bl s) w) := by
  have hu : u = g.length := by
    obtain ⟨_, _, h3, _⟩ := getNum_ok hgn
    omega
  have hmax : n ≤ 281474976710656 := (getNum_ok hgn).2.2.2.2
  have hn : EventS.parse (bl s) = some ⟨a, b, kindW c, d, f, n⟩ := by
    unfold EventS.parse partsB
    rw [ha]
    simp only [List.getD_cons_zero, List.getD_cons_succ, hgn, hu]
    have : ofParts [a, b, c, d, f, g] = ⟨a, b, kindW c, d, f, n⟩ := by simp [ofParts, hgn]
    rw [this, hck]
    simp
  obtain ⟨hfit, _⟩ := all_ok ha
  obtain ⟨_, hlen⟩ := fits_iff.1 hfit
  obtain ⟨A0, hA0⟩ : ∃ A0, A0 = bsOf a := ⟨_, rfl⟩
  obtain ⟨A1, hA1⟩ : ∃ A1, A1 = bsOf b := ⟨_, rfl⟩
  obtain ⟨A2, hA2⟩ : ∃ A2, A2 = bsOf c := ⟨_, rfl⟩
  obtain ⟨A3, hA3⟩ : ∃ A3, A3 = bsOf d := ⟨_, rfl⟩
  obtain ⟨A4, hA4⟩ : ∃ A4, A4 = bsOf f := ⟨_, rfl⟩
  obtain ⟨A5, hA5⟩ : ∃ A5, A5 = bsOf g := ⟨_, rfl⟩
  have z0 : A0.size ≤ 8192 := by rw [hA0, size_bsOf]; exact hlen a (by simp)
  have z1 : A1.size ≤ 8192 := by rw [hA1, size_bsOf]; exact hlen b (by simp)
  have z3 : A3.size ≤ 8192 := by rw [hA3, size_bsOf]; exact hlen d (by simp)
  have z4 : A4.size ≤ 8192 := by rw [hA4, size_bsOf]; exact hlen f (by simp)
  have z5 : A5.size ≤ 8192 := by rw [hA5, size_bsOf]; exact hlen g (by simp)
  have hA := fun w => All_ok w s (by unfold maxLen; omega)
  unfold AllPost at hA
  rw [ha] at hA
  have hg := hgn
  have hG := fun w => GetNum_at w A5 (by unfold maxLen; omega) (n := n) (u := u) (y := 0) (by rw [hA5, bl_bsOf]; exact hg)
  obtain ⟨W0, hW0⟩ : ∃ W0, W0 = w.alloc (.cells evZero 66) := ⟨_, rfl⟩
  have hB0 : Below w.heap.size w W0 := by rw [hW0]; exact (Below.refl _ w).alloc (Nat.le_refl _) _
  have hx0 : W0.heap[w.heap.size]? = some (.cells evZero 66 (0, 0)) := by rw [hW0]; exact heap_new _ _
  have hl0 := lt_row hx0
  have HB0 := Lib.hid hB0
  have HW0 := Lib.hid hW0
  have HV0 := Lib.hid (hv.below hB0)
  have hu' : u = A5.size := by rw [hA5, size_bsOf]; exact hu
  obtain ⟨kw, hkw⟩ : ∃ kw, kw = kindW c := ⟨_, rfl⟩
  have hK := fun w hv => EventK.kind_ok w A2 hv
  have hev : evOf A0 A1 kw A3 A4 n = ⟨a, b, kindW c, d, f, n⟩ := by unfold evOf; rw [hA0, hA1, hA3, hA4, hkw]; simp only [bl_bsOf]
  have hC := fun w hv => Check_ok w A0 A1 kw A3 A4 n hv (by omega) (by omega) (by omega) (by unfold maxLen; omega)
  rw [hev, hck] at hC
  unfold evV at hC
  rw [show kindW (bl A2) = kw by rw [hA2, bl_bsOf, hkw]] at hK
  have hwr : wrap64 (n : Int) = n := by unfold wrap64; omega
  have hres : Ending.returned (.tuple #[.agg #[.string A0, .string A1, .int .u8 kw, .string A3, .string A4, .int .i64 n], .int .i64 0]) = Ending.returned (readEV (some ⟨a, b, kindW c, d, f, n⟩)) := by
    unfold readEV evV
    simp only
    rw [← hA0, ← hA1, ← hA3, ← hA4, ← hkw]
  have Hres := Lib.hid hres
  clear hres
  have HA0 := Lib.hid hA0
  have HA1 := Lib.hid hA1
  have HA2 := Lib.hid hA2
  have HA3 := Lib.hid hA3
  have HA4 := Lib.hid hA4
  have HA5 := Lib.hid hA5
  clear hA0 hA1 hA2 hA3 hA4 hA5
  have HA := Lib.hid hA
  have HG := Lib.hid hG
  have HK := Lib.hid hK
  have HC := Lib.hid hC
  have Hn := Lib.hid hn
  subst hu'
  clear hA hB0 hW0 hn hv hs ha hG hg hlen hfit hC hK hgn hck hev hkw hu
  go_enter Tryz.func39, Tryz.ntmps39
  go_wp2_with fail
  rw [show (w.alloc (.cells #[.string ⟨#[]⟩, .string ⟨#[]⟩, .int .u8 0, .string ⟨#[]⟩, .string ⟨#[]⟩, .int .i64 0] 66)) = W0 from HW0.out.symm]
  refine (HA.out W0).mono ?_
  rintro e w1 ⟨v, rfl, hl, hb1⟩
  obtain ⟨B, cap, rfl, hBn, h0, h1, h2, h3, h4, h5⟩ := list6 hl
  rw [← HA0.out] at h0
  rw [← HA1.out] at h1
  rw [← HA2.out] at h2
  rw [← HA3.out] at h3
  rw [← HA4.out] at h4
  rw [← HA5.out] at h5
  have HB1 := Lib.hid (HB0.out.trans (hb1.mono HB0.out.size))
  have HV1 := Lib.hid (HV0.out.below hb1)
  have hx1 := (hb1.block _ hl0).trans hx0
  unfold evZero at hx1
  have hl1 := lt_row hx1
  obtain ⟨hc1, hf1⟩ := row_facts hx1
  clear hb1 hl
  go_wp2_with fail
  refine (HG.out w1).mono ?_
  rintro e w2 ⟨rfl, rfl⟩
  go_wp2_with fail
  have hBl := World.block_lt_of_cell? w1 _ h0
  have hS0 : w1.drew.cell? ⟨B, 0, none⟩ = some (.string A0) ∧ w1.drew.cell? ⟨B, 1, none⟩ = some (.string A1) ∧ w1.drew.cell? ⟨B, 2, none⟩ = some (.string A2) ∧ w1.drew.cell? ⟨B, 3, none⟩ = some (.string A3) ∧ w1.drew.cell? ⟨B, 4, none⟩ = some (.string A4) := ⟨h0, h1, h2, h3, h4⟩
  have hS1 : (w1.drew.alloc (.cells #[.string ByteArray.empty, .string ByteArray.empty, .int .u8 0, .string ByteArray.empty, .string ByteArray.empty, .int .i64 0] 66)).cell? ⟨B, 0, none⟩ = some (.string A0) ∧ (w1.drew.alloc (.cells #[.string ByteArray.empty, .string ByteArray.empty, .int .u8 0, .string ByteArray.empty, .string ByteArray.empty, .int .i64 0] 66)).cell? ⟨B, 1, none⟩ = some (.string A1) ∧ (w1.drew.alloc (.cells #[.string ByteArray.empty, .string ByteArray.empty, .int .u8 0, .string ByteArray.empty, .string ByteArray.empty, .int .i64 0] 66)).cell? ⟨B, 2, none⟩ = some (.string A2) ∧ (w1.drew.alloc (.cells #[.string ByteArray.empty, .string ByteArray.empty, .int .u8 0, .string ByteArray.empty, .string ByteArray.empty, .int .i64 0] 66)).cell? ⟨B, 3, none⟩ = some (.string A3) ∧ (w1.drew.alloc (.cells #[.string ByteArray.empty, .string ByteArray.empty, .int .u8 0, .string ByteArray.empty, .string ByteArray.empty, .int .i64 0] 66)).cell? ⟨B, 4, none⟩ = some (.string A4) := ⟨cell_alloc (w := w1.drew) h0 _, cell_alloc (w := w1.drew) h1 _, cell_alloc (w := w1.drew) h2 _, cell_alloc (w := w1.drew) h3 _, cell_alloc (w := w1.drew) h4 _⟩
  obtain ⟨W2, hW2⟩ : ∃ W2, W2 = w1.drew.alloc (.cells #[.string A0, .string A1, .int .u8 kw, .string A3, .string A4, .int .i64 n] 66) := ⟨_, rfl⟩
  have hS2 : W2.cell? ⟨B, 0, none⟩ = some (.string A0) ∧ W2.cell? ⟨B, 1, none⟩ = some (.string A1) ∧ W2.cell? ⟨B, 2, none⟩ = some (.string A2) ∧ W2.cell? ⟨B, 3, none⟩ = some (.string A3) ∧ W2.cell? ⟨B, 4, none⟩ = some (.string A4) := by
    rw [hW2]
    exact ⟨cell_alloc (w := w1.drew) h0 _, cell_alloc (w := w1.drew) h1 _, cell_alloc (w := w1.drew) h2 _, cell_alloc (w := w1.drew) h3 _, cell_alloc (w := w1.drew) h4 _⟩
  have hy2 : W2.heap[w1.heap.size]? = some (.cells #[.string A0, .string A1, .int .u8 kw, .string A3, .string A4, .int .i64 n] 66 (0, 0)) := by rw [hW2]; exact heap_new' _ rfl
  have hx2 : W2.heap[w.heap.size]? = some (.cells evZero 66 (0, 0)) := by rw [hW2]; exact heap_at (w := w1.drew) hx1 _
  unfold evZero at hx2
  have hl2 := lt_row hx2
  have hm2 := lt_row hy2
  have hb2 : Below w1.heap.size w1 W2 := by rw [hW2]; exact (Bl.drew (Below.refl _ w1)).alloc (Nat.le_refl _) _
  have HV2 := Lib.hid (HV1.out.below hb2)
  have HB2 := Lib.hid (HB1.out.trans (hb2.mono HB1.out.size))
  obtain ⟨hc2, hf2⟩ := row_facts hx2
  obtain ⟨hd2, hg2⟩ := row_facts hy2
  have Hst := Lib.hid hW2
  have hwr2 : IntKind.i64.wrap (n : Int) = n := IntWalk.i64_in _ (by omega)
  clear hb2 hc1 hf1 hW2
  refine wp_region_noPanic ?_
  refine wp_region_held (S := (fun W => W.cell? ⟨B, 0, none⟩ = some (.string A0) ∧ W.cell? ⟨B, 1, none⟩ = some (.string A1) ∧ W.cell? ⟨B, 2, none⟩ = some (.string A2) ∧ W.cell? ⟨B, 3, none⟩ = some (.string A3) ∧ W.cell? ⟨B, 4, none⟩ = some (.string A4))) (by kernel_rfl) ?_
  change wpAnyH _ _ _ _ _ _ _ _ (World.drew w1)
  refine wpAnyH_take (i := 0) (v := ?_) rfl (by kernel_rfl) (by kernel_rfl) (by kernel_rfl) (fun _ _ _ h => h) (Or.inl ⟨by rfl, ?_⟩) hS0 ?_
  rotate_left
  · intro w hSw
    obtain ⟨q0, q1, q2, q3, q4⟩ := hSw
    go_simp
    rfl
  simp only [Act.put, List.getElem_toArray, List.getElem_cons_zero, List.getElem_cons_succ, List.setIfInBounds_toArray, List.set_cons_zero, List.set_cons_succ]
  refine wpAnyH_take (i := 1) (v := ?_) rfl (by kernel_rfl) (by kernel_rfl) (by kernel_rfl) (fun _ _ _ h => h) (Or.inl ⟨by rfl, ?_⟩) hS0 ?_
  rotate_left
  · intro w hSw
    obtain ⟨q0, q1, q2, q3, q4⟩ := hSw
    go_simp
    rfl
  simp only [Act.put, List.getElem_toArray, List.getElem_cons_zero, List.getElem_cons_succ, List.setIfInBounds_toArray, List.set_cons_zero, List.set_cons_succ]
  refine wpAnyH_take (i := 2) (v := ?_) rfl (by kernel_rfl) (by kernel_rfl) (by kernel_rfl) (fun _ _ _ h => h) (Or.inl ⟨by rfl, ?_⟩) hS0 ?_
  rotate_left
  · intro w hSw
    obtain ⟨q0, q1, q2, q3, q4⟩ := hSw
    go_simp
    rfl
  simp only [Act.put, List.getElem_toArray, List.getElem_cons_zero, List.getElem_cons_succ, List.setIfInBounds_toArray, List.set_cons_zero, List.set_cons_succ]
  refine wpAnyH_take (i := 3) (v := ?_) rfl (by kernel_rfl) (by kernel_rfl) (by kernel_rfl) (fun _ _ _ h => h) (Or.inl ⟨by rfl, ?_⟩) hS0 ?_
  rotate_left
  · intro w hSw
    obtain ⟨q0, q1, q2, q3, q4⟩ := hSw
    go_simp
    rfl
  simp only [Act.put, List.getElem_toArray, List.getElem_cons_zero, List.getElem_cons_succ, List.setIfInBounds_toArray, List.set_cons_zero, List.set_cons_succ]
  refine wpAnyH_take (i := 4) (v := ?_) rfl (by kernel_rfl) (by kernel_rfl) (by kernel_rfl) (fun _ _ _ h => h) (Or.inl ⟨by rfl, ?_⟩) hS0 ?_
  rotate_left
  · intro w hSw
    obtain ⟨q0, q1, q2, q3, q4⟩ := hSw
    go_simp
    rfl
  simp only [Act.put, List.getElem_toArray, List.getElem_cons_zero, List.getElem_cons_succ, List.setIfInBounds_toArray, List.set_cons_zero, List.set_cons_succ]
  refine wpAnyH_take (i := 5) (v := ?_) rfl (by kernel_rfl) (by kernel_rfl) (by kernel_rfl) (fun _ _ _ h => h) (Or.inl ⟨by rfl, ?_⟩) hS0 ?_
  rotate_left
  · intro w hSw
    obtain ⟨q0, q1, q2, q3, q4⟩ := hSw
    go_simp
    rfl
  simp only [Act.put, List.getElem_toArray, List.getElem_cons_zero, List.getElem_cons_succ, List.setIfInBounds_toArray, List.set_cons_zero, List.set_cons_succ]
  refine wpAnyH_take (i := 6) (v := ?_) rfl (by kernel_rfl) (by kernel_rfl) (by kernel_rfl) (fun _ _ _ h => h) (Or.inl ⟨by rfl, ?_⟩) hS0 ?_
  rotate_left
  · intro w hSw
    obtain ⟨q0, q1, q2, q3, q4⟩ := hSw
    go_simp
    rfl
  simp only [Act.put, List.getElem_toArray, List.getElem_cons_zero, List.getElem_cons_succ, List.setIfInBounds_toArray, List.set_cons_zero, List.set_cons_succ]
  refine wpAnyH_take (i := 7) (v := ?_) rfl (by kernel_rfl) (by kernel_rfl) (by kernel_rfl) (fun _ _ _ h => h) (Or.inl ⟨by rfl, ?_⟩) hS0 ?_
  rotate_left
  · intro w hSw
    obtain ⟨q0, q1, q2, q3, q4⟩ := hSw
    go_simp
    rfl
  simp only [Act.put, List.getElem_toArray, List.getElem_cons_zero, List.getElem_cons_succ, List.setIfInBounds_toArray, List.set_cons_zero, List.set_cons_succ]
  refine wpAnyH_take (i := 8) (v := ?_) rfl (by kernel_rfl) (by kernel_rfl) (by kernel_rfl) (fun _ _ _ h => h) (Or.inl ⟨by rfl, ?_⟩) hS0 ?_
  rotate_left
  · intro w hSw
    obtain ⟨q0, q1, q2, q3, q4⟩ := hSw
    go_simp
    rfl
  simp only [Act.put, List.getElem_toArray, List.getElem_cons_zero, List.getElem_cons_succ, List.setIfInBounds_toArray, List.set_cons_zero, List.set_cons_succ]
  refine wpAnyH_take (i := 10) (v := ?_) rfl (by kernel_rfl) (by kernel_rfl) (by kernel_rfl) (fun _ _ _ h => h) (Or.inl ⟨by rfl, ?_⟩) hS0 ?_
  rotate_left
  · intro w hSw
    obtain ⟨q0, q1, q2, q3, q4⟩ := hSw
    go_simp
    rfl
  simp only [Act.put, List.getElem_toArray, List.getElem_cons_zero, List.getElem_cons_succ, List.setIfInBounds_toArray, List.set_cons_zero, List.set_cons_succ]
  refine wpAnyH_take (i := 11) (v := ?_) rfl (by kernel_rfl) (by kernel_rfl) (by kernel_rfl) (fun _ _ _ h => h) (Or.inl ⟨by rfl, ?_⟩) hS0 ?_
  rotate_left
  · intro w hSw
    obtain ⟨q0, q1, q2, q3, q4⟩ := hSw
    go_simp
    rfl
  simp only [Act.put, List.getElem_toArray, List.getElem_cons_zero, List.getElem_cons_succ, List.setIfInBounds_toArray, List.set_cons_zero, List.set_cons_succ]
  refine wpAnyH_take (i := 12) (v := ?_) rfl (by kernel_rfl) (by kernel_rfl) (by kernel_rfl) (fun _ _ _ h => h) (Or.inl ⟨by rfl, ?_⟩) hS0 ?_
  rotate_left
  · intro w hSw
    obtain ⟨q0, q1, q2, q3, q4⟩ := hSw
    go_simp
    rfl
  simp only [Act.put, List.getElem_toArray, List.getElem_cons_zero, List.getElem_cons_succ, List.setIfInBounds_toArray, List.set_cons_zero, List.set_cons_succ]
  refine wpAnyH_take (i := 13) (v := ?_) rfl (by kernel_rfl) (by kernel_rfl) (by kernel_rfl) (fun _ _ _ h => h) (Or.inl ⟨by rfl, ?_⟩) hS0 ?_
  rotate_left
  · intro w hSw
    obtain ⟨q0, q1, q2, q3, q4⟩ := hSw
    go_simp
    rfl
  simp only [Act.put, List.getElem_toArray, List.getElem_cons_zero, List.getElem_cons_succ, List.setIfInBounds_toArray, List.set_cons_zero, List.set_cons_succ]
  refine wpAnyH_take (i := 14) (v := ?_) rfl (by kernel_rfl) (by kernel_rfl) (by kernel_rfl) (fun _ _ _ h => h) (Or.inl ⟨by rfl, ?_⟩) hS0 ?_
  rotate_left
  · intro w hSw
    obtain ⟨q0, q1, q2, q3, q4⟩ := hSw
    go_simp
    rfl
  simp only [Act.put, List.getElem_toArray, List.getElem_cons_zero, List.getElem_cons_succ, List.setIfInBounds_toArray, List.set_cons_zero, List.set_cons_succ]
  refine wpAnyH_take (i := 15) (v := ?_) rfl (by kernel_rfl) (by kernel_rfl) (by kernel_rfl) (fun _ _ _ h => h) (Or.inl ⟨by rfl, ?_⟩) hS0 ?_
  rotate_left
  · intro w hSw
    obtain ⟨q0, q1, q2, q3, q4⟩ := hSw
    go_simp
    rfl
  simp only [Act.put, List.getElem_toArray, List.getElem_cons_zero, List.getElem_cons_succ, List.setIfInBounds_toArray, List.set_cons_zero, List.set_cons_succ]
  refine wpAnyH_take (i := 16) (v := ?_) rfl (by kernel_rfl) (by kernel_rfl) (by kernel_rfl) (fun _ _ _ h => h) (Or.inl ⟨by rfl, ?_⟩) hS0 ?_
  rotate_left
  · intro w hSw
    obtain ⟨q0, q1, q2, q3, q4⟩ := hSw
    go_simp
    rfl
  simp only [Act.put, List.getElem_toArray, List.getElem_cons_zero, List.getElem_cons_succ, List.setIfInBounds_toArray, List.set_cons_zero, List.set_cons_succ]
  refine wpAnyH_take (i := 17) (v := (.int .i64 n)) rfl (by kernel_rfl) (by kernel_rfl) (by kernel_rfl) (fun _ _ _ h => h) (Or.inl ⟨by rfl, ?_⟩) hS0 ?_
  · intro w hSw
    obtain ⟨q0, q1, q2, q3, q4⟩ := hSw
    go_simp
  simp only [Act.put, List.getElem_toArray, List.getElem_cons_zero, List.getElem_cons_succ, List.setIfInBounds_toArray, List.set_cons_zero, List.set_cons_succ]
  refine wpAnyH_all (rs := [9, 19]) (by kernel_rfl) (by simp) ?_
  intro i hi
  simp only [List.mem_cons, List.not_mem_nil, or_false] at hi
  rcases hi with rfl | rfl
  · refine wpOp_call rfl (by rfl) (by go_simp; first | rfl | exact ⟨⟨rfl, rfl⟩, rfl⟩ | exact ⟨rfl, rfl⟩) ?_
    refine (HK.out w1.drew ?_).mono ?_
    · exact HV1.out.below (Bl.drew (Below.refl _ w1))
    rintro e w2 ⟨rfl, rfl⟩
    refine ⟨_, rfl, ?_, ?_⟩
    · exact hS0
    simp only [Act.put, List.getElem_toArray, List.getElem_cons_zero, List.getElem_cons_succ, List.setIfInBounds_toArray, List.set_cons_zero, List.set_cons_succ]
    refine wpAnyH_take (i := 18) (v := ?_) rfl (by kernel_rfl) (by kernel_rfl) (by kernel_rfl) (fun _ _ _ h => h) (Or.inl ⟨by rfl, ?_⟩) hS0 ?_
    rotate_left
    · intro w hSw
      obtain ⟨q0, q1, q2, q3, q4⟩ := hSw
      go_simp
      rfl
    simp only [Act.put, List.getElem_toArray, List.getElem_cons_zero, List.getElem_cons_succ, List.setIfInBounds_toArray, List.set_cons_zero, List.set_cons_succ]
    refine wpAnyH_all (rs := [19]) (by kernel_rfl) (by simp) ?_
    intro i hi
    simp only [List.mem_cons, List.not_mem_nil, or_false] at hi
    subst hi
    refine wpOp_run rfl (by rfl) (w' := (w1.drew.alloc (.cells #[.string ByteArray.empty, .string ByteArray.empty, .int .u8 0, .string ByteArray.empty, .string ByteArray.empty, .int .i64 0] 66))) (v := .pointer (some ⟨w1.heap.size, 0, none⟩)) (by go_simp; rfl) ⟨?_, ?_⟩
    · exact hS1
    simp only [Act.put, List.getElem_toArray, List.getElem_cons_zero, List.getElem_cons_succ, List.setIfInBounds_toArray, List.set_cons_zero, List.set_cons_succ]
    refine wpAnyH_all (rs := [20]) (by kernel_rfl) (by simp) ?_
    intro i hi
    simp only [List.mem_cons, List.not_mem_nil, or_false] at hi
    subst hi
    refine wpOp_skip rfl (by rfl) (w' := w1.drew.alloc (.cells #[.string A0, .string A1, .int .u8 kw, .string A3, .string A4, .int .i64 n] 66)) (by go_simp) ⟨?_, ?_⟩
    · rw [← Hst.out]
      exact hS2
    simp only [Act.put, List.getElem_toArray, List.getElem_cons_zero, List.getElem_cons_succ, List.setIfInBounds_toArray, List.set_cons_zero, List.set_cons_succ]
    refine wpAnyH_done (by kernel_rfl) (NoPanic.normal ?_) _
    rw [← Hst.out]
    go_wp2_with fail
    refine (HC.out W2 HV2.out.i).mono ?_
    rintro e w4 ⟨rfl, hb4⟩
    have hx4 := (hb4.block w.heap.size hl2).trans hx2
    have hy4 := (hb4.block w1.heap.size hm2).trans hy2
    have HB4 := Lib.hid (HB2.out.trans (hb4.mono HB2.out.size))
    have hl4 := lt_row hx4
    have hm4 := lt_row hy4
    obtain ⟨hc4, hf4⟩ := row_facts hx4
    obtain ⟨hd4, hg4⟩ := row_facts hy4
    clear hb4
    unfold whyOf
    go_wp2
    obtain ⟨W4, hW4⟩ : ∃ W4, W4 = set6 w4 w.heap.size (.string A0) (.string A1) (.int .u8 kw) (.string A3) (.string A4) (.int .i64 n) := ⟨_, rfl⟩
    have hrow : W4.heap[w.heap.size]? = some (.cells #[.string A0, .string A1, .int .u8 kw, .string A3, .string A4, .int .i64 n] 66 (0, 0)) := by rw [hW4]; exact set6_row hx4 ..
    have HB5 : Below w.heap.size w W4 := by rw [hW4]; exact set6_below HB4.out (Nat.le_refl _) ..
    have k0 : W4.cell? ⟨w.heap.size, 0, none⟩ = _ := cell_row hrow
    have k1 : W4.cell? ⟨w.heap.size, 1, none⟩ = _ := cell_row hrow
    have k2 : W4.cell? ⟨w.heap.size, 2, none⟩ = _ := cell_row hrow
    have k3 : W4.cell? ⟨w.heap.size, 3, none⟩ = _ := cell_row hrow
    have k4 : W4.cell? ⟨w.heap.size, 4, none⟩ = _ := cell_row hrow
    have k5 : W4.cell? ⟨w.heap.size, 5, none⟩ = _ := cell_row hrow
    change bodyPost _ _ _ _ _ (set6 w4 w.heap.size (.string A0) (.string A1) (.int .u8 kw) (.string A3) (.string A4) (.int .i64 n))
    rw [← hW4]
    refine bodyPost_ret (v := .tuple #[.agg #[.string A0, .string A1, .int .u8 kw, .string A3, .string A4, .int .i64 n], .int .i64 0]) (by simp [results, Tryz.results39, go_sem, k0, k1, k2, k3, k4, k5]) rfl ⟨?_, HB5⟩
    rw [Hn.out]
    exact Hres.out
  · refine wpOp_run rfl (by rfl) (w' := (w1.drew.alloc (.cells #[.string ByteArray.empty, .string ByteArray.empty, .int .u8 0, .string ByteArray.empty, .string ByteArray.empty, .int .i64 0] 66))) (v := .pointer (some ⟨w1.heap.size, 0, none⟩)) (by go_simp; rfl) ⟨?_, ?_⟩
    · exact hS1
    simp only [Act.put, List.getElem_toArray, List.getElem_cons_zero, List.getElem_cons_succ, List.setIfInBounds_toArray, List.set_cons_zero, List.set_cons_succ]
    refine wpAnyH_all (rs := [9]) (by kernel_rfl) (by simp) ?_
    intro i hi
    simp only [List.mem_cons, List.not_mem_nil, or_false] at hi
    subst hi
    refine wpOp_call rfl (by rfl) (by go_simp; first | rfl | exact ⟨⟨rfl, rfl⟩, rfl⟩ | exact ⟨rfl, rfl⟩) ?_
    refine (HK.out (w1.drew.alloc (.cells #[.string ByteArray.empty, .string ByteArray.empty, .int .u8 0, .string ByteArray.empty, .string ByteArray.empty, .int .i64 0] 66)) ?_).mono ?_
    · exact (HV1.out.below (Bl.drew (Below.refl _ w1))).below ((Below.refl _ w1.drew).alloc (Nat.le_refl _) _)
    rintro e w2 ⟨rfl, rfl⟩
    refine ⟨_, rfl, ?_, ?_⟩
    · exact hS1
    simp only [Act.put, List.getElem_toArray, List.getElem_cons_zero, List.getElem_cons_succ, List.setIfInBounds_toArray, List.set_cons_zero, List.set_cons_succ]
    refine wpAnyH_take (i := 18) (v := ?_) rfl (by kernel_rfl) (by kernel_rfl) (by kernel_rfl) (fun _ _ _ h => h) (Or.inl ⟨by rfl, ?_⟩) hS1 ?_
    rotate_left
    · intro w hSw
      obtain ⟨q0, q1, q2, q3, q4⟩ := hSw
      go_simp
      rfl
    simp only [Act.put, List.getElem_toArray, List.getElem_cons_zero, List.getElem_cons_succ, List.setIfInBounds_toArray, List.set_cons_zero, List.set_cons_succ]
    refine wpAnyH_all (rs := [20]) (by kernel_rfl) (by simp) ?_
    intro i hi
    simp only [List.mem_cons, List.not_mem_nil, or_false] at hi
    subst hi
    refine wpOp_skip rfl (by rfl) (w' := w1.drew.alloc (.cells #[.string A0, .string A1, .int .u8 kw, .string A3, .string A4, .int .i64 n] 66)) (by go_simp) ⟨?_, ?_⟩
    · rw [← Hst.out]
      exact hS2
    simp only [Act.put, List.getElem_toArray, List.getElem_cons_zero, List.getElem_cons_succ, List.setIfInBounds_toArray, List.set_cons_zero, List.set_cons_succ]
    refine wpAnyH_done (by kernel_rfl) (NoPanic.normal ?_) _
    rw [← Hst.out]
    go_wp2_with fail
    refine (HC.out W2 HV2.out.i).mono ?_
    rintro e w4 ⟨rfl, hb4⟩
    have hx4 := (hb4.block w.heap.size hl2).trans hx2
    have hy4 := (hb4.block w1.heap.size hm2).trans hy2
    have HB4 := Lib.hid (HB2.out.trans (hb4.mono HB2.out.size))
    have hl4 := lt_row hx4
    have hm4 := lt_row hy4
    obtain ⟨hc4, hf4⟩ := row_facts hx4
    obtain ⟨hd4, hg4⟩ := row_facts hy4
    clear hb4
    unfold whyOf
    go_wp2
    obtain ⟨W4, hW4⟩ : ∃ W4, W4 = set6 w4 w.heap.size (.string A0) (.string A1) (.int .u8 kw) (.string A3) (.string A4) (.int .i64 n) := ⟨_, rfl⟩
    have hrow : W4.heap[w.heap.size]? = some (.cells #[.string A0, .string A1, .int .u8 kw, .string A3, .string A4, .int .i64 n] 66 (0, 0)) := by rw [hW4]; exact set6_row hx4 ..
    have HB5 : Below w.heap.size w W4 := by rw [hW4]; exact set6_below HB4.out (Nat.le_refl _) ..
    have k0 : W4.cell? ⟨w.heap.size, 0, none⟩ = _ := cell_row hrow
    have k1 : W4.cell? ⟨w.heap.size, 1, none⟩ = _ := cell_row hrow
    have k2 : W4.cell? ⟨w.heap.size, 2, none⟩ = _ := cell_row hrow
    have k3 : W4.cell? ⟨w.heap.size, 3, none⟩ = _ := cell_row hrow
    have k4 : W4.cell? ⟨w.heap.size, 4, none⟩ = _ := cell_row hrow
    have k5 : W4.cell? ⟨w.heap.size, 5, none⟩ = _ := cell_row hrow
    change bodyPost _ _ _ _ _ (set6 w4 w.heap.size (.string A0) (.string A1) (.int .u8 kw) (.string A3) (.string A4) (.int .i64 n))
    rw [← hW4]
    refine bodyPost_ret (v := .tuple #[.agg #[.string A0, .string A1, .int .u8 kw, .string A3, .string A4, .int .i64 n], .int .i64 0]) (by simp [results, Tryz.results39, go_sem, k0, k1, k2, k3, k4, k5]) rfl ⟨?_, HB5⟩
    rw [Hn.out]
    exact Hres.out

end Go.Proofs.YtlincoeldehkfaaGreatDoor.EventR
