/-
  WHAT IS PROVED: what the program's event package does, function by function, ahead of an event's bytes. Condition: the listed variables hold what 'VarsE' says, and the strings are not longer than each theorem says.
-/
import Derived.Test.YtfodloepkgkilaaDoorIdentR
import Derived.Test.YtfodloepkgkilaaDoorEventS
namespace Go.Proofs.YtfodloepkgkilaaDoor.EventP
open Go Go.RowKit Go.Proofs.YtfodloepkgkilaaDoor Go.Proofs.YtfodloepkgkilaaDoor.IdentS Go.Proofs.YtfodloepkgkilaaDoor.EventS Go.Proofs.YtfodloepkgkilaaDoor.OctP Go.Proofs.YtfodloepkgkilaaDoor.IdentP Go.Proofs.YtfodloepkgkilaaDoor.IdentQ Go.Proofs.YtfodloepkgkilaaDoor.IdentR
set_option linter.unusedVariables false
set_option linter.unusedSimpArgs false

def RB (v : Value) (w : World) (e : Ending) (w' : World) : Prop := e = .returned v ∧ Below w.heap.size w w'

def evV (r s : ByteArray) (k : Int) (ky b : ByteArray) (n : Int) : Value := .agg #[.string r, .string s, .int .u8 k, .string ky, .string b, .int .i64 n]
def evOf (r s : ByteArray) (k : Int) (ky b : ByteArray) (n : Int) : Ev := ⟨bl r, bl s, k, bl ky, bl b, n⟩

/-- What the package-level variables hold. -/
structure VarsE (w : World) : Prop where
  i : VarsI w
  words : ∀ k, k < 9 → w.cell? ⟨1, k, none⟩ = some (.string (bsOf (wordN k)))
theorem VarsE.below {w w' : World} (h : VarsE w) (hb : Below w.heap.size w w') : VarsE w' :=
  ⟨h.i.below hb, fun k hk => (hb.cell (World.block_lt_of_cell? w _ (h.words k hk))).trans (h.words k hk)⟩

theorem known_ok (w : World) (k : Int) : Calls Tryd.prog 64 #[.int .u8 k] w fun e w' => e = .returned (.bool (EventS.known k)) ∧ w = w' := by
  go_enter Tryd.func64, Tryd.ntmps64
  go_wp2
  all_goals
    go_ret
    refine ⟨?_, rfl⟩
    congr 2
    simp [EventS.known] at *
    try omega

def stateB (k : Int) : Bool := EventS.known k && (decide (k ≠ 6) && decide (k ≠ 7))
theorem State_ok (w : World) (k : Int) : Calls Tryd.prog 38 #[.int .u8 k] w fun e w' => e = .returned (.bool (stateB k)) ∧ w = w' := by
  have hk : k = 6 ∨ k = 7 ∨ ((k == 6) = false ∧ (k == 7) = false) := by simp; omega
  rcases hk with rfl | rfl | ⟨h6, h7⟩
  · go_enter Tryd.func38, Tryd.ntmps38
    go_wp2
    go_ret
    exact ⟨rfl, rfl⟩
  · go_enter Tryd.func38, Tryd.ntmps38
    go_wp2
    go_ret
    exact ⟨rfl, rfl⟩
  · have hfin : stateB k = EventS.known k := by
      simp at h6 h7
      simp [stateB, h6, h7]
    rw [hfin]
    go_enter Tryd.func38, Tryd.ntmps38
    go_wp2_with fail
    refine (known_ok w k).mono ?_
    rintro e w' ⟨rfl, rfl⟩
    go_wp2
    go_ret
    exact ⟨rfl, rfl⟩

theorem user_at (w0 : World) (s : ByteArray) (hs : s.size ≤ 140737488351232) : ∃ n : Int, ∀ w, VarsI w → Calls Tryd.prog 18 #[.string s] w (RB (.tuple #[.int .i64 n, .bool (userB (bl s))]) w) := by
  unfold userB
  cases h : serverOf 1 (bl s) with
  | none => exact ⟨0, fun w hv => by have := User_ok w s hv hs; unfold ServPost at this; rw [h] at this; exact this⟩
  | some n => exact ⟨n, fun w hv => by have := User_ok w s hv hs; unfold ServPost at this; rw [h] at this; exact this⟩
theorem room_at (w0 : World) (s : ByteArray) (hs : s.size ≤ 140737488351232) : ∃ n : Int, ∀ w, VarsI w → Calls Tryd.prog 20 #[.string s] w (RB (.tuple #[.int .i64 n, .bool (roomB (bl s))]) w) := by
  unfold roomB
  cases h : serverOf 2 (bl s) with
  | none => exact ⟨0, fun w hv => by have := Room_ok w s hv hs; unfold ServPost at this; rw [h] at this; exact this⟩
  | some n => exact ⟨n, fun w hv => by have := Room_ok w s hv hs; unfold ServPost at this; rw [h] at this; exact this⟩

theorem key_ok (w : World) (r s : ByteArray) (k : Int) (ky b : ByteArray) (n : Int) (hv : VarsI w) (hk : ky.size ≤ 140737488351232) :
    Calls Tryd.prog 65 #[evV r s k ky b n] w (RB (.bool (keyB (evOf r s k ky b n))) w) := by
  obtain ⟨un, hU⟩ := user_at w ky hk
  have hV := hv.below ((Below.refl _ w).alloc (Nat.le_refl _) (.cells #[.string r, .string s, .int .u8 k, .string ky, .string b, .int .i64 n] 36))
  have HU := Lib.hid hU
  have HV := Lib.hid hV
  clear hU hV hv hk
  unfold evV
  by_cases h2 : k = 2
  · subst h2
    have hfin : keyB (evOf r s 2 ky b n) = userB (bl ky) := by unfold keyB evOf; exact if_pos rfl
    rw [hfin]
    clear hfin
    go_enter Tryd.func65, Tryd.ntmps65
    go_wp2_with fail
    refine (HU.out _ HV.out).mono ?_
    rintro e w' ⟨rfl, hb⟩
    have HB := Lib.hid (((Below.refl _ w).alloc (Nat.le_refl _) _).trans (hb.mono (by simp)))
    clear hb
    go_wp2
    go_ret
    exact ⟨rfl, HB.out⟩
  · have hkb : (k != 2) = true := by simp [h2]
    have hfin : keyB (evOf r s k ky b n) = ky.toList.isEmpty := by
      unfold keyB evOf
      simp only [h2, if_false]
      have he0 : (ByteArray.empty).toList = [] := by decide +kernel
      by_cases he : ky = ByteArray.empty
      · subst he
        rw [he0]
        rfl
      · have h3 := str_ne he
        rw [he0, beq_eq_false_iff_ne] at h3
        rw [List.isEmpty_eq_false_iff.2 h3]
        simp only [decide_eq_false_iff_not]
        intro h
        exact he (bl_inj h)
    rw [hfin]
    clear hfin
    go_enter Tryd.func65, Tryd.ntmps65
    go_wp2
    go_ret
    exact ⟨rfl, (Below.refl _ w).alloc (Nat.le_refl _) _⟩

theorem Word_ok (w : World) (k : Int) (hv : VarsE w) : Calls Tryd.prog 40 #[.int .u8 k] w fun e w' => e = .returned (.string (bsOf (if EventS.known k then word k else []))) ∧ w = w' := by
  cases h : EventS.known k
  · go_enter Tryd.func40, Tryd.ntmps40
    go_wp2_with fail
    have hk := known_ok w k
    rw [h] at hk
    refine hk.mono ?_
    rintro e w' ⟨rfl, rfl⟩
    go_wp2
    go_ret
    exact ⟨rfl, rfl⟩
  · have hk := known_ok w k
    rw [h] at hk
    obtain ⟨h0, h1⟩ := known_spec h
    obtain ⟨m, rfl⟩ : ∃ m : Nat, k = m := ⟨k.toNat, by omega⟩
    have hc := hv.words m (by omega)
    have hw : word (m : Int) = wordN m := by unfold word; simp
    rw [if_pos rfl, hw]
    have HK := Lib.hid hk
    clear hk h hw hv
    go_enter Tryd.func40, Tryd.ntmps40
    go_wp2_with fail
    refine HK.out.mono ?_
    rintro e w' ⟨rfl, rfl⟩
    go_wp2
    go_ret
    exact ⟨rfl, rfl⟩

end Go.Proofs.YtfodloepkgkilaaDoor.EventP
