/-
  WHAT IS PROVED: what the scripts' small functions answer. Condition: the variables hold what 'VarsE' says.
-/
import Derived.Test.YtjiakfblgefioaaGreatDoorWitS
namespace Go.Proofs.YtjiakfblgefioaaGreatDoor.WitA
open Go Go.RowKit Go.Shelf Go.Proofs.YtjiakfblgefioaaGreatDoor Go.Proofs.YtjiakfblgefioaaGreatDoor.OctetS Go.Proofs.YtjiakfblgefioaaGreatDoor.IdentS Go.Proofs.YtjiakfblgefioaaGreatDoor.EventS Go.Proofs.YtjiakfblgefioaaGreatDoor.EntS Go.Proofs.YtjiakfblgefioaaGreatDoor.OctP Go.Proofs.YtjiakfblgefioaaGreatDoor.OctQ Go.Proofs.YtjiakfblgefioaaGreatDoor.IdentP Go.Proofs.YtjiakfblgefioaaGreatDoor.IdentR Go.Proofs.YtjiakfblgefioaaGreatDoor.EventP Go.Proofs.YtjiakfblgefioaaGreatDoor.EventC Go.Proofs.YtjiakfblgefioaaGreatDoor.EventB Go.Proofs.YtjiakfblgefioaaGreatDoor.EntP Go.Proofs.YtjiakfblgefioaaGreatDoor.RowsX Go.Proofs.YtjiakfblgefioaaGreatDoor.WitS
set_option linter.unusedVariables false
set_option linter.unusedSimpArgs false

set_option maxRecDepth 100000 in
set_option maxHeartbeats 4000000 in
theorem setup_ok (w : World) (l h : Int) : Calls Tryz.prog 22 #[.int .u64 l, .int .i64 h] w (RB (setV l h) w) := by
  go_enter Tryz.func22, Tryz.ntmps22
  go_wp2
  exact bodyPost_ret (v := setV l h) (by simp [results, Tryz.results22, go_sem, setV]) rfl ⟨rfl, (Below.refl _ w).alloc (Nat.le_refl _) _⟩

set_option maxRecDepth 100000 in
set_option maxHeartbeats 4000000 in
theorem text_ok (w : World) (r s : ByteArray) (k : Int) (ky b : ByteArray) (n : Int) (hv : VarsE w) (hk : ky.size ≤ 140737488351232) (hb : b.size ≤ maxLen) :
    Calls Tryz.prog 29 #[evV r s k ky b n] w (RB (.string (tx k ky b n)) w) := by
  have hB := fun w hv => Bytes_ok w roomT userT k ky b n hv (by decide +kernel) (by decide +kernel) hk hb
  have HB := Lib.hid hB
  have HV := Lib.hid hv
  unfold evV at HB
  unfold evV tx
  clear hB hv hk hb
  go_enter Tryz.func29, Tryz.ntmps29
  go_wp2_with fail
  refine (HB.out _ (HV.out.below ((Below.refl _ w).alloc (Nat.le_refl _) _))).mono ?_
  rintro e w1 ⟨rfl, hb⟩
  have HB1 := Lib.hid (((Below.refl _ w).alloc (Nat.le_refl _) _).trans (hb.mono (by simp)))
  clear hb
  go_wp2
  go_ret
  exact ⟨rfl, HB1.out⟩

set_option maxRecDepth 100000 in
set_option maxHeartbeats 4000000 in
theorem nth_ok (w : World) (k : Int) (hv : VarsE w) : Calls Tryz.prog 21 #[.int .i64 k] w (RB (.string (nthT k)) w) := by
  have hT1 := text_ok w ⟨#[]⟩ ⟨#[]⟩ 1 ⟨#[]⟩ ⟨#[]⟩ 0 hv (by decide +kernel) (by decide +kernel)
  have hT2 := text_ok w ⟨#[]⟩ ⟨#[]⟩ 2 userT joinT 0 hv (by decide +kernel) (by decide +kernel)
  have hT3 := text_ok w ⟨#[]⟩ ⟨#[]⟩ 6 ⟨#[]⟩ sayT k hv (by decide +kernel) (by decide +kernel)
  clear hv
  unfold evV at hT1 hT2 hT3
  unfold nthT
  have HT1 := Lib.hid hT1
  have HT2 := Lib.hid hT2
  have HT3 := Lib.hid hT3
  clear hT1 hT2 hT3
  by_cases h1 : k = 1
  · subst h1
    rw [if_pos rfl]
    clear HT2 HT3
    go_enter Tryz.func21, Tryz.ntmps21
    go_wp2_with fail
    refine HT1.out.mono ?_
    rintro e w1 ⟨rfl, hb⟩
    have HB1 := Lib.hid hb
    clear hb
    go_wp2
    go_ret
    exact ⟨rfl, HB1.out⟩
  · rw [if_neg h1]
    have e1 : (k == 1) = false := by simp [h1]
    by_cases h2 : k = 2
    · subst h2
      rw [if_pos rfl]
      clear HT1 HT3 h1
      go_enter Tryz.func21, Tryz.ntmps21
      go_wp2_with fail
      refine HT2.out.mono ?_
      rintro e w1 ⟨rfl, hb⟩
      have HB1 := Lib.hid hb
      clear hb
      go_wp2
      go_ret
      exact ⟨rfl, HB1.out⟩
    · rw [if_neg h2]
      have e2 : (k == 2) = false := by simp [h2]
      clear HT1 HT2 h1 h2
      go_enter Tryz.func21, Tryz.ntmps21
      go_wp2_with fail
      refine HT3.out.mono ?_
      rintro e w1 ⟨rfl, hb⟩
      have HB1 := Lib.hid hb
      clear hb
      go_wp2
      go_ret
      exact ⟨rfl, HB1.out⟩

set_option maxRecDepth 100000 in
set_option maxHeartbeats 4000000 in
theorem lie_ok (w : World) (to : Int) (ev : ByteArray) (hv : VarsI w) (he : ev.size ≤ maxLen) : Calls Tryz.prog 28 #[.int .i64 to, .string ev] w (RB (.agg #[.int .u8 10, .int .i64 0, .int .i64 to, .string (lieT ev), .int .u8 0]) w) := by
  obtain ⟨p, hp⟩ : ∃ p, p = entA roomT 0 0 (List.replicate 32 0) ev ⟨#[]⟩ := ⟨_, rfl⟩
  have hE : EntP p roomT 0 0 (List.replicate 32 0) ev ⟨#[]⟩ := ⟨hp, by simp⟩
  have hT := fun w hv => EntP.Text_ok w p roomT 0 0 (List.replicate 32 0) ev ⟨#[]⟩ hE hv (by decide +kernel) he (by decide +kernel)
  obtain ⟨y, hy⟩ : ∃ y, y = whyOf (EntS.checkB (entOf roomT 0 0 (List.replicate 32 0) ev ⟨#[]⟩)) := ⟨_, rfl⟩
  rw [← hy] at hT
  clear hy hE
  obtain ⟨t, ht⟩ : ∃ t, t = lieT ev := ⟨_, rfl⟩
  unfold lieT at ht
  rw [← ht] at hT
  rw [hp] at hT
  unfold entA at hT
  have hz : ([.string roomT, .int .i64 0, .int .i64 0] ++ byV (List.replicate 32 0) ++ [.string ev, .string ⟨#[]⟩] : List Value).toArray = #[.string roomT, .int .i64 0, .int .i64 0, .int .u8 0, .int .u8 0, .int .u8 0, .int .u8 0, .int .u8 0, .int .u8 0, .int .u8 0, .int .u8 0, .int .u8 0, .int .u8 0, .int .u8 0, .int .u8 0, .int .u8 0, .int .u8 0, .int .u8 0, .int .u8 0, .int .u8 0, .int .u8 0, .int .u8 0, .int .u8 0, .int .u8 0, .int .u8 0, .int .u8 0, .int .u8 0, .int .u8 0, .int .u8 0, .int .u8 0, .int .u8 0, .int .u8 0, .int .u8 0, .int .u8 0, .int .u8 0, .string ev, .string ⟨#[]⟩] := by kernel_rfl
  rw [hz] at hT
  rw [show lieT ev = t from ht.symm]
  have HT := Lib.hid hT
  have HV := Lib.hid (hv.below ((Below.refl _ w).alloc (Nat.le_refl _) (.cells #[.int .u8 0, .int .i64 0, .int .i64 0, .string ⟨#[]⟩, .int .u8 0] 49)))
  clear hT hv he hz ht hp p
  go_enter Tryz.func28, Tryz.ntmps28
  go_wp2_with fail
  refine (HT.out _ HV.out).mono ?_
  rintro e w1 ⟨rfl, hb⟩
  have HB1 := Lib.hid (((Below.refl _ w).alloc (Nat.le_refl _) _).trans (hb.mono (by simp)))
  have hx := (hb.block w.heap.size (by simp)).trans (heap_new w _)
  obtain ⟨hc, hf⟩ := row_facts hx
  have hl := lt_row hx
  have Hx := Lib.hid hx
  clear hb hx
  go_wp2
  exact bodyPost_ret (v := .agg #[.int .u8 10, .int .i64 0, .int .i64 to, .string t, .int .u8 0]) (by simp [results, Tryz.results28, go_sem, hc]) rfl ⟨rfl, (((((HB1.out.setCell (by simp) _).setCell (by simp) _).setCell (by simp) _).setCell (by simp) _).setCell (by simp) _)⟩


end Go.Proofs.YtjiakfblgefioaaGreatDoor.WitA
