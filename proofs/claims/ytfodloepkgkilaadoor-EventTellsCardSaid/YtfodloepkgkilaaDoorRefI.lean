/-
  WHAT IS PROVED: what the document's own answers on identifiers do, function by function: digits, names. No condition beside the bounds that each theorem names.
-/
import Derived.Test.YtfodloepkgkilaaDoorIdentP
namespace Go.Proofs.YtfodloepkgkilaaDoor.RefI
open Go Go.RowKit Go.Proofs.YtfodloepkgkilaaDoor Go.Proofs.YtfodloepkgkilaaDoor.IdentS Go.Proofs.YtfodloepkgkilaaDoor.IdentP
set_option linter.unusedVariables false

theorem bsOf_append (a b : List UInt8) : bsOf a ++ bsOf b = bsOf (a ++ b) := by
  refine bl_inj ?_
  rw [bl_bsOf]
  simp [bl, bsOf]

theorem small_digits : ∀ n : Fin 10, (⟨#[48, 49, 50, 51, 52, 53, 54, 55, 56, 57]⟩ : ByteArray).extract n.val (n.val + 1) = bsOf (digits n.val) := by decide +kernel

theorem Number_small (w : World) (n : Nat) (hn : n < 10) : Calls Tryd.prog 55 #[.int .i64 n] w fun e w' => e = .returned (.string (bsOf (digits n))) ∧ w = w' := by
  have h := small_digits ⟨n, hn⟩
  simp only at h
  have H := Lib.hid h
  clear h
  go_enter Tryd.func55, Tryd.ntmps55
  go_wp2
  go_ret
  exact ⟨by rw [← H.out]; rfl, rfl⟩

theorem two_digits : ∀ n : Fin 100, 10 ≤ n.val → digits (n.val / 10) ++ digits (n.val % 10) = digits n.val := by decide
theorem Number_ok (w : World) (n : Nat) (hn : n < 100) : Calls Tryd.prog 55 #[.int .i64 n] w fun e w' => e = .returned (.string (bsOf (digits n))) ∧ w = w' := by
  by_cases h : n < 10
  · exact Number_small w n h
  · have h2 := two_digits ⟨n, hn⟩ (by simpa using h)
    simp only at h2
    have hb : bsOf (digits (n / 10)) ++ bsOf (digits (n % 10)) = bsOf (digits n) := by
      rw [← h2]
      exact bsOf_append _ _
    have a1 := Number_small w (n / 10) (by omega)
    have a2 := Number_small w (n % 10) (by omega)
    obtain ⟨d1, hd1⟩ : ∃ d, d = bsOf (digits (n / 10)) := ⟨_, rfl⟩
    obtain ⟨d2, hd2⟩ : ∃ d, d = bsOf (digits (n % 10)) := ⟨_, rfl⟩
    have z1 : d1.size ≤ 2 := by rw [hd1, size_bsOf]; unfold digits; split <;> simp
    have z2 : d2.size ≤ 2 := by rw [hd2, size_bsOf]; unfold digits; split <;> simp
    rw [← hd1] at a1
    rw [← hd2] at a2
    rw [← hd1, ← hd2] at hb
    have e1 : ((n / 10 : Nat) : Int) = (n : Int) / 10 := by omega
    have e2 : ((n % 10 : Nat) : Int) = (n : Int) % 10 := by omega
    rw [e1] at a1
    rw [e2] at a2
    have A1 := Lib.hid a1
    have A2 := Lib.hid a2
    have Hb := Lib.hid hb
    clear a1 a2 hb h2 hd1 hd2
    go_enter Tryd.func55, Tryd.ntmps55
    go_wp2_with fail
    refine A1.out.mono ?_
    rintro e w' ⟨rfl, rfl⟩
    go_wp2_with fail
    refine A2.out.mono ?_
    rintro e w' ⟨rfl, rfl⟩
    go_wp2
    go_ret
    exact ⟨by rw [← Hb.out]; rfl, rfl⟩

theorem letter_ok (w : World) (c : UInt8) : Calls Tryd.prog 90 #[.int .u8 c.toNat] w fun e w' => e = .returned (.bool (letterB c)) ∧ w = w' := by
  have hc := c.toNat_lt
  have hL : letterB c = true ↔ ((97 ≤ (c.toNat : Int) ∧ (c.toNat : Int) ≤ 122) ∨ (48 ≤ (c.toNat : Int) ∧ (c.toNat : Int) ≤ 57) ∨ (c.toNat : Int) = 95 ∨ (c.toNat : Int) = 45) := by
    unfold letterB
    simp only [Bool.or_eq_true, decide_eq_true_eq]
    omega
  have HL := Lib.hid hL
  clear hL
  go_enter Tryd.func90, Tryd.ntmps90
  go_wp2
  all_goals
    go_ret
    refine ⟨?_, rfl⟩
    show Ending.returned (.bool _) = Ending.returned (.bool _)
    congr 2
    rw [Bool.eq_iff_iff, HL.out]
    simp only [Bool.or_eq_true, decide_eq_true_eq, beq_iff_eq, Bool.false_or, Bool.true_or, true_iff, iff_true, Bool.false_eq_true, false_iff]
    omega

set_option maxHeartbeats 400000 in
theorem name_ok (w : World) (s : ByteArray) (hs : s.size ≤ maxLen) : Calls Tryd.prog 54 #[.string s] w fun e w' => e = .returned (.bool (nameB (bl s))) ∧ w = w' := by
  unfold maxLen at hs
  go_enter Tryd.func54, Tryd.ntmps54
  go_wp2
  go_loop [3] (fun i => ∃ k : Nat, i = .int .i64 k ∧ k ≤ s.size ∧ ((bl s).take k).all letterB = true) (fun i => s.size - (intOf i).toNat)
  case atStart => exact ⟨0, rfl, by omega, rfl⟩
  case round =>
    obtain ⟨k, rfl, hk, hall⟩ := hrel
    have Hall := Lib.hid hall
    clear hall
    by_cases hlt : k < s.size
    · have hd := bl_drop s k hlt
      have Hd := Lib.hid hd
      clear hd
      go_wp2_with fail
      refine (letter_ok w s[k]).mono ?_
      rintro e w' ⟨rfl, rfl⟩
      cases hl : letterB s[k]
      · have hno : nameB (bl s) = false := by
          unfold nameB
          rw [← List.take_append_drop k (bl s), Hd.out, List.all_append, List.all_cons, hl]
          simp
        have Hno := Lib.hid hno
        have Hl := Lib.hid hl
        clear hno hl
        go_wp2
        go_ret
        exact ⟨by rw [Hno.out]; rfl, rfl⟩
      · have Hl := Lib.hid hl
        clear hl
        go_wp2
        go_round
        case rel =>
          refine ⟨k + 1, by go_num, by omega, ?_⟩
          have hk2 : k < (bl s).length := by rw [bl_length]; exact hlt
          have hg := bl_get s k hlt
          rw [List.getElem?_eq_getElem hk2] at hg
          rw [List.take_succ_eq_append_getElem hk2, List.all_append, Hall.out, Option.some.inj hg]
          simp [Hl.out]
        case measure => simp [intOf]; omega
    · obtain rfl : k = s.size := by omega
      rw [List.take_of_length_le (by rw [bl_length]; omega)] at Hall
      have hfin : nameB (bl s) = (decide (1 ≤ s.size) && decide (s.size ≤ 16)) := by
        unfold nameB
        rw [Hall.out, bl_length]
        have : (bl s).isEmpty = decide (s.size = 0) := by
          rw [← bl_length]
          cases bl s <;> simp
        rw [this]
        rw [Bool.eq_iff_iff]
        simp only [Bool.and_eq_true, Bool.true_and, Bool.not_eq_true', decide_eq_true_eq, decide_eq_false_iff_not]
        omega
      have Hfin := Lib.hid hfin
      clear hfin
      by_cases h1 : 1 ≤ s.size <;> by_cases h16 : s.size ≤ 16
      all_goals first | omega | skip
      all_goals
        go_wp2
        go_ret
        exact ⟨by rw [Hfin.out]; simp [h16, h1] <;> (try omega), rfl⟩

end Go.Proofs.YtfodloepkgkilaaDoor.RefI
