/-
  WHAT IS PROVED: what the document's own answer on a number's digits does. No condition beside the bound that the theorem names.
-/
import Derived.Test.YtfodloepkgkilaaDoorRefI
namespace Go.Proofs.YtfodloepkgkilaaDoor.RefC
open Go Go.RowKit Go.Proofs.YtfodloepkgkilaaDoor Go.Proofs.YtfodloepkgkilaaDoor.IdentS Go.Proofs.YtfodloepkgkilaaDoor.IdentP Go.Proofs.YtfodloepkgkilaaDoor.RefI
set_option linter.unusedVariables false

/-- The number whose digits these are, of at most 63. -/
def cnt (s : List UInt8) : Option Nat := if numOf s ≤ 63 ∧ digits (numOf s) = s then some (numOf s) else none

theorem digits_bytes : ∀ n : Fin 64, ∀ c ∈ digits n.val, 48 ≤ c.toNat ∧ c.toNat ≤ 57 := by decide
theorem digits_take : ∀ n : Fin 64, ∀ k : Fin 3, numOf ((digits n.val).take k.val) ≤ 63 := by decide
theorem digits_len : ∀ n : Fin 64, (digits n.val).length ≤ 2 ∧ 1 ≤ (digits n.val).length := by decide
theorem cnt_spec {s : List UInt8} {n : Nat} (h : cnt s = some n) : n ≤ 63 ∧ digits n = s := by
  unfold cnt at h
  split at h
  · rename_i hc
    simp only [Option.some.injEq] at h
    subst h
    exact hc
  · cases h
theorem cnt_digits {n : Nat} (h : n ≤ 63) : cnt (digits n) = some n := by
  have := numOf_digits ⟨n, by omega⟩
  simp only at this
  unfold cnt
  rw [this, if_pos ⟨h, rfl⟩]
theorem cnt_byte {s : List UInt8} {c : UInt8} (hc : c ∈ s) (h : ¬ (48 ≤ c.toNat ∧ c.toNat ≤ 57)) : cnt s = none := by
  cases he : cnt s with
  | none => rfl
  | some n =>
    obtain ⟨h1, h2⟩ := cnt_spec he
    rw [← h2] at hc
    exact absurd (digits_bytes ⟨n, by omega⟩ c hc) h
theorem cnt_big {s : List UInt8} {k : Nat} (h : 63 < numOf (s.take k)) : cnt s = none := by
  cases he : cnt s with
  | none => rfl
  | some n =>
    obtain ⟨h1, h2⟩ := cnt_spec he
    rw [← h2] at h
    obtain ⟨h3, _⟩ := digits_len ⟨n, by omega⟩
    simp only at h3
    by_cases hk : k < 3
    · have := digits_take ⟨n, by omega⟩ ⟨k, hk⟩
      simp only at this
      omega
    · rw [List.take_of_length_le (by omega)] at h
      have := numOf_digits ⟨n, by omega⟩
      simp only at this
      omega
theorem cnt_nil : cnt [] = none := by decide
theorem cnt_ne {s : List UInt8} (h : digits (numOf s) ≠ s) : cnt s = none := if_neg (fun hc => h hc.2)
theorem numOf_snoc (l : List UInt8) (c : UInt8) : numOf (l ++ [c]) = 10 * numOf l + (c.toNat - 48) := by
  unfold numOf
  rw [List.foldl_append]
  rfl

def cntV : Option Nat → Value
  | some n => .tuple #[.int .i64 n, .bool true]
  | none => .tuple #[.int .i64 0, .bool false]

set_option maxHeartbeats 2000000 in
theorem Count_ok (w : World) (s : ByteArray) (hs : s.size ≤ maxLen) : Calls Tryd.prog 59 #[.string s, .int .i64 63] w fun e w' => e = .returned (cntV (cnt (bl s))) ∧ w = w' := by
  unfold maxLen at hs
  go_enter Tryd.func59, Tryd.ntmps59
  go_wp2
  go_loop [6, 7] (fun x i => ∃ k : Nat, i = .int .i64 k ∧ x = .int .i64 (numOf ((bl s).take k) : Nat) ∧ k ≤ s.size ∧ numOf ((bl s).take k) ≤ 639) (fun x i => s.size - (intOf i).toNat)
  case atStart => exact ⟨0, rfl, rfl, by omega, by rw [List.take_zero]; decide⟩
  case round =>
    obtain ⟨k, rfl, rfl, hk, hb⟩ := hrel
    obtain ⟨n, hn⟩ : ∃ n, n = numOf ((bl s).take k) := ⟨_, rfl⟩
    rw [← hn] at hb ⊢
    by_cases hlt : k < s.size
    · have hk2 : k < (bl s).length := by rw [bl_length]; exact hlt
      have hg := bl_get s k hlt
      have hgm : s[k] ∈ bl s := List.mem_of_getElem? hg
      by_cases hd : 48 ≤ (s[k]).toNat ∧ (s[k]).toNat ≤ 57
      · obtain ⟨hd1, hd2⟩ := hd
        by_cases h63 : 63 < n
        · have hno := cnt_big (s := bl s) (k := k) (by omega)
          have Hno := Lib.hid hno
          clear hno hn
          go_wp2
          go_ret2
          exact ⟨by rw [Hno.out]; rfl, rfl⟩
        · have hnx : numOf ((bl s).take (k + 1)) = 10 * n + ((s[k]).toNat - 48) := by
            rw [List.getElem?_eq_getElem hk2] at hg
            rw [List.take_succ_eq_append_getElem hk2, numOf_snoc, Option.some.inj hg, hn]; rfl
          have Hnx := Lib.hid hnx
          clear hnx hn hg hgm
          go_wp2
          go_round
          case rel => exact ⟨k + 1, by go_num, by rw [Hnx.out]; congr 1; omega, by omega, by rw [Hnx.out]; omega⟩
          case measure => simp [intOf]; omega
      · have hno := cnt_byte hgm hd
        have Hno := Lib.hid hno
        clear hno hn
        have hc := (s[k]).toNat_lt
        by_cases h48 : (s[k]).toNat < 48
        · go_wp2
          go_ret2
          exact ⟨by rw [Hno.out]; rfl, rfl⟩
        · go_wp2
          go_ret2
          exact ⟨by rw [Hno.out]; rfl, rfl⟩
    · obtain rfl : k = s.size := by omega
      rw [List.take_of_length_le (by rw [bl_length]; omega)] at hn
      by_cases h0 : s.size = 0
      · have he : s = ByteArray.empty := by
          have hb : bl s = [] := List.eq_nil_of_length_eq_zero (by rw [bl_length]; exact h0)
          rw [← bsOf_bl s, hb]
          rfl
        subst he
        clear hn
        go_wp2
        go_ret2
        exact ⟨rfl, rfl⟩
      · have hemp : s.toList.isEmpty = false := by
          rw [bl_toList, List.isEmpty_eq_false_iff]
          intro e
          have := bl_length s
          rw [e] at this
          simp at this
          omega
        have hn0 : ¬ s.toList = [] := by
          intro e
          rw [e] at hemp
          cases hemp
        by_cases h63 : 63 < n
        · have hno := cnt_big (s := bl s) (k := s.size) (by rw [List.take_of_length_le (by rw [bl_length]; omega), ← hn]; exact h63)
          have Hno := Lib.hid hno
          clear hno hn
          go_wp2
          go_ret2
          exact ⟨by rw [Hno.out]; rfl, rfl⟩
        · have hN := Number_ok w n (by omega)
          obtain ⟨d, hd⟩ : ∃ d, d = bsOf (digits n) := ⟨_, rfl⟩
          rw [← hd] at hN
          by_cases he : d = s
          · have hyes : cnt (bl s) = some n := by
              rw [← he, hd, bl_bsOf]
              exact cnt_digits (by omega)
            have hne : (d.toList != s.toList) = false := by rw [he]; simp
            have Hyes := Lib.hid hyes
            have HN := Lib.hid hN
            subst he
            clear hyes hN hn hd
            go_wp2_with fail
            refine HN.out.mono ?_
            rintro e w' ⟨rfl, rfl⟩
            go_wp2
            go_ret2
            exact ⟨by rw [Hyes.out]; rfl, rfl⟩
          · have hno : cnt (bl s) = none := cnt_ne (by
              rw [← hn]
              intro h
              apply he
              rw [hd, h, bsOf_bl])
            have hne := str_ne he
            have Hno := Lib.hid hno
            have HN := Lib.hid hN
            clear hno hN hn hd
            go_wp2_with fail
            refine HN.out.mono ?_
            rintro e w' ⟨rfl, rfl⟩
            go_wp2
            go_ret2
            exact ⟨by rw [Hno.out]; rfl, rfl⟩

end Go.Proofs.YtfodloepkgkilaaDoor.RefC
