/-
  WHAT IS PROVED: what the document's own answer on the number that bytes begin with is. Condition: the bytes are not longer than the theorem says.
-/
import Derived.Test.YtfodloepkgkilaaDoorRef1N
namespace Go.Proofs.YtfodloepkgkilaaDoor.Ref1G
open Go Go.RowKit Go.Proofs.YtfodloepkgkilaaDoor Go.Proofs.YtfodloepkgkilaaDoor.OctetS Go.Proofs.YtfodloepkgkilaaDoor.OctP Go.Proofs.YtfodloepkgkilaaDoor.OctQ Go.Proofs.YtfodloepkgkilaaDoor.Ref1S Go.Proofs.YtfodloepkgkilaaDoor.Ref1N
set_option linter.unusedVariables false

def numV (g : Nat × Nat × Int) : Value := .tuple #[.int .u64 g.1, .int .i64 g.2.1, .int .i64 g.2.2]

set_option maxRecDepth 100000 in
set_option maxHeartbeats 1000000 in
theorem GetNum_ok (w : World) (s : ByteArray) (hs : s.size ≤ maxLen) :
    Calls Tryd.prog 78 #[.string s] w fun e w' => e = .returned (numV (getNum (bl s))) ∧ Below w.heap.size w w' := by
  unfold maxLen at hs
  go_enter Tryd.func78, Tryd.ntmps78
  go_wp2
  go_loop [5, 6, 7] (fun x y i => ∃ (k : Nat) (N U : Int), i = .int .i64 k ∧ x = .int .u64 N ∧ y = .int .u64 U ∧ N = (val ((bl s).take k) : Nat) ∧ U = (128 ^ k : Nat) ∧ k ≤ s.size ∧ k ≤ 7 ∧ ∀ c ∈ (bl s).take k, 128 ≤ c.toNat) (fun x y i => s.size - (intOf i).toNat)
  case atStart => exact ⟨0, 0, 1, rfl, rfl, rfl, rfl, rfl, by omega, by omega, fun c hc => by simp at hc⟩
  case round =>
    obtain ⟨k, N, U, rfl, rfl, rfl, hN, hU, hk, hk7, hall⟩ := hrel
    have Hall := Lib.hid hall
    have hN0 : 0 ≤ N := by omega
    have hp7 : 128 ^ k ≤ 128 ^ 7 := Nat.pow_le_pow_right (by omega) hk7
    have hp1 : 1 ≤ 128 ^ k := Nat.one_le_pow _ _ (by omega)
    have hp8 : (128 : Nat) ^ 7 = 562949953421312 := by decide
    have hvl := val_lt ((bl s).take k)
    rw [List.length_take, bl_length, Nat.min_eq_left hk] at hvl
    have hN1 : N < 562949953421312 := by omega
    have hU0 : 1 ≤ U := by omega
    have hU1 : U ≤ 562949953421312 := by omega
    clear hp7 hp1 hp8 hvl
    have HN := Lib.hid hN
    have HU := Lib.hid hU
    clear hall hN hU
    by_cases hlt : k < s.size
    · by_cases h7 : k = 7
      · subst h7
        have hfin : getNum (bl s) = (0, 0, 6) := getNum_code Hall.out (by rw [bl_length]; omega)
        have Hfin := Lib.hid hfin
        clear hfin
        go_wp2
        go_ret3
        exact ⟨by rw [Hfin.out]; rfl, Below.refl _ _⟩
      · have hp0 : 0 ≤ ((s[k]).toNat : Int) % 128 * U := Int.mul_nonneg (by omega) (by omega)
        have hp1 : ((s[k]).toNat : Int) % 128 * U ≤ 127 * 562949953421312 := Int.mul_le_mul (by omega) hU1 (by omega) (by omega)
        have hk2 : k < (bl s).length := by rw [bl_length]; exact hlt
        have hg := bl_get s k hlt
        have htk : (bl s).take (k + 1) = (bl s).take k ++ [s[k]] := by
          rw [List.getElem?_eq_getElem hk2] at hg
          rw [List.take_succ_eq_append_getElem hk2, Option.some.inj hg]
          rfl
        have hvs : N + ((s[k]).toNat : Int) % 128 * U = (val ((bl s).take (k + 1)) : Nat) := by
          rw [htk, val_snoc, List.length_take, bl_length, Nat.min_eq_left (by omega), HN.out, HU.out, Nat.mul_comm]
          push_cast
          rfl
        have Htk := Lib.hid htk
        have Hvs := Lib.hid hvs
        clear htk hvs hg
        by_cases hb : 128 ≤ (s[k]).toNat
        · go_wp2
          go_round
          case rel =>
            refine ⟨k + 1, N + ((s[k]).toNat : Int) % 128 * U, U * 128, by go_num, rfl, rfl, Hvs.out, ?_, by omega, by omega, ?_⟩
            · rw [HU.out, Nat.pow_succ]
              push_cast
              rfl
            · intro c hc
              rw [Htk.out, List.mem_append] at hc
              rcases hc with hc | hc
              · exact Hall.out c hc
              · simp only [List.mem_singleton] at hc
                rw [hc]
                exact hb
          case measure => simp [intOf]; omega
        · have hsp : bl s = (bl s).take k ++ s[k] :: (bl s).drop (k + 1) := by
            have := (List.take_append_drop k (bl s)).symm
            rw [bl_drop s k hlt] at this
            exact this
          have hfin := getNum_ref (r := (bl s).drop (k + 1)) Hall.out (show (s[k]).toNat < 128 by omega)
          rw [← hsp, ← Htk.out] at hfin
          obtain ⟨m, hm⟩ : ∃ m, m = val ((bl s).take (k + 1)) := ⟨_, rfl⟩
          have hMm : N + ((s[k]).toNat : Int) % 128 * U = (m : Int) := by rw [Hvs.out, hm]
          rw [← hm] at hfin
          have hex : bl (s.extract 0 (k + 1)) = (bl s).take (k + 1) := by rw [bl_extract]; rfl
          have hlen : ((bl s).take k).length + 1 = k + 1 := by rw [List.length_take, bl_length]; omega
          rw [hlen] at hfin
          by_cases hmx : m ≤ maxNum
          · have hNum : ∀ w, Calls Tryd.prog 73 #[.int .u64 (N + ((s[k]).toNat : Int) % 128 * U)] w fun e w' => e = .returned (.tuple #[.string (bsOf (num m)), .int .i64 0]) ∧ Below w.heap.size w w' := fun w => by
              rw [hMm]
              exact Num_ok w m hmx
            obtain ⟨T, hT⟩ : ∃ T, T = bsOf (num m) := ⟨_, rfl⟩
            rw [← hT] at hNum
            have HNum := Lib.hid hNum
            by_cases he : num m = (bl s).take (k + 1)
            · rw [if_pos ⟨hmx, he⟩] at hfin
              have hTe : T = s.extract 0 (k + 1) := by rw [hT, he, ← hex, bsOf_bl]
              have hres : numV (m, k + 1, 0) = .tuple #[.int .u64 (N + ((s[k]).toNat : Int) % 128 * U), .int .i64 ((k : Int) + 1), .int .i64 0] := by
                unfold numV
                simp only
                rw [hMm]
                rfl
              have Hfin := Lib.hid hfin
              have Hres := Lib.hid hres
              clear hNum hT he hfin hm hMm hres hex hsp hlen hmx
              subst hTe
              go_wp2_with fail
              refine (HNum.out _).mono ?_
              rintro e w' ⟨rfl, hb'⟩
              have HB := Lib.hid hb'
              clear hb'
              go_wp2
              go_ret3
              exact ⟨by rw [Hfin.out, Hres.out]; rfl, HB.out⟩
            · rw [if_neg (fun h => he h.2)] at hfin
              have hne := str_ne (s := T) (t := s.extract 0 (k + 1)) (fun h => he (by rw [← hex, ← h, hT, bl_bsOf]))
              have Hfin := Lib.hid hfin
              clear hNum hT he hfin hm hMm hex hsp hlen hmx
              go_wp2_with fail
              refine (HNum.out _).mono ?_
              rintro e w' ⟨rfl, hb'⟩
              have HB := Lib.hid hb'
              clear hb'
              go_wp2
              go_ret3
              exact ⟨by rw [Hfin.out]; rfl, HB.out⟩
          · have hNum : ∀ w, Calls Tryd.prog 73 #[.int .u64 (N + ((s[k]).toNat : Int) % 128 * U)] w fun e w' => e = .returned (.tuple #[.string ByteArray.empty, .int .i64 1]) ∧ w = w' := fun w => by
              rw [hMm]
              exact Num_no w m (by omega)
            have HNum := Lib.hid hNum
            rw [if_neg (fun h => hmx h.1)] at hfin
            have Hfin := Lib.hid hfin
            clear hNum hfin hm hMm hex hsp hlen hmx
            go_wp2_with fail
            refine (HNum.out _).mono ?_
            rintro e w' ⟨rfl, rfl⟩
            go_wp2
            go_ret3
            exact ⟨by rw [Hfin.out]; rfl, Below.refl _ _⟩
    · have hkz : k = s.size := by omega
      subst hkz
      rw [List.take_of_length_le (by rw [bl_length]; omega)] at Hall
      by_cases h7 : s.size = 7
      · have hfin : getNum (bl s) = (0, 0, 6) := getNum_code (fun c hc => Hall.out c (List.mem_of_mem_take hc)) (by rw [bl_length]; omega)
        have Hfin := Lib.hid hfin
        clear hfin
        go_wp2
        go_ret3
        exact ⟨by rw [Hfin.out]; rfl, Below.refl _ _⟩
      · have hfin : getNum (bl s) = (0, 0, 5) := getNum_short Hall.out (by rw [bl_length]; omega)
        have Hfin := Lib.hid hfin
        clear hfin
        go_wp2
        go_ret3
        exact ⟨by rw [Hfin.out]; rfl, Below.refl _ _⟩

end Go.Proofs.YtfodloepkgkilaaDoor.Ref1G
