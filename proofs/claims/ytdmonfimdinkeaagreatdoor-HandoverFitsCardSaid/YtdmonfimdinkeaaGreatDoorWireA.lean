/-
  WHAT IS PROVED: numbers, words, and small tests of the texts between servers. Condition: the variables hold what is said, and what each theorem names.
-/
import Derived.Test.YtdmonfimdinkeaaGreatDoorWireT
namespace Go.Proofs.YtdmonfimdinkeaaGreatDoor.WireA
open Go Go.RowKit Go.Shelf Go.Proofs.YtdmonfimdinkeaaGreatDoor Go.Proofs.YtdmonfimdinkeaaGreatDoor.OctetS Go.Proofs.YtdmonfimdinkeaaGreatDoor.IdentS Go.Proofs.YtdmonfimdinkeaaGreatDoor.EntS Go.Proofs.YtdmonfimdinkeaaGreatDoor.WireS Go.Proofs.YtdmonfimdinkeaaGreatDoor.OctP Go.Proofs.YtdmonfimdinkeaaGreatDoor.OctQ Go.Proofs.YtdmonfimdinkeaaGreatDoor.IdentP Go.Proofs.YtdmonfimdinkeaaGreatDoor.IdentR Go.Proofs.YtdmonfimdinkeaaGreatDoor.EventP Go.Proofs.YtdmonfimdinkeaaGreatDoor.EventC Go.Proofs.YtdmonfimdinkeaaGreatDoor.WireT
set_option linter.unusedVariables false
set_option linter.unusedSimpArgs false

theorem e_number (w : World) (s : ByteArray) (hs : s.size ≤ maxLen) : Calls Tryz.prog 60 #[.string s] w fun e w' => e = .returned (.int .i64 (numI 4096 (bl s))) ∧ w = w' := by
  obtain ⟨n, u, y, hg⟩ : ∃ n u y, getNum (bl s) = (n, u, y) := ⟨_, _, _, rfl⟩
  have hG := GetNum_at w s hs hg
  obtain ⟨z, hz⟩ : ∃ z, z = numI 4096 (bl s) := ⟨_, rfl⟩
  rw [← hz]
  have hcase : ((y != 0) = true ∧ z = -1) ∨ (y = 0 ∧ u < s.size ∧ z = -1) ∨ (y = 0 ∧ u = s.size ∧ 4096 < n ∧ n ≤ maxNum ∧ z = -1) ∨ (y = 0 ∧ u = s.size ∧ n ≤ 4096 ∧ z = n) := by
    rw [hz]
    rcases small_cases 4096 hg with ⟨h, h'⟩ | ⟨h, h1, h'⟩ | ⟨h, h1, h2, h3, h'⟩ | ⟨h, h1, h2, h3, h'⟩
    · exact .inl ⟨by simpa using h, numI_none h'⟩
    · exact .inr (.inl ⟨h, by rw [← bl_length]; exact h1, numI_none h'⟩)
    · exact .inr (.inr (.inl ⟨h, by rw [← bl_length]; exact h1, h2, h3, numI_none h'⟩))
    · exact .inr (.inr (.inr ⟨h, by rw [← bl_length]; exact h1, h2, numI_some h'⟩))
  have HG := Lib.hid hG
  clear hG hg hz
  unfold maxNum at hcase
  unfold maxLen at hs
  rcases hcase with ⟨hy, rfl⟩ | ⟨rfl, hy, rfl⟩ | ⟨rfl, rfl, hy, hn, rfl⟩ | ⟨rfl, rfl, hy, rfl⟩
  all_goals
    go_enter Tryz.func60, Tryz.ntmps60
    go_wp2_with fail
    refine HG.out.mono ?_
    rintro e w1 ⟨rfl, rfl⟩
    go_wp2
    go_ret
    exact ⟨rfl, rfl⟩

theorem h_number (w : World) (s : ByteArray) (hs : s.size ≤ maxLen) : Calls Tryz.prog 46 #[.string s] w fun e w' => e = .returned (.int .i64 (numI 4096 (bl s))) ∧ w = w' := by
  obtain ⟨n, u, y, hg⟩ : ∃ n u y, getNum (bl s) = (n, u, y) := ⟨_, _, _, rfl⟩
  have hG := GetNum_at w s hs hg
  obtain ⟨z, hz⟩ : ∃ z, z = numI 4096 (bl s) := ⟨_, rfl⟩
  rw [← hz]
  have hcase : ((y != 0) = true ∧ z = -1) ∨ (y = 0 ∧ u < s.size ∧ z = -1) ∨ (y = 0 ∧ u = s.size ∧ 4096 < n ∧ n ≤ maxNum ∧ z = -1) ∨ (y = 0 ∧ u = s.size ∧ n ≤ 4096 ∧ z = n) := by
    rw [hz]
    rcases small_cases 4096 hg with ⟨h, h'⟩ | ⟨h, h1, h'⟩ | ⟨h, h1, h2, h3, h'⟩ | ⟨h, h1, h2, h3, h'⟩
    · exact .inl ⟨by simpa using h, numI_none h'⟩
    · exact .inr (.inl ⟨h, by rw [← bl_length]; exact h1, numI_none h'⟩)
    · exact .inr (.inr (.inl ⟨h, by rw [← bl_length]; exact h1, h2, h3, numI_none h'⟩))
    · exact .inr (.inr (.inr ⟨h, by rw [← bl_length]; exact h1, h2, numI_some h'⟩))
  have HG := Lib.hid hG
  clear hG hg hz
  unfold maxNum at hcase
  unfold maxLen at hs
  rcases hcase with ⟨hy, rfl⟩ | ⟨rfl, hy, rfl⟩ | ⟨rfl, rfl, hy, hn, rfl⟩ | ⟨rfl, rfl, hy, rfl⟩
  all_goals
    go_enter Tryz.func46, Tryz.ntmps46
    go_wp2_with fail
    refine HG.out.mono ?_
    rintro e w1 ⟨rfl, rfl⟩
    go_wp2
    go_ret
    exact ⟨rfl, rfl⟩

theorem d_number (w : World) (s : ByteArray) (hs : s.size ≤ maxLen) : Calls Tryz.prog 56 #[.string s] w fun e w' => e = .returned (.int .i64 (numI 4096 (bl s))) ∧ w = w' := by
  obtain ⟨n, u, y, hg⟩ : ∃ n u y, getNum (bl s) = (n, u, y) := ⟨_, _, _, rfl⟩
  have hG := GetNum_at w s hs hg
  obtain ⟨z, hz⟩ : ∃ z, z = numI 4096 (bl s) := ⟨_, rfl⟩
  rw [← hz]
  have hcase : ((y != 0) = true ∧ z = -1) ∨ (y = 0 ∧ u < s.size ∧ z = -1) ∨ (y = 0 ∧ u = s.size ∧ 4096 < n ∧ n ≤ maxNum ∧ z = -1) ∨ (y = 0 ∧ u = s.size ∧ n ≤ 4096 ∧ z = n) := by
    rw [hz]
    rcases small_cases 4096 hg with ⟨h, h'⟩ | ⟨h, h1, h'⟩ | ⟨h, h1, h2, h3, h'⟩ | ⟨h, h1, h2, h3, h'⟩
    · exact .inl ⟨by simpa using h, numI_none h'⟩
    · exact .inr (.inl ⟨h, by rw [← bl_length]; exact h1, numI_none h'⟩)
    · exact .inr (.inr (.inl ⟨h, by rw [← bl_length]; exact h1, h2, h3, numI_none h'⟩))
    · exact .inr (.inr (.inr ⟨h, by rw [← bl_length]; exact h1, h2, numI_some h'⟩))
  have HG := Lib.hid hG
  clear hG hg hz
  unfold maxNum at hcase
  unfold maxLen at hs
  rcases hcase with ⟨hy, rfl⟩ | ⟨rfl, hy, rfl⟩ | ⟨rfl, rfl, hy, hn, rfl⟩ | ⟨rfl, rfl, hy, rfl⟩
  all_goals
    go_enter Tryz.func56, Tryz.ntmps56
    go_wp2_with fail
    refine HG.out.mono ?_
    rintro e w1 ⟨rfl, rfl⟩
    go_wp2
    go_ret
    exact ⟨rfl, rfl⟩

theorem h_place (w : World) (n : Int) : Calls Tryz.prog 50 #[.int .i64 n] w fun e w' => e = .returned (.bool (placeB n)) ∧ w = w' := by
  by_cases h0 : 0 ≤ n
  · go_enter Tryz.func50, Tryz.ntmps50
    go_wp2
    go_ret
    exact ⟨by simp [placeB, h0], rfl⟩
  · have h1 : decide (0 ≤ n) = false := by simpa using h0
    go_enter Tryz.func50, Tryz.ntmps50
    go_wp2
    go_ret
    exact ⟨by simp [placeB, h1], rfl⟩
/-- The deals' words, by number. -/
def wordDn (k : Nat) : List UInt8 := wordD k
theorem kindD_le (s : List UInt8) : kindD s = 0 ∨ kindD s = 1 ∨ kindD s = 2 := by
  unfold kindD
  split
  · exact .inr (.inl rfl)
  · split
    · exact .inr (.inr rfl)
    · exact .inl rfl
theorem w_kind_miss {s : List UInt8} (h : ∀ j, 1 ≤ j → j < 8 → WireS.wordN j ≠ s) : kindM s = 0 := by
  unfold kindM
  rw [if_neg (fun h' => h 1 (by omega) (by omega) h'.symm), if_neg (fun h' => h 2 (by omega) (by omega) h'.symm), if_neg (fun h' => h 3 (by omega) (by omega) h'.symm), if_neg (fun h' => h 4 (by omega) (by omega) h'.symm), if_neg (fun h' => h 5 (by omega) (by omega) h'.symm), if_neg (fun h' => h 6 (by omega) (by omega) h'.symm), if_neg (fun h' => h 7 (by omega) (by omega) h'.symm)]
theorem d_kind_hit {s : List UInt8} {k : Nat} (h1 : 1 ≤ k) (h9 : k < 3) (hlt : ∀ j, 1 ≤ j → j < k → wordDn j ≠ s) (h : wordDn k = s) : kindD s = k := by
  have hk : k = 1 ∨ k = 2 := by omega
  subst h
  rcases hk with rfl | rfl <;> decide
theorem d_kind_miss {s : List UInt8} (h : ∀ j, 1 ≤ j → j < 3 → wordDn j ≠ s) : kindD s = 0 := by
  unfold kindD
  rw [if_neg (fun h' => h 1 (by omega) (by omega) h'.symm), if_neg (fun h' => h 2 (by omega) (by omega) h'.symm)]
end Go.Proofs.YtdmonfimdinkeaaGreatDoor.WireA
