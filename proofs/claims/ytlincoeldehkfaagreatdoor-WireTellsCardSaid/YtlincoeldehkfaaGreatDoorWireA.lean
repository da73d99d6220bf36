/-
  WHAT IS PROVED: numbers, words, and small tests of the texts between servers. Condition: the variables hold what is said, and what each theorem names.
-/
import Derived.Test.YtlincoeldehkfaaGreatDoorWireT
import Derived.Test.YtlincoeldehkfaaGreatDoorOct
import Derived.Test.YtlincoeldehkfaaGreatDoorIdent
namespace Go.Proofs.YtlincoeldehkfaaGreatDoor.WireA
open Go Go.RowKit Go.Shelf Go.Proofs.YtlincoeldehkfaaGreatDoor Go.Proofs.YtlincoeldehkfaaGreatDoor.OctetS Go.Proofs.YtlincoeldehkfaaGreatDoor.IdentS Go.Proofs.YtlincoeldehkfaaGreatDoor.EntS Go.Proofs.YtlincoeldehkfaaGreatDoor.WireS Go.Proofs.YtlincoeldehkfaaGreatDoor.OctP Go.Proofs.YtlincoeldehkfaaGreatDoor.OctQ Go.Proofs.YtlincoeldehkfaaGreatDoor.IdentP Go.Proofs.YtlincoeldehkfaaGreatDoor.IdentR Go.Proofs.YtlincoeldehkfaaGreatDoor.EventP Go.Proofs.YtlincoeldehkfaaGreatDoor.EventC Go.Proofs.YtlincoeldehkfaaGreatDoor.WireT
set_option linter.unusedVariables false
set_option linter.unusedSimpArgs false

theorem e_number (w : World) (s : ByteArray) (hs : s.size ≤ maxLen) : Calls Tryz.prog 69 #[.string s] w fun e w' => e = .returned (.int .i64 (numI 4096 (bl s))) ∧ w = w' := by
  obtain ⟨n, u, y, hg⟩ : ∃ n u y, getNum (bl s) = (n, u, y) := ⟨_, _, _, rfl⟩
  have hG := GetNum_at w s hs hg
  obtain ⟨z, hz⟩ : ∃ z, z = numI 4096 (bl s) := ⟨_, rfl⟩
  rw [← hz]
  have hcase : ((y != 0) = true ∧ z = -1) ∨ (y = 0 ∧ u < s.size ∧ z = -1) ∨ (y = 0 ∧ u = s.size ∧ 4096 < n ∧ n ≤ maxNum ∧ z = -1) ∨ (y = 0 ∧ u = s.size ∧ n ≤ 4096 ∧ z = n) := by
    rw [hz]
    rcases small_cases 4096 hg with ⟨h, h'⟩ | ⟨h, h1, h'⟩ | ⟨h, h1, h2, h3, h'⟩ | ⟨h, h1, h2, h3, h'⟩
    · exact .inl ⟨by simpa using h, numI_none h'⟩
    · exact .inr (.inl ⟨h, by rw [← bl_length]; exact h1, numI_none h'⟩)
    · exact .inr (.inr (.inl ⟨h, by rw [← bl_length]; exact h1, h2, h3, numI_none h'⟩))
    · exact .inr (.inr (.inr ⟨h, by rw [← bl_length]; exact h1, h2, numI_some h'⟩))
  have HG := Lib.hid hG
  clear hG hg hz
  unfold maxNum at hcase
  unfold maxLen at hs
  rcases hcase with ⟨hy, rfl⟩ | ⟨rfl, hy, rfl⟩ | ⟨rfl, rfl, hy, hn, rfl⟩ | ⟨rfl, rfl, hy, rfl⟩
  all_goals
    go_enter Tryz.func69, Tryz.ntmps69
    go_wp2_with fail
    refine HG.out.mono ?_
    rintro e w1 ⟨rfl, rfl⟩
    go_wp2
    go_ret
    exact ⟨rfl, rfl⟩


theorem h_number (w : World) (s : ByteArray) (hs : s.size ≤ maxLen) : Calls Tryz.prog 71 #[.string s] w fun e w' => e = .returned (.int .i64 (numI 4096 (bl s))) ∧ w = w' := by
  obtain ⟨n, u, y, hg⟩ : ∃ n u y, getNum (bl s) = (n, u, y) := ⟨_, _, _, rfl⟩
  have hG := GetNum_at w s hs hg
  obtain ⟨z, hz⟩ : ∃ z, z = numI 4096 (bl s) := ⟨_, rfl⟩
  rw [← hz]
  have hcase : ((y != 0) = true ∧ z = -1) ∨ (y = 0 ∧ u < s.size ∧ z = -1) ∨ (y = 0 ∧ u = s.size ∧ 4096 < n ∧ n ≤ maxNum ∧ z = -1) ∨ (y = 0 ∧ u = s.size ∧ n ≤ 4096 ∧ z = n) := by
    rw [hz]
    rcases small_cases 4096 hg with ⟨h, h'⟩ | ⟨h, h1, h'⟩ | ⟨h, h1, h2, h3, h'⟩ | ⟨h, h1, h2, h3, h'⟩
    · exact .inl ⟨by simpa using h, numI_none h'⟩
    · exact .inr (.inl ⟨h, by rw [← bl_length]; exact h1, numI_none h'⟩)
    · exact .inr (.inr (.inl ⟨h, by rw [← bl_length]; exact h1, h2, h3, numI_none h'⟩))
    · exact .inr (.inr (.inr ⟨h, by rw [← bl_length]; exact h1, h2, numI_some h'⟩))
  have HG := Lib.hid hG
  clear hG hg hz
  unfold maxNum at hcase
  unfold maxLen at hs
  rcases hcase with ⟨hy, rfl⟩ | ⟨rfl, hy, rfl⟩ | ⟨rfl, rfl, hy, hn, rfl⟩ | ⟨rfl, rfl, hy, rfl⟩
  all_goals
    go_enter Tryz.func71, Tryz.ntmps71
    go_wp2_with fail
    refine HG.out.mono ?_
    rintro e w1 ⟨rfl, rfl⟩
    go_wp2
    go_ret
    exact ⟨rfl, rfl⟩


theorem d_number (w : World) (s : ByteArray) (hs : s.size ≤ maxLen) : Calls Tryz.prog 56 #[.string s] w fun e w' => e = .returned (.int .i64 (numI 4096 (bl s))) ∧ w = w' := by
  obtain ⟨n, u, y, hg⟩ : ∃ n u y, getNum (bl s) = (n, u, y) := ⟨_, _, _, rfl⟩
  have hG := GetNum_at w s hs hg
  obtain ⟨z, hz⟩ : ∃ z, z = numI 4096 (bl s) := ⟨_, rfl⟩
  rw [← hz]
  have hcase : ((y != 0) = true ∧ z = -1) ∨ (y = 0 ∧ u < s.size ∧ z = -1) ∨ (y = 0 ∧ u = s.size ∧ 4096 < n ∧ n ≤ maxNum ∧ z = -1) ∨ (y = 0 ∧ u = s.size ∧ n ≤ 4096 ∧ z = n) := by
    rw [hz]
    rcases small_cases 4096 hg with ⟨h, h'⟩ | ⟨h, h1, h'⟩ | ⟨h, h1, h2, h3, h'⟩ | ⟨h, h1, h2, h3, h'⟩
    · exact .inl ⟨by simpa using h, numI_none h'⟩
    · exact .inr (.inl ⟨h, by rw [← bl_length]; exact h1, numI_none h'⟩)
    · exact .inr (.inr (.inl ⟨h, by rw [← bl_length]; exact h1, h2, h3, numI_none h'⟩))
    · exact .inr (.inr (.inr ⟨h, by rw [← bl_length]; exact h1, h2, numI_some h'⟩))
  have HG := Lib.hid hG
  clear hG hg hz
  unfold maxNum at hcase
  unfold maxLen at hs
  rcases hcase with ⟨hy, rfl⟩ | ⟨rfl, hy, rfl⟩ | ⟨rfl, rfl, hy, hn, rfl⟩ | ⟨rfl, rfl, hy, rfl⟩
  all_goals
    go_enter Tryz.func56, Tryz.ntmps56
    go_wp2_with fail
    refine HG.out.mono ?_
    rintro e w1 ⟨rfl, rfl⟩
    go_wp2
    go_ret
    exact ⟨rfl, rfl⟩


theorem w_number (w : World) (s : ByteArray) (hs : s.size ≤ maxLen) (m : Int) (k : Nat) (hm : m = k) (hk : k ≤ 4096) : Calls Tryz.prog 27 #[.string s, .int .u64 m] w fun e w' => e = .returned (.int .i64 (numI k (bl s))) ∧ w = w' := by
  subst hm
  obtain ⟨n, u, y, hg⟩ : ∃ n u y, getNum (bl s) = (n, u, y) := ⟨_, _, _, rfl⟩
  have hG := GetNum_at w s hs hg
  obtain ⟨z, hz⟩ : ∃ z, z = numI k (bl s) := ⟨_, rfl⟩
  rw [← hz]
  have hcase : ((y != 0) = true ∧ z = -1) ∨ (y = 0 ∧ u < s.size ∧ z = -1) ∨ (y = 0 ∧ u = s.size ∧ k < n ∧ n ≤ maxNum ∧ z = -1) ∨ (y = 0 ∧ u = s.size ∧ n ≤ k ∧ z = n) := by
    rw [hz]
    rcases small_cases k hg with ⟨h, h'⟩ | ⟨h, h1, h'⟩ | ⟨h, h1, h2, h3, h'⟩ | ⟨h, h1, h2, h3, h'⟩
    · exact .inl ⟨by simpa using h, numI_none h'⟩
    · exact .inr (.inl ⟨h, by rw [← bl_length]; exact h1, numI_none h'⟩)
    · exact .inr (.inr (.inl ⟨h, by rw [← bl_length]; exact h1, h2, h3, numI_none h'⟩))
    · exact .inr (.inr (.inr ⟨h, by rw [← bl_length]; exact h1, h2, numI_some h'⟩))
  have HG := Lib.hid hG
  clear hG hg hz
  unfold maxNum at hcase
  unfold maxLen at hs
  rcases hcase with ⟨hy, rfl⟩ | ⟨rfl, hy, rfl⟩ | ⟨rfl, rfl, hy, hn, rfl⟩ | ⟨rfl, rfl, hy, rfl⟩
  all_goals
    go_enter Tryz.func27, Tryz.ntmps27
    go_wp2_with fail
    refine HG.out.mono ?_
    rintro e w1 ⟨rfl, rfl⟩
    go_wp2
    go_ret
    exact ⟨rfl, rfl⟩


theorem h_place (w : World) (n : Int) : Calls Tryz.prog 84 #[.int .i64 n] w fun e w' => e = .returned (.bool (placeB n)) ∧ w = w' := by
  by_cases h0 : 0 ≤ n
  · go_enter Tryz.func84, Tryz.ntmps84
    go_wp2
    go_ret
    exact ⟨by simp [placeB, h0], rfl⟩
  · have h1 : decide (0 ≤ n) = false := by simpa using h0
    go_enter Tryz.func84, Tryz.ntmps84
    go_wp2
    go_ret
    exact ⟨by simp [placeB, h1], rfl⟩
theorem server_ok (w : World) (n : Int) : Calls Tryz.prog 30 #[.int .i64 n] w fun e w' => e = .returned (.bool (serverB n)) ∧ w = w' := by
  by_cases h0 : 0 ≤ n
  · go_enter Tryz.func30, Tryz.ntmps30
    go_wp2
    go_ret
    exact ⟨by simp [serverB, h0], rfl⟩
  · have h1 : decide (0 ≤ n) = false := by simpa using h0
    go_enter Tryz.func30, Tryz.ntmps30
    go_wp2
    go_ret
    exact ⟨by simp [serverB, h1], rfl⟩
/-- A question's body, or why there is none. -/
def askV (n : Int) : Value := if 0 ≤ n ∧ n ≤ 4096 then .tuple #[.string (bsOf (num n.toNat)), .int .i64 0] else .tuple #[.string ⟨#[]⟩, .int .i64 1]
theorem Ask_ok (w : World) (n : Int) : Calls Tryz.prog 14 #[.int .i64 n] w (RB (askV n) w) := by
  unfold askV
  by_cases h : 0 ≤ n ∧ n ≤ 4096
  · rw [if_pos h]
    obtain ⟨h0, h1⟩ := h
    obtain ⟨m, rfl⟩ : ∃ m : Nat, n = m := ⟨n.toNat, by omega⟩
    rw [Int.toNat_natCast]
    have HN := Lib.hid (Num_ok w m (by unfold maxNum; omega))
    go_enter Tryz.func14, Tryz.ntmps14
    go_wp2_with fail
    refine HN.out.mono ?_
    rintro e w1 ⟨rfl, hb⟩
    go_wp2
    go_ret2
    exact ⟨rfl, hb⟩
  · rw [if_neg h]
    by_cases h0 : 0 ≤ n
    · have h1 : 4096 < n := by omega
      clear h
      go_enter Tryz.func14, Tryz.ntmps14
      go_wp2
      go_ret2
      exact ⟨rfl, Below.refl _ _⟩
    · have h1 : n < 0 := by omega
      clear h h0
      go_enter Tryz.func14, Tryz.ntmps14
      go_wp2
      go_ret2
      exact ⟨rfl, Below.refl _ _⟩
/-- What a question asks for. -/
def askedV (o : Option Nat) : Value := match o with
  | some n => .tuple #[.int .i64 n, .int .i64 0]
  | none => .tuple #[.int .i64 0, .int .i64 6]
theorem Asked_ok (w : World) (s : ByteArray) (hs : s.size ≤ maxLen) : Calls Tryz.prog 18 #[.string s] w fun e w' => e = .returned (askedV (asked (bl s))) ∧ w = w' := by
  have HN := Lib.hid (w_number w s hs 4096 4096 rfl (Nat.le_refl _))
  unfold asked
  cases h : small 4096 (bl s) with
  | none =>
    rw [numI_none h] at HN
    clear h
    go_enter Tryz.func18, Tryz.ntmps18
    go_wp2_with fail
    refine HN.out.mono ?_
    rintro e w1 ⟨rfl, rfl⟩
    go_wp2
    go_ret2
    exact ⟨rfl, rfl⟩
  | some n =>
    rw [numI_some h] at HN
    clear h
    go_enter Tryz.func18, Tryz.ntmps18
    go_wp2_with fail
    refine HN.out.mono ?_
    rintro e w1 ⟨rfl, rfl⟩
    go_wp2
    go_ret2
    exact ⟨rfl, rfl⟩

/-- The deals' words, by number. -/
def wordDn (k : Nat) : List UInt8 := wordD k
theorem kindD_le (s : List UInt8) : kindD s = 0 ∨ kindD s = 1 ∨ kindD s = 2 := by
  unfold kindD
  split
  · exact .inr (.inl rfl)
  · split
    · exact .inr (.inr rfl)
    · exact .inl rfl
/-- What the package-level variables hold. -/
structure VarsW (w : World) : Prop where
  e : VarsE w
  ww : ∀ k : Nat, k < 8 → w.cell? ⟨0, k, none⟩ = some (.string (bsOf (WireS.wordN k)))
  hw : ∀ k : Nat, k < 3 → w.cell? ⟨2, k, none⟩ = some (.string (bsOf (wordDn k)))
theorem VarsW.below {w w' : World} (h : VarsW w) (hb : Below w.heap.size w w') : VarsW w' :=
  ⟨h.e.below hb, fun k hk => Steps.below_cell hb (h.ww k hk), fun k hk => Steps.below_cell hb (h.hw k hk)⟩

theorem w_kind_hit {s : List UInt8} {k : Nat} (h1 : 1 ≤ k) (h9 : k < 8) (hlt : ∀ j, 1 ≤ j → j < k → WireS.wordN j ≠ s) (h : WireS.wordN k = s) : kindM s = k := by
  have hk : k = 1 ∨ k = 2 ∨ k = 3 ∨ k = 4 ∨ k = 5 ∨ k = 6 ∨ k = 7 := by omega
  subst h
  rcases hk with rfl | rfl | rfl | rfl | rfl | rfl | rfl <;> decide
theorem w_kind_miss {s : List UInt8} (h : ∀ j, 1 ≤ j → j < 8 → WireS.wordN j ≠ s) : kindM s = 0 := by
  unfold kindM
  rw [if_neg (fun h' => h 1 (by omega) (by omega) h'.symm), if_neg (fun h' => h 2 (by omega) (by omega) h'.symm), if_neg (fun h' => h 3 (by omega) (by omega) h'.symm), if_neg (fun h' => h 4 (by omega) (by omega) h'.symm), if_neg (fun h' => h 5 (by omega) (by omega) h'.symm), if_neg (fun h' => h 6 (by omega) (by omega) h'.symm), if_neg (fun h' => h 7 (by omega) (by omega) h'.symm)]
set_option maxHeartbeats 1000000 in
theorem w_kind_ok (w : World) (s : ByteArray) (hv : VarsW w) : Calls Tryz.prog 26 #[.string s] w fun e w' => e = .returned (.int .u8 (kindM (bl s))) ∧ w = w' := by
  have HV := Lib.hid hv.ww
  clear hv
  go_enter Tryz.func26, Tryz.ntmps26
  go_wp2
  go_loop [3] (fun i => ∃ k : Nat, i = .int .u8 k ∧ 1 ≤ k ∧ k ≤ 8 ∧ ∀ j, 1 ≤ j → j < k → WireS.wordN j ≠ bl s) (fun i => 8 - (intOf i).toNat)
  case atStart => exact ⟨1, rfl, by omega, by omega, fun j h1 h2 => by omega⟩
  case round =>
    obtain ⟨k, rfl, hk1, hk9, hall⟩ := hrel
    have Hall := Lib.hid hall
    clear hall
    by_cases hlt : k < 8
    · have hc := HV.out k hlt
      by_cases he : WireS.wordN k = bl s
      · have hb : (bsOf (WireS.wordN k)).toList == s.toList := by rw [he, bsOf_bl]; simp
        have hb' : ((bsOf (WireS.wordN k)).toList == s.toList) = true := hb
        have hfin := w_kind_hit hk1 hlt Hall.out he
        have Hfin := Lib.hid hfin
        clear hfin he hb
        obtain ⟨wd, hwd⟩ : ∃ wd, wd = bsOf (WireS.wordN k) := ⟨_, rfl⟩
        rw [← hwd] at hc hb'
        clear hwd
        go_wp2
        go_ret
        exact ⟨by rw [Hfin.out]; rfl, rfl⟩
      · have hb' : ((bsOf (WireS.wordN k)).toList == s.toList) = false := str_ne (fun h => he (by have := congrArg bl h; rw [bl_bsOf] at this; exact this))
        have hnx : ∀ j, 1 ≤ j → j < k + 1 → WireS.wordN j ≠ bl s := fun j h1 h2 => by
          by_cases hj : j = k
          · rw [hj]; exact he
          · exact Hall.out j h1 (by omega)
        have Hnx := Lib.hid hnx
        clear he hnx
        obtain ⟨wd, hwd⟩ : ∃ wd, wd = bsOf (WireS.wordN k) := ⟨_, rfl⟩
        rw [← hwd] at hc hb'
        clear hwd
        go_wp2
        go_round
        case rel => exact ⟨k + 1, by go_num, by omega, by omega, Hnx.out⟩
        case measure => simp [intOf]; omega
    · obtain rfl : k = 8 := by omega
      have hfin := w_kind_miss Hall.out
      have Hfin := Lib.hid hfin
      clear hfin
      go_wp2
      go_ret
      exact ⟨by rw [Hfin.out]; rfl, rfl⟩

theorem d_kind_hit {s : List UInt8} {k : Nat} (h1 : 1 ≤ k) (h9 : k < 3) (hlt : ∀ j, 1 ≤ j → j < k → wordDn j ≠ s) (h : wordDn k = s) : kindD s = k := by
  have hk : k = 1 ∨ k = 2 := by omega
  subst h
  rcases hk with rfl | rfl <;> decide
theorem d_kind_miss {s : List UInt8} (h : ∀ j, 1 ≤ j → j < 3 → wordDn j ≠ s) : kindD s = 0 := by
  unfold kindD
  rw [if_neg (fun h' => h 1 (by omega) (by omega) h'.symm), if_neg (fun h' => h 2 (by omega) (by omega) h'.symm)]
set_option maxHeartbeats 1000000 in
theorem d_kind_ok (w : World) (s : ByteArray) (hv : VarsW w) : Calls Tryz.prog 55 #[.string s] w fun e w' => e = .returned (.int .u8 (kindD (bl s))) ∧ w = w' := by
  have HV := Lib.hid hv.hw
  clear hv
  go_enter Tryz.func55, Tryz.ntmps55
  go_wp2
  go_loop [3] (fun i => ∃ k : Nat, i = .int .u8 k ∧ 1 ≤ k ∧ k ≤ 3 ∧ ∀ j, 1 ≤ j → j < k → wordDn j ≠ bl s) (fun i => 3 - (intOf i).toNat)
  case atStart => exact ⟨1, rfl, by omega, by omega, fun j h1 h2 => by omega⟩
  case round =>
    obtain ⟨k, rfl, hk1, hk9, hall⟩ := hrel
    have Hall := Lib.hid hall
    clear hall
    by_cases hlt : k < 3
    · have hc := HV.out k hlt
      by_cases he : wordDn k = bl s
      · have hb : (bsOf (wordDn k)).toList == s.toList := by rw [he, bsOf_bl]; simp
        have hb' : ((bsOf (wordDn k)).toList == s.toList) = true := hb
        have hfin := d_kind_hit hk1 hlt Hall.out he
        have Hfin := Lib.hid hfin
        clear hfin he hb
        obtain ⟨wd, hwd⟩ : ∃ wd, wd = bsOf (wordDn k) := ⟨_, rfl⟩
        rw [← hwd] at hc hb'
        clear hwd
        go_wp2
        go_ret
        exact ⟨by rw [Hfin.out]; rfl, rfl⟩
      · have hb' : ((bsOf (wordDn k)).toList == s.toList) = false := str_ne (fun h => he (by have := congrArg bl h; rw [bl_bsOf] at this; exact this))
        have hnx : ∀ j, 1 ≤ j → j < k + 1 → wordDn j ≠ bl s := fun j h1 h2 => by
          by_cases hj : j = k
          · rw [hj]; exact he
          · exact Hall.out j h1 (by omega)
        have Hnx := Lib.hid hnx
        clear he hnx
        obtain ⟨wd, hwd⟩ : ∃ wd, wd = bsOf (wordDn k) := ⟨_, rfl⟩
        rw [← hwd] at hc hb'
        clear hwd
        go_wp2
        go_round
        case rel => exact ⟨k + 1, by go_num, by omega, by omega, Hnx.out⟩
        case measure => simp [intOf]; omega
    · obtain rfl : k = 3 := by omega
      have hfin := d_kind_miss Hall.out
      have Hfin := Lib.hid hfin
      clear hfin
      go_wp2
      go_ret
      exact ⟨by rw [Hfin.out]; rfl, rfl⟩

end Go.Proofs.YtlincoeldehkfaaGreatDoor.WireA
