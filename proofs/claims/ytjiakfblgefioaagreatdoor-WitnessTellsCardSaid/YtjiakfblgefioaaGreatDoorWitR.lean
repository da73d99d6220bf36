/-
  WHAT IS PROVED: what the document's small functions of the scripts answer. Condition: none.
-/
import Derived.Test.YtjiakfblgefioaaGreatDoorWitS
import Derived.Test.YtjiakfblgefioaaGreatDoorEntR
import Derived.Test.YtjiakfblgefioaaGreatDoorEvR
namespace Go.Proofs.YtjiakfblgefioaaGreatDoor.WitR
open Go Go.RowKit Go.Shelf Go.Proofs.YtjiakfblgefioaaGreatDoor Go.Proofs.YtjiakfblgefioaaGreatDoor.OctetS Go.Proofs.YtjiakfblgefioaaGreatDoor.IdentS Go.Proofs.YtjiakfblgefioaaGreatDoor.EventS Go.Proofs.YtjiakfblgefioaaGreatDoor.EntS Go.Proofs.YtjiakfblgefioaaGreatDoor.OctP Go.Proofs.YtjiakfblgefioaaGreatDoor.OctQ Go.Proofs.YtjiakfblgefioaaGreatDoor.IdentP Go.Proofs.YtjiakfblgefioaaGreatDoor.IdentR Go.Proofs.YtjiakfblgefioaaGreatDoor.EventP Go.Proofs.YtjiakfblgefioaaGreatDoor.EventC Go.Proofs.YtjiakfblgefioaaGreatDoor.EventB Go.Proofs.YtjiakfblgefioaaGreatDoor.EntP Go.Proofs.YtjiakfblgefioaaGreatDoor.RowsX Go.Proofs.YtjiakfblgefioaaGreatDoor.WitS
set_option linter.unusedVariables false
set_option linter.unusedSimpArgs false

set_option maxRecDepth 100000 in
set_option maxHeartbeats 4000000 in
theorem setup_ok (w : World) (l h : Int) : Calls Tryz.prog 27 #[.int .u64 l, .int .i64 h] w (RB (setV l h) w) := by
  go_enter Tryz.func27, Tryz.ntmps27
  go_wp2
  exact bodyPost_ret (v := setV l h) (by simp [results, Tryz.results27, go_sem, setV]) rfl ⟨rfl, (Below.refl _ w).alloc (Nat.le_refl _) _⟩

set_option maxRecDepth 100000 in
set_option maxHeartbeats 4000000 in
theorem bytes_ok (w : World) (k : Int) (ky b : ByteArray) (n : Int) (h0 : 0 ≤ k) (h1 : k ≤ 255) (hk : ky.size ≤ 140737488351232) (hb : b.size ≤ maxLen) :
    Calls Tryz.prog 31 #[.int .u8 k, .string ky, .string b, .int .i64 n] w (RB (.string (tx k ky b n)) w) := by
  have hB := fun w => EvRB.Bytes_ok w roomT userT k ky b n h0 h1 (by decide +kernel) (by decide +kernel) hk hb
  unfold evV at hB
  unfold tx
  have HB := Lib.hid hB
  clear hB hk hb h0 h1
  go_enter Tryz.func31, Tryz.ntmps31
  go_wp2_with fail
  refine (HB.out w).mono ?_
  rintro e w1 ⟨rfl, hb⟩
  have HB1 := Lib.hid hb
  clear hb
  go_wp2
  go_ret
  exact ⟨rfl, HB1.out⟩

set_option maxRecDepth 100000 in
set_option maxHeartbeats 4000000 in
theorem nth_ok (w : World) (k : Int) : Calls Tryz.prog 25 #[.int .i64 k] w (RB (.string (nthT k)) w) := by
  have hT1 := bytes_ok w 1 ⟨#[]⟩ ⟨#[]⟩ 0 (by omega) (by omega) (by decide +kernel) (by decide +kernel)
  have hT2 := bytes_ok w 2 userT joinT 0 (by omega) (by omega) (by decide +kernel) (by decide +kernel)
  have hT3 := bytes_ok w 6 ⟨#[]⟩ sayT k (by omega) (by omega) (by decide +kernel) (by decide +kernel)
  unfold nthT
  have HT1 := Lib.hid hT1
  have HT2 := Lib.hid hT2
  have HT3 := Lib.hid hT3
  clear hT1 hT2 hT3
  by_cases h1 : k = 1
  · subst h1
    rw [if_pos rfl]
    clear HT2 HT3
    go_enter Tryz.func25, Tryz.ntmps25
    go_wp2_with fail
    refine HT1.out.mono ?_
    rintro e w1 ⟨rfl, hb⟩
    have HB1 := Lib.hid hb
    clear hb
    go_wp2
    go_ret
    exact ⟨rfl, HB1.out⟩
  · rw [if_neg h1]
    have e1 : (k == 1) = false := by simp [h1]
    by_cases h2 : k = 2
    · subst h2
      rw [if_pos rfl]
      clear HT1 HT3 h1
      go_enter Tryz.func25, Tryz.ntmps25
      go_wp2_with fail
      refine HT2.out.mono ?_
      rintro e w1 ⟨rfl, hb⟩
      have HB1 := Lib.hid hb
      clear hb
      go_wp2
      go_ret
      exact ⟨rfl, HB1.out⟩
    · rw [if_neg h2]
      have e2 : (k == 2) = false := by simp [h2]
      clear HT1 HT2 h1 h2
      go_enter Tryz.func25, Tryz.ntmps25
      go_wp2_with fail
      refine HT3.out.mono ?_
      rintro e w1 ⟨rfl, hb⟩
      have HB1 := Lib.hid hb
      clear hb
      go_wp2
      go_ret
      exact ⟨rfl, HB1.out⟩

set_option maxRecDepth 100000 in
set_option maxHeartbeats 4000000 in
theorem client_ok (w : World) (t : ByteArray) : Calls Tryz.prog 24 #[.string t] w (RB (.agg #[.int .u8 1, .int .i64 0, .int .i64 0, .string t, .int .u8 0]) w) := by
  go_enter Tryz.func24, Tryz.ntmps24
  go_wp2
  exact bodyPost_ret (v := .agg #[.int .u8 1, .int .i64 0, .int .i64 0, .string t, .int .u8 0]) (by simp [results, Tryz.results24, go_sem]) rfl ⟨rfl, (Below.refl _ w).alloc (Nat.le_refl _) _⟩

set_option maxRecDepth 100000 in
set_option maxHeartbeats 4000000 in
theorem deliver_ok (w : World) (i : Int) : Calls Tryz.prog 26 #[.int .i64 i] w (RB (.agg #[.int .u8 6, .int .i64 0, .int .i64 i, .string ⟨#[]⟩, .int .u8 0]) w) := by
  go_enter Tryz.func26, Tryz.ntmps26
  go_wp2
  exact bodyPost_ret (v := .agg #[.int .u8 6, .int .i64 0, .int .i64 i, .string ⟨#[]⟩, .int .u8 0]) (by simp [results, Tryz.results26, go_sem]) rfl ⟨rfl, (Below.refl _ w).alloc (Nat.le_refl _) _⟩


end Go.Proofs.YtjiakfblgefioaaGreatDoor.WitR
