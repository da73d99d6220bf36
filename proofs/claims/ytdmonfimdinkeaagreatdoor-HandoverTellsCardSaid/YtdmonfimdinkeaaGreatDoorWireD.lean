/-
  WHAT IS PROVED: the deal of bytes, or none, and the proof of bytes, or none. Condition: the variables hold what is said, and what each theorem names.
-/
import Derived.Test.YtdmonfimdinkeaaGreatDoorWrC
import Derived.Test.YtdmonfimdinkeaaGreatDoorDlV
import Derived.LoopN
namespace Go.Proofs.YtdmonfimdinkeaaGreatDoor.WireD
open Go Go.RowKit Go.Shelf Go.Proofs.YtdmonfimdinkeaaGreatDoor Go.Proofs.YtdmonfimdinkeaaGreatDoor.OctetS Go.Proofs.YtdmonfimdinkeaaGreatDoor.IdentS Go.Proofs.YtdmonfimdinkeaaGreatDoor.EntS Go.Proofs.YtdmonfimdinkeaaGreatDoor.WireS Go.Proofs.YtdmonfimdinkeaaGreatDoor.OctG Go.Proofs.YtdmonfimdinkeaaGreatDoor.OctP Go.Proofs.YtdmonfimdinkeaaGreatDoor.OctQ Go.Proofs.YtdmonfimdinkeaaGreatDoor.OctA Go.Proofs.YtdmonfimdinkeaaGreatDoor.IdentP Go.Proofs.YtdmonfimdinkeaaGreatDoor.IdentR Go.Proofs.YtdmonfimdinkeaaGreatDoor.EventP Go.Proofs.YtdmonfimdinkeaaGreatDoor.EventC Go.Proofs.YtdmonfimdinkeaaGreatDoor.EntP Go.Proofs.YtdmonfimdinkeaaGreatDoor.WireT Go.Proofs.YtdmonfimdinkeaaGreatDoor.Steps Go.Proofs.YtdmonfimdinkeaaGreatDoor.Wr Go.Proofs.YtdmonfimdinkeaaGreatDoor.WireA Go.Proofs.YtdmonfimdinkeaaGreatDoor.DlV
set_option linter.unusedVariables false
set_option linter.unusedSimpArgs false

/-- Two numbers from 0 to a greatest one. -/
def withB (m a b : Int) : Bool := decide (0 ≤ a) && (decide (a ≤ m) && (decide (0 ≤ b) && decide (b ≤ m)))
theorem withB_cases (m a b : Int) : (a < 0 ∧ withB m a b = false) ∨ (0 ≤ a ∧ m < a ∧ withB m a b = false) ∨ (0 ≤ a ∧ a ≤ m ∧ b < 0 ∧ withB m a b = false) ∨ (0 ≤ a ∧ a ≤ m ∧ 0 ≤ b ∧ m < b ∧ withB m a b = false) ∨ (0 ≤ a ∧ a ≤ m ∧ 0 ≤ b ∧ b ≤ m ∧ withB m a b = true) := by
  unfold withB
  by_cases h1 : 0 ≤ a
  · by_cases h2 : a ≤ m
    · by_cases h3 : 0 ≤ b
      · by_cases h4 : b ≤ m
        · exact .inr (.inr (.inr (.inr ⟨h1, h2, h3, h4, by simp [h1, h2, h3, h4]⟩)))
        · exact .inr (.inr (.inr (.inl ⟨h1, h2, h3, by omega, by simp [h4]⟩)))
      · exact .inr (.inr (.inl ⟨h1, h2, by omega, by simp [h3]⟩))
    · exact .inr (.inl ⟨h1, by omega, by simp [h2]⟩)
  · exact .inl ⟨by omega, by simp [h1]⟩
theorem within_ok (w : World) (m : Int) (B : Nat) (a b : Int) (h0 : w.cell? ⟨B, 0, none⟩ = some (.int .i64 a)) (h1 : w.cell? ⟨B, 1, none⟩ = some (.int .i64 b)) :
    Calls Tryz.prog 58 #[.int .i64 m, .slice (some ⟨B, 0, none⟩) 2 2] w fun e w' => e = .returned (.bool (withB m a b)) ∧ w = w' := by
  rcases withB_cases m a b with ⟨ha, hw⟩ | ⟨ha, ha', hw⟩ | ⟨ha, ha', hb, hw⟩ | ⟨ha, ha', hb, hb', hw⟩ | ⟨ha, ha', hb, hb', hw⟩
  all_goals
    rw [hw]
    clear hw
    go_enter Tryz.func58, Tryz.ntmps58
    go_wp2
  · refine wp_loop_rounds 1 ?_
    rw [rounds_succ]
    go_wp2
    go_ret
    exact ⟨rfl, rfl⟩
  · refine wp_loop_rounds 1 ?_
    rw [rounds_succ]
    go_wp2
    go_ret
    exact ⟨rfl, rfl⟩
  · refine wp_loop_rounds 2 ?_
    rw [rounds_succ]
    go_wp2
    rw [rounds_succ]
    go_wp2
    go_ret
    exact ⟨rfl, rfl⟩
  · refine wp_loop_rounds 2 ?_
    rw [rounds_succ]
    go_wp2
    rw [rounds_succ]
    go_wp2
    go_ret
    exact ⟨rfl, rfl⟩
  · refine wp_loop_rounds 3 ?_
    rw [rounds_succ]
    go_wp2
    rw [rounds_succ]
    go_wp2
    rw [rounds_succ]
    go_wp2
    go_ret
    exact ⟨rfl, rfl⟩
theorem within_new2 (w : World) (m : Int) (t : TypeId) (a b : Int) (B : Nat) (hB : B = w.heap.size) :
    Calls Tryz.prog 58 #[.int .i64 m, .slice (some ⟨B, 0, none⟩) 2 2] (w.alloc (.cells #[.int .i64 a, .int .i64 b] t)) fun e w' => e = .returned (.bool (withB m a b)) ∧ w.alloc (.cells #[.int .i64 a, .int .i64 b] t) = w' := by
  subst hB
  exact within_ok _ m _ a b ((cell_row (heap_new w _)).trans rfl) ((cell_row (heap_new w _)).trans rfl)
theorem within_new (w : World) (m : Int) (t : TypeId) (a b : Int) :
    Calls Tryz.prog 58 #[.int .i64 m, .slice (some ⟨w.heap.size, 0, none⟩) 2 2] (w.alloc (.cells #[.int .i64 a, .int .i64 b] t)) fun e w' => e = .returned (.bool (withB m a b)) ∧ w.alloc (.cells #[.int .i64 a, .int .i64 b] t) = w' :=
  within_ok _ m _ a b ((cell_row (heap_new w _)).trans rfl) ((cell_row (heap_new w _)).trans rfl)

def dlOf (k : Int) (r : ByteArray) (ep ix hub next : Int) (s : ByteArray) : Dl := ⟨k, bl r, ep, ix, hub, next, bl s⟩
def chkD (k : Int) (rb : Bool) (n : Nat) (ep ix hub next : Int) : Bool := (decide (k = 1) || decide (k = 2)) && (rb && (decide (n ≤ 8192) && (placeB ep && (placeB ix && (decide (0 ≤ hub) && (decide (hub ≤ 63) && (decide (0 ≤ next) && (decide (next ≤ 63) && decide (hub ≠ next)))))))))
theorem chkD_eq {k : Int} {r : ByteArray} {ep ix hub next : Int} {s : ByteArray} (hk : 0 ≤ k) : checkD (dlOf k r ep ix hub next s) = chkD k (roomB (bl r)) s.size ep ix hub next := by
  unfold checkD dlOf chkD
  simp only [bl_length]
theorem chkD_cases {k : Int} {rb : Bool} {n : Nat} {ep ix hub next : Int} (hk : 0 ≤ k) :
    whyOf (chkD k rb n ep ix hub next) = 0 ∧ 0 < k ∧ k < 3 ∧ rb = true ∧ n ≤ 8192 ∧ withB 4096 ep ix = true ∧ withB 63 hub next = true ∧ (hub == next) = false ∨ whyOf (chkD k rb n ep ix hub next) = 2 ∧ (k = 0 ∨ 0 < k ∧ (3 ≤ k ∨ k < 3 ∧ (rb = false ∨ rb = true ∧ (8192 < n ∨ n ≤ 8192 ∧ (withB 4096 ep ix = false ∨ withB 4096 ep ix = true ∧ (withB 63 hub next = false ∨ withB 63 hub next = true ∧ (hub == next) = true)))))) := by
  by_cases h0 : k = 0
  · exact .inr ⟨by subst h0; rfl, .inl h0⟩
  by_cases h3 : 3 ≤ k
  · have h1 : ¬ k = 1 := by omega
    have h2 : ¬ k = 2 := by omega
    exact .inr ⟨by simp [chkD, h1, h2, whyOf], .inr ⟨by omega, .inl h3⟩⟩
  have h12 : (decide (k = 1) || decide (k = 2)) = true := by simp; omega
  unfold chkD
  rw [h12, Bool.true_and]
  cases rb
  · exact .inr ⟨rfl, .inr ⟨by omega, .inr ⟨by omega, .inl rfl⟩⟩⟩
  by_cases hn : n ≤ 8192
  · have e1 : (true && (decide (n ≤ 8192) && (placeB ep && (placeB ix && (decide (0 ≤ hub) && (decide (hub ≤ 63) && (decide (0 ≤ next) && (decide (next ≤ 63) && decide (hub ≠ next))))))))) = (withB 4096 ep ix && (withB 63 hub next && !(hub == next))) := by
      by_cases he : hub = next
      · subst he; simp [withB, placeB, hn, Bool.and_assoc]
      · have : (hub == next) = false := by simpa using he
        rw [this]
        simp [withB, placeB, hn, he, Bool.and_assoc]
    rw [e1]
    cases withB 4096 ep ix
    · exact .inr ⟨rfl, .inr ⟨by omega, .inr ⟨by omega, .inr ⟨rfl, .inr ⟨hn, .inl rfl⟩⟩⟩⟩⟩
    · cases withB 63 hub next
      · exact .inr ⟨rfl, .inr ⟨by omega, .inr ⟨by omega, .inr ⟨rfl, .inr ⟨hn, .inr ⟨rfl, .inl rfl⟩⟩⟩⟩⟩⟩
      · cases (hub == next)
        · exact .inl ⟨rfl, by omega, by omega, rfl, hn, rfl, rfl, rfl⟩
        · exact .inr ⟨rfl, .inr ⟨by omega, .inr ⟨by omega, .inr ⟨rfl, .inr ⟨hn, .inr ⟨rfl, .inr ⟨rfl, rfl⟩⟩⟩⟩⟩⟩⟩
  · exact .inr ⟨by simp [hn, whyOf], .inr ⟨by omega, .inr ⟨by omega, .inr ⟨rfl, .inl (by omega)⟩⟩⟩⟩

set_option maxRecDepth 100000 in
set_option maxHeartbeats 4000000 in
theorem d_Check (w : World) (p : Array Value) (k : Int) (r : ByteArray) (ep ix hub next : Int) (s : ByteArray) (hp : p = dlA k r ep ix hub next s) (hv : VarsI w) (hk : 0 ≤ k) (hr : r.size ≤ 140737488351232) (hs : s.size ≤ maxLen) :
    Calls Tryz.prog 29 #[.agg p] w (RB (.int .i64 (whyOf (checkD (dlOf k r ep ix hub next s)))) w) := by
  unfold maxLen at hs
  rw [chkD_eq hk]
  obtain ⟨rn, hR⟩ := room_at w r hr
  obtain ⟨rb, hrb⟩ : ∃ x, x = roomB (bl r) := ⟨_, rfl⟩
  rw [← hrb] at hR ⊢
  clear hrb
  obtain ⟨y, hy⟩ : ∃ y, y = whyOf (chkD k rb s.size ep ix hub next) := ⟨_, rfl⟩
  rw [← hy]
  have hcase : y = 0 ∧ 0 < k ∧ k < 3 ∧ rb = true ∧ s.size ≤ 8192 ∧ withB 4096 ep ix = true ∧ withB 63 hub next = true ∧ (hub == next) = false ∨ y = 2 ∧ (k = 0 ∨ 0 < k ∧ (3 ≤ k ∨ k < 3 ∧ (rb = false ∨ rb = true ∧ (8192 < s.size ∨ s.size ≤ 8192 ∧ (withB 4096 ep ix = false ∨ withB 4096 ep ix = true ∧ (withB 63 hub next = false ∨ withB 63 hub next = true ∧ (hub == next) = true)))))) := by rw [hy]; exact chkD_cases hk
  clear hy
  obtain ⟨W1, hW1⟩ : ∃ x, x = withB 4096 ep ix := ⟨_, rfl⟩
  obtain ⟨W2, hW2⟩ : ∃ x, x = withB 63 hub next := ⟨_, rfl⟩
  have HI1 := Lib.hid (fun w t => within_new w 4096 t ep ix)
  have HI2 := Lib.hid (fun w t B h => within_new2 w 63 t hub next B h)
  rw [← hW1] at hcase HI1
  rw [← hW2] at hcase HI2
  clear hW1 hW2
  have p0 : p[0]? = some (.int .u8 k) := by rw [hp]; rfl
  have p1 : p[1]? = some (.string r) := by rw [hp]; rfl
  have p2 : p[2]? = some (.int .i64 ep) := by rw [hp]; rfl
  have p3 : p[3]? = some (.int .i64 ix) := by rw [hp]; rfl
  have p4 : p[4]? = some (.int .i64 hub) := by rw [hp]; rfl
  have p5 : p[5]? = some (.int .i64 next) := by rw [hp]; rfl
  have p6 : p[6]? = some (.string s) := by rw [hp]; rfl
  obtain ⟨w0, hw0⟩ : ∃ w0, w0 = w.alloc (.cells p 39) := ⟨_, rfl⟩
  have hb0 : Below w.heap.size w w0 := by rw [hw0]; exact ((Below.refl _ w).alloc (Nat.le_refl _) _)
  have hx0 : w0.heap[w.heap.size]? = some (.cells p 39 (0, 0)) := by rw [hw0]; exact heap_new _ _
  have HBL0 := Lib.hid hb0
  have HW0 := Lib.hid hw0
  have lx0 := lt_row hx0
  obtain ⟨cx0, fx0⟩ := row_facts hx0
  have HV0 := Lib.hid (hv.below hb0)
  have HR := Lib.hid hR
  clear hR hv hb0 hw0 hr hp
  rcases hcase with ⟨rfl, h1, h2, rfl, h3, rfl, rfl, h4⟩ | ⟨rfl, rfl | ⟨h1, h2 | ⟨h2, rfl | ⟨rfl, h3 | ⟨h3, rfl | ⟨rfl, rfl | ⟨rfl, h4⟩⟩⟩⟩⟩⟩⟩
  · skip
    try (have h1' : (k == 0) = false := by simp; omega)
    go_enter Tryz.func29, Tryz.ntmps29
    go_wp2_with fail
    rw [← HW0.out]
    refine (HR.out w0 HV0.out).mono ?_
    rintro e w1 ⟨rfl, hb⟩
    have HBL1 := Lib.hid (HBL0.out.trans (hb.mono HBL0.out.size))
    have hx1 := (hb.block _ lx0).trans hx0
    have lx1 := lt_row hx1
    obtain ⟨cx1, fx1⟩ := row_facts hx1
    have HV1 := Lib.hid (HV0.out.below hb)
    clear hb hx0 cx0 fx0
    go_wp2_with fail
    refine (HI1.out w1 _).mono ?_
    rintro e0 wz ⟨rfl, rfl⟩
    go_wp2_with fail
    refine (HI2.out (w1.alloc (.cells #[.int .i64 ep, .int .i64 ix] 3)) _ (w1.heap.size + 1) (by simp)).mono ?_
    rintro e1 wz ⟨rfl, rfl⟩
    go_wp2
    go_ret
    exact ⟨rfl, ((HBL1.out.alloc (by omega) _).alloc (by simp; omega) _)⟩
  · skip
    try (have h1' : (k == 0) = false := by simp; omega)
    go_enter Tryz.func29, Tryz.ntmps29
    go_wp2_with fail
    rw [← HW0.out]
    refine (HR.out w0 HV0.out).mono ?_
    rintro e w1 ⟨rfl, hb⟩
    have HBL1 := Lib.hid (HBL0.out.trans (hb.mono HBL0.out.size))
    have hx1 := (hb.block _ lx0).trans hx0
    have lx1 := lt_row hx1
    obtain ⟨cx1, fx1⟩ := row_facts hx1
    have HV1 := Lib.hid (HV0.out.below hb)
    clear hb hx0 cx0 fx0
    go_wp2
    go_ret
    exact ⟨rfl, HBL1.out⟩
  · skip
    try (have h1' : (k == 0) = false := by simp; omega)
    go_enter Tryz.func29, Tryz.ntmps29
    go_wp2_with fail
    rw [← HW0.out]
    refine (HR.out w0 HV0.out).mono ?_
    rintro e w1 ⟨rfl, hb⟩
    have HBL1 := Lib.hid (HBL0.out.trans (hb.mono HBL0.out.size))
    have hx1 := (hb.block _ lx0).trans hx0
    have lx1 := lt_row hx1
    obtain ⟨cx1, fx1⟩ := row_facts hx1
    have HV1 := Lib.hid (HV0.out.below hb)
    clear hb hx0 cx0 fx0
    go_wp2
    go_ret
    exact ⟨rfl, HBL1.out⟩
  · skip
    try (have h1' : (k == 0) = false := by simp; omega)
    go_enter Tryz.func29, Tryz.ntmps29
    go_wp2_with fail
    rw [← HW0.out]
    refine (HR.out w0 HV0.out).mono ?_
    rintro e w1 ⟨rfl, hb⟩
    have HBL1 := Lib.hid (HBL0.out.trans (hb.mono HBL0.out.size))
    have hx1 := (hb.block _ lx0).trans hx0
    have lx1 := lt_row hx1
    obtain ⟨cx1, fx1⟩ := row_facts hx1
    have HV1 := Lib.hid (HV0.out.below hb)
    clear hb hx0 cx0 fx0
    go_wp2
    go_ret
    exact ⟨rfl, HBL1.out⟩
  · skip
    try (have h1' : (k == 0) = false := by simp; omega)
    go_enter Tryz.func29, Tryz.ntmps29
    go_wp2_with fail
    rw [← HW0.out]
    refine (HR.out w0 HV0.out).mono ?_
    rintro e w1 ⟨rfl, hb⟩
    have HBL1 := Lib.hid (HBL0.out.trans (hb.mono HBL0.out.size))
    have hx1 := (hb.block _ lx0).trans hx0
    have lx1 := lt_row hx1
    obtain ⟨cx1, fx1⟩ := row_facts hx1
    have HV1 := Lib.hid (HV0.out.below hb)
    clear hb hx0 cx0 fx0
    go_wp2
    go_ret
    exact ⟨rfl, HBL1.out⟩
  · skip
    try (have h1' : (k == 0) = false := by simp; omega)
    go_enter Tryz.func29, Tryz.ntmps29
    go_wp2_with fail
    rw [← HW0.out]
    refine (HR.out w0 HV0.out).mono ?_
    rintro e w1 ⟨rfl, hb⟩
    have HBL1 := Lib.hid (HBL0.out.trans (hb.mono HBL0.out.size))
    have hx1 := (hb.block _ lx0).trans hx0
    have lx1 := lt_row hx1
    obtain ⟨cx1, fx1⟩ := row_facts hx1
    have HV1 := Lib.hid (HV0.out.below hb)
    clear hb hx0 cx0 fx0
    go_wp2_with fail
    refine (HI1.out w1 _).mono ?_
    rintro e0 wz ⟨rfl, rfl⟩
    go_wp2
    go_ret
    exact ⟨rfl, (HBL1.out.alloc (by omega) _)⟩
  · skip
    try (have h1' : (k == 0) = false := by simp; omega)
    go_enter Tryz.func29, Tryz.ntmps29
    go_wp2_with fail
    rw [← HW0.out]
    refine (HR.out w0 HV0.out).mono ?_
    rintro e w1 ⟨rfl, hb⟩
    have HBL1 := Lib.hid (HBL0.out.trans (hb.mono HBL0.out.size))
    have hx1 := (hb.block _ lx0).trans hx0
    have lx1 := lt_row hx1
    obtain ⟨cx1, fx1⟩ := row_facts hx1
    have HV1 := Lib.hid (HV0.out.below hb)
    clear hb hx0 cx0 fx0
    go_wp2_with fail
    refine (HI1.out w1 _).mono ?_
    rintro e0 wz ⟨rfl, rfl⟩
    go_wp2_with fail
    refine (HI2.out (w1.alloc (.cells #[.int .i64 ep, .int .i64 ix] 3)) _ (w1.heap.size + 1) (by simp)).mono ?_
    rintro e1 wz ⟨rfl, rfl⟩
    go_wp2
    go_ret
    exact ⟨rfl, ((HBL1.out.alloc (by omega) _).alloc (by simp; omega) _)⟩
  · skip
    try (have h1' : (k == 0) = false := by simp; omega)
    go_enter Tryz.func29, Tryz.ntmps29
    go_wp2_with fail
    rw [← HW0.out]
    refine (HR.out w0 HV0.out).mono ?_
    rintro e w1 ⟨rfl, hb⟩
    have HBL1 := Lib.hid (HBL0.out.trans (hb.mono HBL0.out.size))
    have hx1 := (hb.block _ lx0).trans hx0
    have lx1 := lt_row hx1
    obtain ⟨cx1, fx1⟩ := row_facts hx1
    have HV1 := Lib.hid (HV0.out.below hb)
    clear hb hx0 cx0 fx0
    go_wp2_with fail
    refine (HI1.out w1 _).mono ?_
    rintro e0 wz ⟨rfl, rfl⟩
    go_wp2_with fail
    refine (HI2.out (w1.alloc (.cells #[.int .i64 ep, .int .i64 ix] 3)) _ (w1.heap.size + 1) (by simp)).mono ?_
    rintro e1 wz ⟨rfl, rfl⟩
    go_wp2
    go_ret
    exact ⟨rfl, ((HBL1.out.alloc (by omega) _).alloc (by simp; omega) _)⟩

set_option maxRecDepth 100000 in
set_option maxHeartbeats 4000000 in
theorem d_Parse_bad (w : World) (s : ByteArray) (hs : s.size ≤ 140737488351232) (hv : VarsD w) {l : List (List UInt8)} {y : Int} (ha : all (bl s) = (l, y)) (hbad : y ≠ 0 ∨ (y = 0 ∧ l.length ≠ 2)) :
    Calls Tryz.prog 25 #[.string s] w (RB (dlV (parseD (bl s))) w) := by
  have hA := fun w => OctA.All_ok w s (by unfold maxLen; omega)
  unfold AllPost at hA
  rw [ha] at hA
  have HALL := Lib.hid hA
  clear hA
  rw [parseD_bad ha (by omega)]
  show Calls _ _ _ w (RB (.tuple #[.agg dlZ, .int .i64 6]) w)
  obtain ⟨Z, hZ⟩ : ∃ Z, Z = dlZ := ⟨_, rfl⟩
  have HLIT : Hid ((#[.int .u8 0, .string ⟨#[]⟩, .int .i64 0, .int .i64 0, .int .i64 0, .int .i64 0, .string ⟨#[]⟩] : Array Value) = Z) := Lib.hid (by rw [hZ]; kernel_rfl)
  have HZN : Hid (Z.size = 7) := Lib.hid (by rw [hZ]; kernel_rfl)
  have HZS : Hid ((Tryz.prog.info? 39).map (·.size) = some Z.size) := Lib.hid (by rw [hZ]; kernel_rfl)
  have HZO : Hid (Z.all (·.oneCell') = true) := Lib.hid (by rw [hZ]; exact by simp [dlZ, pfZ, msZ, dlA, pfA, msA, byV, zero32, Value.oneCell'])
  rw [← hZ]
  obtain ⟨w0, hw0⟩ : ∃ w0, w0 = w.alloc (.cells Z 39) := ⟨_, rfl⟩
  have hb0 : Below w.heap.size w w0 := by rw [hw0]; exact (Below.refl _ _).alloc (Nat.le_refl _) _
  have HX0 : Hid (w0.heap[w.heap.size]? = some (.cells Z 39 (0, 0))) := Lib.hid (by rw [hw0]; exact heap_new _ _)
  have lX0 := lt_row HX0.out
  have HBL0 := Lib.hid hb0
  have HW0 := Lib.hid hw0
  have HV0 := Lib.hid (hv.below hb0)
  clear hv
  clear hw0 hb0 hZ
  have hcase : (y != 0) = true ∨ (y = 0 ∧ ((l.length : Int) != 2) = true) := by
    rcases hbad with h | ⟨h0, h⟩
    · exact .inl (by simpa using h)
    · exact .inr ⟨h0, by simp; omega⟩
  clear hbad ha
  rcases hcase with hy | ⟨rfl, hy⟩
  all_goals
    go_enter Tryz.func25, Tryz.ntmps25
    go_wp2_with fail
    rw [HLIT.out, ← HW0.out]
    refine (HALL.out w0).mono ?_
    rintro e w1 ⟨v, rfl, hl, hb⟩
    obtain ⟨av, cap, rfl, _, _⟩ := (Sl.ofOwn hl).form
    clear hl
    have HX1 := Lib.hid ((hb.block _ lX0).trans HX0.out)
    have lX1 := lt_row HX1.out
    have HBL1 := Lib.hid (HBL0.out.trans (hb.mono HBL0.out.size))
    have HV1 := Lib.hid (HV0.out.below hb)
    clear hb 
    clear lX0
    go_wp2_with (first | (refine wpList_store_rowA rfl _ _ _ rfl w.heap.size Z rfl (by rw [← HLIT.out]; rfl) _ _ HX1.out HZS.out rfl HZO.out ?_) | fail)
    intro wf hwf
    go_wp2
    refine bodyPost_ret (v := .tuple #[.agg Z, .int .i64 6]) (results_cell_slot rfl _ _ w.heap.size 39 Z (0, 0) _ rfl (by rw [hwf.out]; exact setRow_at HX1.out) Tryz.underlying39 rfl HZS.out rfl) rfl ⟨rfl, by rw [hwf.out]; exact below_row HBL1.out (Nat.le_refl _) _⟩

set_option maxRecDepth 100000 in
set_option maxHeartbeats 4000000 in
theorem d_Parse_bad2 (w : World) (s : ByteArray) (hs : s.size ≤ 140737488351232) (hv : VarsD w) {t g : List UInt8} (ha : all (bl s) = ([t, g], 0)) {l : List (List UInt8)} {y : Int} (ha2 : all t = (l, y)) (hbad : y ≠ 0 ∨ (y = 0 ∧ l.length ≠ 6)) :
    Calls Tryz.prog 25 #[.string s] w (RB (dlV (parseD (bl s))) w) := by
  have hA := fun w => OctA.All_ok w s (by unfold maxLen; omega)
  unfold AllPost at hA
  rw [ha] at hA
  have HALL := Lib.hid hA
  clear hA
  obtain ⟨T, hT⟩ : ∃ bb, bb = bsOf t := ⟨_, rfl⟩
  have bT : bl T = t := by rw [hT, bl_bsOf]
  have zT : T.size ≤ 8192 := by rw [hT]; exact parts_len ha _ (by simp)
  have HT := Lib.hid hT
  obtain ⟨G, hG⟩ : ∃ bb, bb = bsOf g := ⟨_, rfl⟩
  have bG : bl G = g := by rw [hG, bl_bsOf]
  have zG : G.size ≤ 8192 := by rw [hG]; exact parts_len ha _ (by simp)
  have HG := Lib.hid hG
  have hA2 := fun w => OctA.All_ok w T (by unfold maxLen; omega)
  unfold AllPost at hA2
  rw [bT, ha2] at hA2
  have HALL2 := Lib.hid hA2
  clear hA2
  rw [parseD_two ha, readD_bad ha2 (by omega)]
  show Calls _ _ _ w (RB (.tuple #[.agg dlZ, .int .i64 6]) w)
  obtain ⟨Z, hZ⟩ : ∃ Z, Z = dlZ := ⟨_, rfl⟩
  have HLIT : Hid ((#[.int .u8 0, .string ⟨#[]⟩, .int .i64 0, .int .i64 0, .int .i64 0, .int .i64 0, .string ⟨#[]⟩] : Array Value) = Z) := Lib.hid (by rw [hZ]; kernel_rfl)
  have HZN : Hid (Z.size = 7) := Lib.hid (by rw [hZ]; kernel_rfl)
  have HZS : Hid ((Tryz.prog.info? 39).map (·.size) = some Z.size) := Lib.hid (by rw [hZ]; kernel_rfl)
  have HZO : Hid (Z.all (·.oneCell') = true) := Lib.hid (by rw [hZ]; exact by simp [dlZ, pfZ, msZ, dlA, pfA, msA, byV, zero32, Value.oneCell'])
  rw [← hZ]
  obtain ⟨w0, hw0⟩ : ∃ w0, w0 = w.alloc (.cells Z 39) := ⟨_, rfl⟩
  have hb0 : Below w.heap.size w w0 := by rw [hw0]; exact (Below.refl _ _).alloc (Nat.le_refl _) _
  have HX0 : Hid (w0.heap[w.heap.size]? = some (.cells Z 39 (0, 0))) := Lib.hid (by rw [hw0]; exact heap_new _ _)
  have lX0 := lt_row HX0.out
  have HBL0 := Lib.hid hb0
  have HW0 := Lib.hid hw0
  have HV0 := Lib.hid (hv.below hb0)
  clear hv
  clear hw0 hb0 hZ
  have hcase : (y != 0) = true ∨ (y = 0 ∧ ((l.length : Int) != 6) = true) := by
    rcases hbad with h | ⟨h0, h⟩
    · exact .inl (by simpa using h)
    · exact .inr ⟨h0, by simp; omega⟩
  clear hbad ha ha2 hT hG bT bG
  rcases hcase with hy | ⟨rfl, hy⟩
  all_goals
    go_enter Tryz.func25, Tryz.ntmps25
    go_wp2_with fail
    rw [HLIT.out, ← HW0.out]
    refine (HALL.out w0).mono ?_
    rintro e w1 ⟨v, rfl, hl, hb⟩
    obtain ⟨B, cap, rfl, hB, hc⟩ := list_n 2 hl rfl (by omega)
    clear hl
    have hc0_1 : w1.cell? ⟨B, 0, none⟩ = some (.string T) := by rw [HT.out]; exact hc 0 _ rfl
    have hc1_1 : w1.cell? ⟨B, 1, none⟩ = some (.string G) := by rw [HG.out]; exact hc 1 _ rfl
    have hBX : ¬ w.heap.size = B := by omega
    clear hc hB
    have HX1 := Lib.hid ((hb.block _ lX0).trans HX0.out)
    have lX1 := lt_row HX1.out
    have HBL1 := Lib.hid (HBL0.out.trans (hb.mono HBL0.out.size))
    have HV1 := Lib.hid (HV0.out.below hb)
    clear hb 
    clear lX0
    have hc0x1 := hc0_1
    clear hc0_1
    have hc1x1 := hc1_1
    clear hc1_1
    go_wp2_with fail
    refine (HALL2.out w1).mono ?_
    rintro e w2 ⟨v, rfl, hl, hb⟩
    obtain ⟨av, cap2, rfl, _, _⟩ := (Sl.ofOwn hl).form
    clear hl
    have HX2 := Lib.hid ((hb.block _ lX1).trans HX1.out)
    have lX2 := lt_row HX2.out
    have HBL2 := Lib.hid (HBL1.out.trans (hb.mono HBL1.out.size))
    have HV2 := Lib.hid (HV1.out.below hb)
    have hc0x2 := below_cell hb hc0x1
    have hc1x2 := below_cell hb hc1x1
    clear hb hc0x1 hc1x1
    clear lX1
    go_wp2_with (first | (refine wpList_store_rowA rfl _ _ _ rfl w.heap.size Z rfl (by rw [← HLIT.out]; rfl) _ _ HX2.out HZS.out rfl HZO.out ?_) | fail)
    intro wf hwf
    go_wp2
    refine bodyPost_ret (v := .tuple #[.agg Z, .int .i64 6]) (results_cell_slot rfl _ _ w.heap.size 39 Z (0, 0) _ rfl (by rw [hwf.out]; exact setRow_at HX2.out) Tryz.underlying39 rfl HZS.out rfl) rfl ⟨rfl, by rw [hwf.out]; exact below_row HBL2.out (Nat.le_refl _) _⟩

theorem checkD_sig {k : Int} {R : ByteArray} {r : List UInt8} {a b c d : Int} {G : ByteArray} (hR : bl R = r) (hG : (bl G).length ≤ 8192) : checkD (dlOf k R a b c d G) = checkD ⟨k, r, a, b, c, d, []⟩ := by
  unfold checkD dlOf
  simp [hR, hG]
set_option maxRecDepth 100000 in
set_option maxHeartbeats 4000000 in
theorem d_Parse_six (w : World) (s : ByteArray) (hs : s.size ≤ 140737488351232) (hv : VarsD w) {t g : List UInt8} (ha : all (bl s) = ([t, g], 0)) {k r a b h n : List UInt8} (ha2 : all t = ([k, r, a, b, h, n], 0)) (hg8 : g.length ≤ 8192) :
    Calls Tryz.prog 25 #[.string s] w (RB (dlV (parseD (bl s))) w) := by
  have hA := fun w => OctA.All_ok w s (by unfold maxLen; omega)
  unfold AllPost at hA
  rw [ha] at hA
  have HALL := Lib.hid hA
  clear hA
  obtain ⟨T, hT⟩ : ∃ bb, bb = bsOf t := ⟨_, rfl⟩
  have bT : bl T = t := by rw [hT, bl_bsOf]
  have zT : T.size ≤ 8192 := by rw [hT]; exact parts_len ha _ (by simp)
  have HT := Lib.hid hT
  obtain ⟨G, hG⟩ : ∃ bb, bb = bsOf g := ⟨_, rfl⟩
  have bG : bl G = g := by rw [hG, bl_bsOf]
  have zG : G.size ≤ 8192 := by rw [hG]; exact parts_len ha _ (by simp)
  have HG := Lib.hid hG
  have hA2 := fun w => OctA.All_ok w T (by unfold maxLen; omega)
  unfold AllPost at hA2
  rw [bT, ha2] at hA2
  have HALL2 := Lib.hid hA2
  clear hA2
  obtain ⟨K, hK⟩ : ∃ x, x = bsOf k := ⟨_, rfl⟩
  have bK : bl K = k := by rw [hK, bl_bsOf]
  have zK : K.size ≤ 8192 := by rw [hK]; exact parts_len ha2 _ (by simp)
  have HK := Lib.hid hK
  obtain ⟨R, hR⟩ : ∃ x, x = bsOf r := ⟨_, rfl⟩
  have bR : bl R = r := by rw [hR, bl_bsOf]
  have zR : R.size ≤ 8192 := by rw [hR]; exact parts_len ha2 _ (by simp)
  have HR := Lib.hid hR
  obtain ⟨A, hA⟩ : ∃ x, x = bsOf a := ⟨_, rfl⟩
  have bA : bl A = a := by rw [hA, bl_bsOf]
  have zA : A.size ≤ 8192 := by rw [hA]; exact parts_len ha2 _ (by simp)
  have HA := Lib.hid hA
  obtain ⟨D, hD⟩ : ∃ x, x = bsOf b := ⟨_, rfl⟩
  have bD : bl D = b := by rw [hD, bl_bsOf]
  have zD : D.size ≤ 8192 := by rw [hD]; exact parts_len ha2 _ (by simp)
  have HD := Lib.hid hD
  obtain ⟨U, hU⟩ : ∃ x, x = bsOf h := ⟨_, rfl⟩
  have bU : bl U = h := by rw [hU, bl_bsOf]
  have zU : U.size ≤ 8192 := by rw [hU]; exact parts_len ha2 _ (by simp)
  have HU := Lib.hid hU
  obtain ⟨N, hN⟩ : ∃ x, x = bsOf n := ⟨_, rfl⟩
  have bN : bl N = n := by rw [hN, bl_bsOf]
  have zN : N.size ≤ 8192 := by rw [hN]; exact parts_len ha2 _ (by simp)
  have HN := Lib.hid hN
  have HK0 : Hid (∀ w, VarsD w → Calls Tryz.prog 55 #[.string K] w fun e w' => e = .returned (.int .u8 (kindD k)) ∧ w = w') := Lib.hid (by rw [← bK]; exact fun w hv => DlV.d_kind_ok w K hv)
  have hkk := kindD_le k
  obtain ⟨kk, hkq⟩ : ∃ x, x = kindD k := ⟨_, rfl⟩
  rw [← hkq] at HK0 hkk
  obtain ⟨n1, hn1⟩ : ∃ x, x = numI 4096 a := ⟨_, rfl⟩
  have Hn1 : Hid (∀ w, Calls Tryz.prog 56 #[.string A] w fun e w' => e = .returned (.int .i64 n1) ∧ w = w') := Lib.hid (by rw [hn1, ← bA]; exact fun w => d_number w A (by unfold maxLen; omega))
  obtain ⟨n2, hn2⟩ : ∃ x, x = numI 4096 b := ⟨_, rfl⟩
  have Hn2 : Hid (∀ w, Calls Tryz.prog 56 #[.string D] w fun e w' => e = .returned (.int .i64 n2) ∧ w = w') := Lib.hid (by rw [hn2, ← bD]; exact fun w => d_number w D (by unfold maxLen; omega))
  obtain ⟨n3, hn3⟩ : ∃ x, x = numI 4096 h := ⟨_, rfl⟩
  have Hn3 : Hid (∀ w, Calls Tryz.prog 56 #[.string U] w fun e w' => e = .returned (.int .i64 n3) ∧ w = w') := Lib.hid (by rw [hn3, ← bU]; exact fun w => d_number w U (by unfold maxLen; omega))
  obtain ⟨n4, hn4⟩ : ∃ x, x = numI 4096 n := ⟨_, rfl⟩
  have Hn4 : Hid (∀ w, Calls Tryz.prog 56 #[.string N] w fun e w' => e = .returned (.int .i64 n4) ∧ w = w') := Lib.hid (by rw [hn4, ← bN]; exact fun w => d_number w N (by unfold maxLen; omega))
  rw [parseD_two ha, readD_six ha2, ← hkq, ← hn1, ← hn2, ← hn3, ← hn4]
  obtain ⟨F, cz, cf, hF⟩ : ∃ (F : Array Value) (cz cf : Int), (if checkD ⟨kk, r, n1, n2, n3, n4, []⟩ = true then cz = 0 ∧ cf = 0 ∧ F = dlA kk R n1 n2 n3 n4 G else cz = 2 ∧ cf = 6 ∧ F = dlZ) := by
    split
    · exact ⟨_, 0, 0, rfl, rfl, rfl⟩
    · exact ⟨_, 2, 6, rfl, rfl, rfl⟩
  have hC0 : ∀ E1, E1 = dlA kk R n1 n2 n3 n4 G → ∀ w, VarsI w → Calls Tryz.prog 29 #[.agg E1] w (RB (.int .i64 cz) w) := by
    intro E1 hE1 w hv
    have := d_Check w E1 kk R n1 n2 n3 n4 G hE1 hv (by omega) (by omega) (by unfold maxLen; omega)
    rw [show checkD (dlOf kk R n1 n2 n3 n4 G) = checkD ⟨kk, r, n1, n2, n3, n4, []⟩ from checkD_sig bR (by rw [bG]; exact hg8)] at this
    by_cases hc : checkD ⟨kk, r, n1, n2, n3, n4, []⟩ = true
    · rw [if_pos hc] at hF
      rw [hF.1]
      rw [hc] at this
      exact this
    · rw [if_neg hc] at hF
      rw [hF.1]
      rw [Bool.not_eq_true] at hc
      rw [hc] at this
      exact this
  rw [show dlV ((if checkD ⟨kk, r, n1, n2, n3, n4, []⟩ = true then some ⟨kk, r, n1, n2, n3, n4, []⟩ else none : Option Dl).map fun e => withSigD e g) = .tuple #[.agg F, .int .i64 cf] from by
    split at hF
    · rename_i hc
      rw [if_pos hc, hF.2.1, hF.2.2, hR, hG]
      rfl
    · rename_i hc
      rw [if_neg hc, hF.2.1, hF.2.2]
      rfl]
  have hW : (cz = 0 ∧ cf = 0 ∧ F = dlA kk R n1 n2 n3 n4 G) ∨ ((cz != 0) = true ∧ cf = 6 ∧ F = dlZ) := by
    split at hF
    · exact .inl hF
    · exact .inr ⟨by rw [hF.1]; rfl, hF.2⟩
  clear hF
  obtain ⟨Z', hZ'⟩ : ∃ Z, Z = dlZ := ⟨_, rfl⟩
  rw [← hZ'] at hW
  obtain ⟨Z, hZ⟩ : ∃ Z, Z = dlZ := ⟨_, rfl⟩
  have HLIT : Hid ((#[.int .u8 0, .string ⟨#[]⟩, .int .i64 0, .int .i64 0, .int .i64 0, .int .i64 0, .string ⟨#[]⟩] : Array Value) = Z) := Lib.hid (by rw [hZ]; kernel_rfl)
  have HZN : Hid (Z.size = 7) := Lib.hid (by rw [hZ]; kernel_rfl)
  have HZS : Hid ((Tryz.prog.info? 39).map (·.size) = some Z.size) := Lib.hid (by rw [hZ]; kernel_rfl)
  have HZO : Hid (Z.all (·.oneCell') = true) := Lib.hid (by rw [hZ]; exact by simp [dlZ, pfZ, msZ, dlA, pfA, msA, byV, zero32, Value.oneCell'])
  try rw [← hZ]
  obtain ⟨w0, hw0⟩ : ∃ w0, w0 = w.alloc (.cells Z 39) := ⟨_, rfl⟩
  have hb0 : Below w.heap.size w w0 := by rw [hw0]; exact (Below.refl _ _).alloc (Nat.le_refl _) _
  have HX0 : Hid (w0.heap[w.heap.size]? = some (.cells Z 39 (0, 0))) := Lib.hid (by rw [hw0]; exact heap_new _ _)
  have lX0 := lt_row HX0.out
  have HBL0 := Lib.hid hb0
  have HW0 := Lib.hid hw0
  have HV0 := Lib.hid (hv.below hb0)
  clear hv
  have hZZ : Z = Z' := by rw [hZ, hZ']
  subst hZZ
  clear hw0 hb0 hZ hZ'
  obtain ⟨E1, hE1⟩ : ∃ E, E = dlA kk R n1 n2 n3 n4 G := ⟨_, rfl⟩
  have hE1n : E1.size = 7 := by rw [hE1]; rfl
  have HE1S : Hid ((Tryz.prog.info? 39).map (·.size) = some E1.size) := Lib.hid (by rw [hE1n, ← HZN.out]; exact HZS.out)
  have HE1Z : Hid (Z.size = E1.size) := Lib.hid (by rw [hE1n, HZN.out])
  have HE1N : Hid (7 = E1.size) := Lib.hid hE1n.symm
  have HE1O : Hid (E1.all (·.oneCell') = true) := Lib.hid (by rw [hE1]; simp [dlA, Value.oneCell'])
  have HE1 := Lib.hid hE1
  clear hE1n
  have HC := Lib.hid (hC0 E1 hE1)
  rw [← hE1] at hW
  have HW' := Lib.hid hW
  clear hC0 hW hkk hkq hn1 hn2 hn3 hn4 ha ha2 hT hG bT bG hE1 hg8 hK bK hR bR hA bA hD bD hU bU hN bN
  go_enter Tryz.func25, Tryz.ntmps25
  go_wp2_with fail
  rw [HLIT.out, ← HW0.out]
  refine (HALL.out w0).mono ?_
  rintro e w1 ⟨v, rfl, hl, hb⟩
  obtain ⟨B, cap, rfl, hB, hc⟩ := list_n 2 hl rfl (by omega)
  clear hl
  have hc0_1 : w1.cell? ⟨B, 0, none⟩ = some (.string T) := by rw [HT.out]; exact hc 0 _ rfl
  have hc1_1 : w1.cell? ⟨B, 1, none⟩ = some (.string G) := by rw [HG.out]; exact hc 1 _ rfl
  have hBX : ¬ w.heap.size = B := by omega
  clear hc hB
  have HX1 := Lib.hid ((hb.block _ lX0).trans HX0.out)
  have lX1 := lt_row HX1.out
  have HBL1 := Lib.hid (HBL0.out.trans (hb.mono HBL0.out.size))
  have HV1 := Lib.hid (HV0.out.below hb)
  clear hb 
  clear lX0
  have hc0x1 := hc0_1
  clear hc0_1
  have hc1x1 := hc1_1
  clear hc1_1
  go_wp2_with fail
  refine (HALL2.out w1).mono ?_
  rintro e w2 ⟨v, rfl, hl, hb⟩
  obtain ⟨B2, cap2, rfl, hB2, hc⟩ := list_n 6 hl rfl (by omega)
  clear hl
  have hd0_1 : w2.cell? ⟨B2, 0, none⟩ = some (.string K) := by rw [HK.out]; exact hc 0 _ rfl
  have hd1_1 : w2.cell? ⟨B2, 1, none⟩ = some (.string R) := by rw [HR.out]; exact hc 1 _ rfl
  have hd2_1 : w2.cell? ⟨B2, 2, none⟩ = some (.string A) := by rw [HA.out]; exact hc 2 _ rfl
  have hd3_1 : w2.cell? ⟨B2, 3, none⟩ = some (.string D) := by rw [HD.out]; exact hc 3 _ rfl
  have hd4_1 : w2.cell? ⟨B2, 4, none⟩ = some (.string U) := by rw [HU.out]; exact hc 4 _ rfl
  have hd5_1 : w2.cell? ⟨B2, 5, none⟩ = some (.string N) := by rw [HN.out]; exact hc 5 _ rfl
  clear hc hB2
  have HX2 := Lib.hid ((hb.block _ lX1).trans HX1.out)
  have lX2 := lt_row HX2.out
  have HBL2 := Lib.hid (HBL1.out.trans (hb.mono HBL1.out.size))
  have HV2 := Lib.hid (HV1.out.below hb)
  have hc0x2 := below_cell hb hc0x1
  have hc1x2 := below_cell hb hc1x1
  clear hb hc0x1 hc1x1
  clear lX1
  have hd0x2 := hd0_1
  clear hd0_1
  have hd1x2 := hd1_1
  clear hd1_1
  have hd2x2 := hd2_1
  clear hd2_1
  have hd3x2 := hd3_1
  clear hd3_1
  have hd4x2 := hd4_1
  clear hd4_1
  have hd5x2 := hd5_1
  clear hd5_1
  go_wp2_with fail
  refine wp_region_noPanic ?_
  refine Wr.region_K (S := (fun W => VarsD W ∧ W.cell? ⟨B2, 0, none⟩ = some (.string K) ∧ W.cell? ⟨B2, 1, none⟩ = some (.string R) ∧ W.cell? ⟨B2, 2, none⟩ = some (.string A) ∧ W.cell? ⟨B2, 3, none⟩ = some (.string D) ∧ W.cell? ⟨B2, 4, none⟩ = some (.string U) ∧ W.cell? ⟨B2, 5, none⟩ = some (.string N) ∧ W.cell? ⟨B, 1, none⟩ = some (.string G))) (K := []) (by kernel_rfl) ?_
  change Wr.wpAnyK _ _ _ _ _ _ _ _ _ (World.drew w2)
  have hBL0 : Below w2.heap.size w2 (World.drew w2) := Bl.drew (Below.refl _ _)
  have hS0 : VarsD (World.drew w2) ∧ (World.drew w2).cell? ⟨B2, 0, none⟩ = some (.string K) ∧ (World.drew w2).cell? ⟨B2, 1, none⟩ = some (.string R) ∧ (World.drew w2).cell? ⟨B2, 2, none⟩ = some (.string A) ∧ (World.drew w2).cell? ⟨B2, 3, none⟩ = some (.string D) ∧ (World.drew w2).cell? ⟨B2, 4, none⟩ = some (.string U) ∧ (World.drew w2).cell? ⟨B2, 5, none⟩ = some (.string N) ∧ (World.drew w2).cell? ⟨B, 1, none⟩ = some (.string G) := ⟨HV2.out.below hBL0, below_cell hBL0 hd0x2, below_cell hBL0 hd1x2, below_cell hBL0 hd2x2, below_cell hBL0 hd3x2, below_cell hBL0 hd4x2, below_cell hBL0 hd5x2, below_cell hBL0 hc1x2⟩
  refine Wr.wpAnyK_take (i := 0) (v := ?_) rfl (by kernel_rfl) (fun _ _ _ h => h) (Or.inl ⟨by rfl, ?_⟩) hS0 ?_
  rotate_left
  · intro wq hSw
    obtain ⟨q0, q1, q2, q3, q4, q5, q6, q7⟩ := hSw
    go_simp
    rfl
  simp only [Act.put, List.getElem_toArray, List.getElem_cons_zero, List.getElem_cons_succ, List.setIfInBounds_toArray, List.set_cons_zero, List.set_cons_succ]
  refine Wr.wpAnyK_take (i := 1) (v := ?_) rfl (by kernel_rfl) (fun _ _ _ h => h) (Or.inl ⟨by rfl, ?_⟩) hS0 ?_
  rotate_left
  · intro wq hSw
    obtain ⟨q0, q1, q2, q3, q4, q5, q6, q7⟩ := hSw
    go_simp
    rfl
  simp only [Act.put, List.getElem_toArray, List.getElem_cons_zero, List.getElem_cons_succ, List.setIfInBounds_toArray, List.set_cons_zero, List.set_cons_succ]
  refine Wr.wpAnyK_take (i := 2) (v := ?_) rfl (by kernel_rfl) (fun _ _ _ h => h) (Or.inl ⟨by rfl, ?_⟩) hS0 ?_
  rotate_left
  · intro wq hSw
    obtain ⟨q0, q1, q2, q3, q4, q5, q6, q7⟩ := hSw
    go_simp
    rfl
  simp only [Act.put, List.getElem_toArray, List.getElem_cons_zero, List.getElem_cons_succ, List.setIfInBounds_toArray, List.set_cons_zero, List.set_cons_succ]
  refine WrC.wpAnyK_takeC (i := 3) (.tmp 38) (.string K) (v := .int .u8 kk) rfl (by kernel_rfl) (fun _ _ _ h => h) (by simp [undef]) (by rfl) (by rfl) ?_ hS0 ?_
  · intro a' wq hx' hSw
    refine ⟨_, _, ?_, HK0.out wq hSw.1⟩
    go_simp
    first | done | rfl | exact ⟨⟨rfl, rfl⟩, rfl⟩ | exact ⟨rfl, rfl⟩ | exact hx' | (simp [go_sem] at hx'; exact hx')
  simp only [Act.put, List.getElem_toArray, List.getElem_cons_zero, List.getElem_cons_succ, List.setIfInBounds_toArray, List.set_cons_zero, List.set_cons_succ]
  refine Wr.wpAnyK_take (i := 4) (v := ?_) rfl (by kernel_rfl) (fun _ _ _ h => h) (Or.inl ⟨by rfl, ?_⟩) hS0 ?_
  rotate_left
  · intro wq hSw
    obtain ⟨q0, q1, q2, q3, q4, q5, q6, q7⟩ := hSw
    go_simp
    rfl
  simp only [Act.put, List.getElem_toArray, List.getElem_cons_zero, List.getElem_cons_succ, List.setIfInBounds_toArray, List.set_cons_zero, List.set_cons_succ]
  refine Wr.wpAnyK_take (i := 5) (v := ?_) rfl (by kernel_rfl) (fun _ _ _ h => h) (Or.inl ⟨by rfl, ?_⟩) hS0 ?_
  rotate_left
  · intro wq hSw
    obtain ⟨q0, q1, q2, q3, q4, q5, q6, q7⟩ := hSw
    go_simp
    rfl
  simp only [Act.put, List.getElem_toArray, List.getElem_cons_zero, List.getElem_cons_succ, List.setIfInBounds_toArray, List.set_cons_zero, List.set_cons_succ]
  refine Wr.wpAnyK_take (i := 6) (v := ?_) rfl (by kernel_rfl) (fun _ _ _ h => h) (Or.inl ⟨by rfl, ?_⟩) hS0 ?_
  rotate_left
  · intro wq hSw
    obtain ⟨q0, q1, q2, q3, q4, q5, q6, q7⟩ := hSw
    go_simp
    rfl
  simp only [Act.put, List.getElem_toArray, List.getElem_cons_zero, List.getElem_cons_succ, List.setIfInBounds_toArray, List.set_cons_zero, List.set_cons_succ]
  refine Wr.wpAnyK_take (i := 7) (v := ?_) rfl (by kernel_rfl) (fun _ _ _ h => h) (Or.inl ⟨by rfl, ?_⟩) hS0 ?_
  rotate_left
  · intro wq hSw
    obtain ⟨q0, q1, q2, q3, q4, q5, q6, q7⟩ := hSw
    go_simp
    rfl
  simp only [Act.put, List.getElem_toArray, List.getElem_cons_zero, List.getElem_cons_succ, List.setIfInBounds_toArray, List.set_cons_zero, List.set_cons_succ]
  refine Wr.wpAnyK_take (i := 8) (v := ?_) rfl (by kernel_rfl) (fun _ _ _ h => h) (Or.inl ⟨by rfl, ?_⟩) hS0 ?_
  rotate_left
  · intro wq hSw
    obtain ⟨q0, q1, q2, q3, q4, q5, q6, q7⟩ := hSw
    go_simp
    rfl
  simp only [Act.put, List.getElem_toArray, List.getElem_cons_zero, List.getElem_cons_succ, List.setIfInBounds_toArray, List.set_cons_zero, List.set_cons_succ]
  refine Wr.wpAnyK_take (i := 9) (v := ?_) rfl (by kernel_rfl) (fun _ _ _ h => h) (Or.inl ⟨by rfl, ?_⟩) hS0 ?_
  rotate_left
  · intro wq hSw
    obtain ⟨q0, q1, q2, q3, q4, q5, q6, q7⟩ := hSw
    go_simp
    rfl
  simp only [Act.put, List.getElem_toArray, List.getElem_cons_zero, List.getElem_cons_succ, List.setIfInBounds_toArray, List.set_cons_zero, List.set_cons_succ]
  refine WrC.wpAnyK_takeC (i := 10) (.tmp 45) (.string A) (v := .int .i64 n1) rfl (by kernel_rfl) (fun _ _ _ h => h) (by simp [undef]) (by rfl) (by rfl) ?_ hS0 ?_
  · intro a' wq hx' hSw
    refine ⟨_, _, ?_, Hn1.out wq⟩
    go_simp
    first | done | rfl | exact ⟨⟨rfl, rfl⟩, rfl⟩ | exact ⟨rfl, rfl⟩ | exact hx' | (simp [go_sem] at hx'; exact hx')
  simp only [Act.put, List.getElem_toArray, List.getElem_cons_zero, List.getElem_cons_succ, List.setIfInBounds_toArray, List.set_cons_zero, List.set_cons_succ]
  refine Wr.wpAnyK_take (i := 11) (v := ?_) rfl (by kernel_rfl) (fun _ _ _ h => h) (Or.inl ⟨by rfl, ?_⟩) hS0 ?_
  rotate_left
  · intro wq hSw
    obtain ⟨q0, q1, q2, q3, q4, q5, q6, q7⟩ := hSw
    go_simp
    rfl
  simp only [Act.put, List.getElem_toArray, List.getElem_cons_zero, List.getElem_cons_succ, List.setIfInBounds_toArray, List.set_cons_zero, List.set_cons_succ]
  refine Wr.wpAnyK_take (i := 12) (v := ?_) rfl (by kernel_rfl) (fun _ _ _ h => h) (Or.inl ⟨by rfl, ?_⟩) hS0 ?_
  rotate_left
  · intro wq hSw
    obtain ⟨q0, q1, q2, q3, q4, q5, q6, q7⟩ := hSw
    go_simp
    rfl
  simp only [Act.put, List.getElem_toArray, List.getElem_cons_zero, List.getElem_cons_succ, List.setIfInBounds_toArray, List.set_cons_zero, List.set_cons_succ]
  refine Wr.wpAnyK_take (i := 13) (v := ?_) rfl (by kernel_rfl) (fun _ _ _ h => h) (Or.inl ⟨by rfl, ?_⟩) hS0 ?_
  rotate_left
  · intro wq hSw
    obtain ⟨q0, q1, q2, q3, q4, q5, q6, q7⟩ := hSw
    go_simp
    rfl
  simp only [Act.put, List.getElem_toArray, List.getElem_cons_zero, List.getElem_cons_succ, List.setIfInBounds_toArray, List.set_cons_zero, List.set_cons_succ]
  refine WrC.wpAnyK_takeC (i := 14) (.tmp 49) (.string D) (v := .int .i64 n2) rfl (by kernel_rfl) (fun _ _ _ h => h) (by simp [undef]) (by rfl) (by rfl) ?_ hS0 ?_
  · intro a' wq hx' hSw
    refine ⟨_, _, ?_, Hn2.out wq⟩
    go_simp
    first | done | rfl | exact ⟨⟨rfl, rfl⟩, rfl⟩ | exact ⟨rfl, rfl⟩ | exact hx' | (simp [go_sem] at hx'; exact hx')
  simp only [Act.put, List.getElem_toArray, List.getElem_cons_zero, List.getElem_cons_succ, List.setIfInBounds_toArray, List.set_cons_zero, List.set_cons_succ]
  refine Wr.wpAnyK_take (i := 15) (v := ?_) rfl (by kernel_rfl) (fun _ _ _ h => h) (Or.inl ⟨by rfl, ?_⟩) hS0 ?_
  rotate_left
  · intro wq hSw
    obtain ⟨q0, q1, q2, q3, q4, q5, q6, q7⟩ := hSw
    go_simp
    rfl
  simp only [Act.put, List.getElem_toArray, List.getElem_cons_zero, List.getElem_cons_succ, List.setIfInBounds_toArray, List.set_cons_zero, List.set_cons_succ]
  refine Wr.wpAnyK_take (i := 16) (v := ?_) rfl (by kernel_rfl) (fun _ _ _ h => h) (Or.inl ⟨by rfl, ?_⟩) hS0 ?_
  rotate_left
  · intro wq hSw
    obtain ⟨q0, q1, q2, q3, q4, q5, q6, q7⟩ := hSw
    go_simp
    rfl
  simp only [Act.put, List.getElem_toArray, List.getElem_cons_zero, List.getElem_cons_succ, List.setIfInBounds_toArray, List.set_cons_zero, List.set_cons_succ]
  refine Wr.wpAnyK_take (i := 17) (v := ?_) rfl (by kernel_rfl) (fun _ _ _ h => h) (Or.inl ⟨by rfl, ?_⟩) hS0 ?_
  rotate_left
  · intro wq hSw
    obtain ⟨q0, q1, q2, q3, q4, q5, q6, q7⟩ := hSw
    go_simp
    rfl
  simp only [Act.put, List.getElem_toArray, List.getElem_cons_zero, List.getElem_cons_succ, List.setIfInBounds_toArray, List.set_cons_zero, List.set_cons_succ]
  refine WrC.wpAnyK_takeC (i := 18) (.tmp 53) (.string U) (v := .int .i64 n3) rfl (by kernel_rfl) (fun _ _ _ h => h) (by simp [undef]) (by rfl) (by rfl) ?_ hS0 ?_
  · intro a' wq hx' hSw
    refine ⟨_, _, ?_, Hn3.out wq⟩
    go_simp
    first | done | rfl | exact ⟨⟨rfl, rfl⟩, rfl⟩ | exact ⟨rfl, rfl⟩ | exact hx' | (simp [go_sem] at hx'; exact hx')
  simp only [Act.put, List.getElem_toArray, List.getElem_cons_zero, List.getElem_cons_succ, List.setIfInBounds_toArray, List.set_cons_zero, List.set_cons_succ]
  refine Wr.wpAnyK_take (i := 19) (v := ?_) rfl (by kernel_rfl) (fun _ _ _ h => h) (Or.inl ⟨by rfl, ?_⟩) hS0 ?_
  rotate_left
  · intro wq hSw
    obtain ⟨q0, q1, q2, q3, q4, q5, q6, q7⟩ := hSw
    go_simp
    rfl
  simp only [Act.put, List.getElem_toArray, List.getElem_cons_zero, List.getElem_cons_succ, List.setIfInBounds_toArray, List.set_cons_zero, List.set_cons_succ]
  refine Wr.wpAnyK_take (i := 20) (v := ?_) rfl (by kernel_rfl) (fun _ _ _ h => h) (Or.inl ⟨by rfl, ?_⟩) hS0 ?_
  rotate_left
  · intro wq hSw
    obtain ⟨q0, q1, q2, q3, q4, q5, q6, q7⟩ := hSw
    go_simp
    rfl
  simp only [Act.put, List.getElem_toArray, List.getElem_cons_zero, List.getElem_cons_succ, List.setIfInBounds_toArray, List.set_cons_zero, List.set_cons_succ]
  refine Wr.wpAnyK_take (i := 21) (v := ?_) rfl (by kernel_rfl) (fun _ _ _ h => h) (Or.inl ⟨by rfl, ?_⟩) hS0 ?_
  rotate_left
  · intro wq hSw
    obtain ⟨q0, q1, q2, q3, q4, q5, q6, q7⟩ := hSw
    go_simp
    rfl
  simp only [Act.put, List.getElem_toArray, List.getElem_cons_zero, List.getElem_cons_succ, List.setIfInBounds_toArray, List.set_cons_zero, List.set_cons_succ]
  refine WrC.wpAnyK_takeC (i := 22) (.tmp 57) (.string N) (v := .int .i64 n4) rfl (by kernel_rfl) (fun _ _ _ h => h) (by simp [undef]) (by rfl) (by rfl) ?_ hS0 ?_
  · intro a' wq hx' hSw
    refine ⟨_, _, ?_, Hn4.out wq⟩
    go_simp
    first | done | rfl | exact ⟨⟨rfl, rfl⟩, rfl⟩ | exact ⟨rfl, rfl⟩ | exact hx' | (simp [go_sem] at hx'; exact hx')
  simp only [Act.put, List.getElem_toArray, List.getElem_cons_zero, List.getElem_cons_succ, List.setIfInBounds_toArray, List.set_cons_zero, List.set_cons_succ]
  refine Wr.wpAnyK_take (i := 23) (v := ?_) rfl (by kernel_rfl) (fun _ _ _ h => h) (Or.inl ⟨by rfl, ?_⟩) hS0 ?_
  rotate_left
  · intro wq hSw
    obtain ⟨q0, q1, q2, q3, q4, q5, q6, q7⟩ := hSw
    go_simp
    rfl
  simp only [Act.put, List.getElem_toArray, List.getElem_cons_zero, List.getElem_cons_succ, List.setIfInBounds_toArray, List.set_cons_zero, List.set_cons_succ]
  refine Wr.wpAnyK_take (i := 24) (v := ?_) rfl (by kernel_rfl) (fun _ _ _ h => h) (Or.inl ⟨by rfl, ?_⟩) hS0 ?_
  rotate_left
  · intro wq hSw
    obtain ⟨q0, q1, q2, q3, q4, q5, q6, q7⟩ := hSw
    go_simp
    rfl
  simp only [Act.put, List.getElem_toArray, List.getElem_cons_zero, List.getElem_cons_succ, List.setIfInBounds_toArray, List.set_cons_zero, List.set_cons_succ]
  refine Wr.wpAnyK_take (i := 25) (v := ?_) rfl (by kernel_rfl) (fun _ _ _ h => h) (Or.inl ⟨by rfl, ?_⟩) hS0 ?_
  rotate_left
  · intro wq hSw
    obtain ⟨q0, q1, q2, q3, q4, q5, q6, q7⟩ := hSw
    go_simp
    rfl
  simp only [Act.put, List.getElem_toArray, List.getElem_cons_zero, List.getElem_cons_succ, List.setIfInBounds_toArray, List.set_cons_zero, List.set_cons_succ]
  refine Wr.wpAnyK_take (i := 26) (v := .agg E1) rfl (by kernel_rfl) (fun _ _ _ h => h) (WrC.yields_build _ _ rfl (by rfl) E1 (by rw [HE1.out]; kernel_rfl)) hS0 ?_
  simp only [Act.put, List.getElem_toArray, List.getElem_cons_zero, List.getElem_cons_succ, List.setIfInBounds_toArray, List.set_cons_zero, List.set_cons_succ]
  refine Wr.wpAnyK_one (i := 27) (by kernel_rfl) ?_
  refine wpOp_run rfl (by rfl) (w' := (World.drew w2).alloc (.cells #[.int .u8 0, .string ⟨#[]⟩, .int .i64 0, .int .i64 0, .int .i64 0, .int .i64 0, .string ⟨#[]⟩] 39)) (v := .pointer (some ⟨w2.heap.size, 0, none⟩)) (by go_simp; first | done | rfl) ?_
  obtain ⟨u1, hw_u1⟩ : ∃ u1, u1 = (World.drew w2).alloc (.cells #[.int .u8 0, .string ⟨#[]⟩, .int .i64 0, .int .i64 0, .int .i64 0, .int .i64 0, .string ⟨#[]⟩] 39) := ⟨_, rfl⟩
  rw [← hw_u1]
  have hb_u1 : Below (World.drew w2).heap.size (World.drew w2) u1 := by rw [hw_u1]; exact (Below.refl _ _).alloc (Nat.le_refl _) _
  have hn_u1 : u1.heap[(World.drew w2).heap.size]? = some (.cells #[.int .u8 0, .string ⟨#[]⟩, .int .i64 0, .int .i64 0, .int .i64 0, .int .i64 0, .string ⟨#[]⟩] 39 (0, 0)) := by rw [hw_u1]; exact heap_new' _ rfl
  have hBL1 : Below w2.heap.size w2 u1 := hBL0.trans (hb_u1.mono hBL0.size)
  have hS1 : VarsD u1 ∧ u1.cell? ⟨B2, 0, none⟩ = some (.string K) ∧ u1.cell? ⟨B2, 1, none⟩ = some (.string R) ∧ u1.cell? ⟨B2, 2, none⟩ = some (.string A) ∧ u1.cell? ⟨B2, 3, none⟩ = some (.string D) ∧ u1.cell? ⟨B2, 4, none⟩ = some (.string U) ∧ u1.cell? ⟨B2, 5, none⟩ = some (.string N) ∧ u1.cell? ⟨B, 1, none⟩ = some (.string G) := ⟨HV2.out.below hBL1, below_cell hBL1 hd0x2, below_cell hBL1 hd1x2, below_cell hBL1 hd2x2, below_cell hBL1 hd3x2, below_cell hBL1 hd4x2, below_cell hBL1 hd5x2, below_cell hBL1 hc1x2⟩
  clear hw_u1
  refine ⟨hS1, ?_⟩
  simp only [Act.put, List.getElem_toArray, List.getElem_cons_zero, List.getElem_cons_succ, List.setIfInBounds_toArray, List.set_cons_zero, List.set_cons_succ]
  refine Wr.wpAnyK_one (i := 28) (by kernel_rfl) ?_
  refine WrC.wpOp_store_row rfl (by rfl) _ _ _ rfl w2.heap.size E1 rfl rfl _ _ hn_u1 HE1S.out (by rw [← HE1N.out]; rfl) HE1O.out ?_
  intro w3 hw_w3
  have hBL2 : Below w2.heap.size w2 w3 := by rw [hw_w3.out]; exact below_row hBL1 (Nat.le_refl _) _
  have hy_w3 : w3.heap[w2.heap.size]? = some (.cells E1 39 (0, 0)) := by rw [hw_w3.out]; exact setRow_at hn_u1
  have hS2 : VarsD w3 ∧ w3.cell? ⟨B2, 0, none⟩ = some (.string K) ∧ w3.cell? ⟨B2, 1, none⟩ = some (.string R) ∧ w3.cell? ⟨B2, 2, none⟩ = some (.string A) ∧ w3.cell? ⟨B2, 3, none⟩ = some (.string D) ∧ w3.cell? ⟨B2, 4, none⟩ = some (.string U) ∧ w3.cell? ⟨B2, 5, none⟩ = some (.string N) ∧ w3.cell? ⟨B, 1, none⟩ = some (.string G) := ⟨HV2.out.below hBL2, below_cell hBL2 hd0x2, below_cell hBL2 hd1x2, below_cell hBL2 hd2x2, below_cell hBL2 hd3x2, below_cell hBL2 hd4x2, below_cell hBL2 hd5x2, below_cell hBL2 hc1x2⟩
  clear hw_w3
  refine ⟨hS2, ?_⟩
  simp only [Act.put, List.getElem_toArray, List.getElem_cons_zero, List.getElem_cons_succ, List.setIfInBounds_toArray, List.set_cons_zero, List.set_cons_succ]
  refine Wr.wpAnyK_done (by kernel_rfl) (NoPanic.normal ?_) _
  have hbn := hBL2
  have HY3 := Lib.hid hy_w3
  have lY3 := lt_row HY3.out
  clear hBL0 hS0 hBL1 hS1 hBL2 hS2 hn_u1 hb_u1 hy_w3
  have HX3 := Lib.hid ((hbn.block _ lX2).trans HX2.out)
  have lX3 := lt_row HX3.out
  have HBL3 := Lib.hid (HBL2.out.trans (hbn.mono HBL2.out.size))
  have HV3 := Lib.hid (HV2.out.below hbn)
  have hc0x3 := below_cell hbn hc0x2
  have hc1x3 := below_cell hbn hc1x2
  have hd0x3 := below_cell hbn hd0x2
  have hd1x3 := below_cell hbn hd1x2
  have hd2x3 := below_cell hbn hd2x2
  have hd3x3 := below_cell hbn hd3x2
  have hd4x3 := below_cell hbn hd4x2
  have hd5x3 := below_cell hbn hd5x2
  clear hbn hc0x2 hc1x2 hd0x2 hd1x2 hd2x2 hd3x2 hd4x2 hd5x2
  clear lX2
  go_wp2_with (first | (refine wpList_load_row rfl _ _ rfl w2.heap.size rfl _ E1 (0, 0) _ HY3.out Tryz.underlying39 rfl HE1S.out ?_) | fail)
  refine (HC.out w3 HV3.out.i).mono ?_
  rintro e w4 ⟨rfl, hb⟩
  have HX4 := Lib.hid ((hb.block _ lX3).trans HX3.out)
  have lX4 := lt_row HX4.out
  have HY4 := Lib.hid ((hb.block _ lY3).trans HY3.out)
  have lY4 := lt_row HY4.out
  have HBL4 := Lib.hid (HBL3.out.trans (hb.mono HBL3.out.size))
  have HV4 := Lib.hid (HV3.out.below hb)
  have hc0x4 := below_cell hb hc0x3
  have hc1x4 := below_cell hb hc1x3
  have hd0x4 := below_cell hb hd0x3
  have hd1x4 := below_cell hb hd1x3
  have hd2x4 := below_cell hb hd2x3
  have hd3x4 := below_cell hb hd3x3
  have hd4x4 := below_cell hb hd4x3
  have hd5x4 := below_cell hb hd5x3
  clear hb hc0x3 hc1x3 hd0x3 hd1x3 hd2x3 hd3x3 hd4x3 hd5x3
  clear lX3 lY3
  rcases HW'.out with ⟨hz, rfl, rfl⟩ | ⟨hz, rfl, hFZ⟩
  · skip
    go_wp2_with (first | (refine wpList_load_row rfl _ _ rfl w2.heap.size rfl _ F (0, 0) _ HY4.out Tryz.underlying39 rfl HE1S.out ?_) | (refine wpList_store_rowA rfl _ _ _ rfl w.heap.size F rfl rfl _ _ HX4.out HE1S.out HE1Z.out HE1O.out ?_) | fail)
    intro wf hwf
    go_wp2
    refine bodyPost_ret (v := .tuple #[.agg F, .int .i64 0]) (results_cell_slot rfl _ _ w.heap.size 39 F (0, 0) _ rfl (by rw [hwf.out]; exact setRow_at HX4.out) Tryz.underlying39 rfl HE1S.out rfl) rfl ⟨rfl, by rw [hwf.out]; exact below_row HBL4.out (Nat.le_refl _) _⟩
  · skip
    obtain rfl : Z = F := hFZ.symm
    go_wp2_with (first | (refine wpList_store_rowA rfl _ _ _ rfl w.heap.size Z rfl (by rw [← HLIT.out]; rfl) _ _ HX4.out HZS.out rfl HZO.out ?_) | fail)
    intro wf hwf
    go_wp2
    refine bodyPost_ret (v := .tuple #[.agg Z, .int .i64 6]) (results_cell_slot rfl _ _ w.heap.size 39 Z (0, 0) _ rfl (by rw [hwf.out]; exact setRow_at HX4.out) Tryz.underlying39 rfl HZS.out rfl) rfl ⟨rfl, by rw [hwf.out]; exact below_row HBL4.out (Nat.le_refl _) _⟩

theorem d_Parse (w : World) (s : ByteArray) (hs : s.size ≤ 140737488351232) (hv : VarsD w) :
    Calls Tryz.prog 25 #[.string s] w (RB (dlV (parseD (bl s))) w) := by
  obtain ⟨l, y, ha⟩ : ∃ l y, all (bl s) = (l, y) := ⟨_, _, rfl⟩
  by_cases h0 : y = 0
  · subst h0
    by_cases h2 : l.length = 2
    · match l, h2, ha with
      | [t, g], _, ha =>
        have hg8 : g.length ≤ 8192 := by
          have := parts_len ha g (by simp)
          rw [size_bsOf] at this
          exact this
        obtain ⟨l2, y2, ha2⟩ : ∃ l y, all t = (l, y) := ⟨_, _, rfl⟩
        by_cases h0 : y2 = 0
        · subst h0
          by_cases h6 : l2.length = 6
          · match l2, h6, ha2 with
            | [k, r, a, b, h, n], _, ha2 => exact d_Parse_six w s hs hv ha ha2 hg8
          · exact d_Parse_bad2 w s hs hv ha ha2 (.inr ⟨rfl, h6⟩)
        · exact d_Parse_bad2 w s hs hv ha ha2 (.inl h0)
    · exact d_Parse_bad w s hs hv ha (.inr ⟨rfl, h2⟩)
  · exact d_Parse_bad w s hs hv ha (.inl h0)

end Go.Proofs.YtdmonfimdinkeaaGreatDoor.WireD
