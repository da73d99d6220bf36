/-
  WHAT IS PROVED: the reference's deals: right or not. Condition: what each theorem names.
-/
import Derived.Test.YtkcikadgnnjjjaaGreatDoorS0
import Derived.Test.YtkcikadgnnjjjaaGreatDoorZEHD13
import Derived.Test.YtkcikadgnnjjjaaGreatDoorZD28
set_option linter.unusedVariables false
set_option linter.unusedSimpArgs false
set_option maxRecDepth 100000
set_option maxHeartbeats 4000000
namespace Go.Proofs.YtkcikadgnnjjjaaGreatDoor.WireG
open Go Go.RowKit Go.Shelf OctetS IdentS EntS WireS OctG OctP OctQ OctA EventP EventC EntP WireT Steps Wr
theorem wordD_far {k : Int} (h : 3 ≤ k) : bsOf (wordD k) = ⟨#[]⟩ := by
 unfold wordD
 rw [if_neg (by omega), if_neg (by omega)]
 rfl
theorem word_ok (w : World) (k : Int) (h0 : 0 ≤ k) (h1 : k ≤ 255) : Calls Tryz.prog 94 #[.int .u8 k] w (RB (.string (bsOf (wordD k))) w) := by
 have hk : k = 0 ∨ k = 1 ∨ k = 2 ∨ 3 ≤ k := by omega
 rcases hk with rfl | rfl | rfl | hk
 ·rw [show bsOf (wordD 0) = ⟨#[]⟩ from rfl]
  go_enter Tryz.func94, Tryz.ntmps94
  go_wp2
  go_ret
  exact ⟨rfl, bAx⟩
 ·rw [show bsOf (wordD 1) = ⟨#[111, 102, 102, 101, 114]⟩ from rfl]
  go_enter Tryz.func94, Tryz.ntmps94
  go_wp2
  go_ret
  exact ⟨rfl, bAx⟩
 ·rw [show bsOf (wordD 2) = ⟨#[97, 99, 99, 101, 112, 116]⟩ from rfl]
  go_enter Tryz.func94, Tryz.ntmps94
  go_wp2
  go_ret
  exact ⟨rfl, bAx⟩
 ·rw [wordD_far hk]
  go_enter Tryz.func94, Tryz.ntmps94
  go_wp2
  go_ret
  exact ⟨rfl, bAx⟩
def kindB (k : Int) : Bool := decide (k = 1) || decide (k = 2)
theorem chkD_and {k : Int} {rb : Bool} {n : Nat} {ep ix hub next : Int} (hk : 0 ≤ k) : WireD.chkD k rb n ep ix hub next = (kindB k && (rb && (decide (n ≤ 8192) && (WireD.withB 4096 ep ix && (WireD.withB 63 hub next && !(hub == next)))))) := by
 unfold WireD.chkD kindB WireD.withB placeB
 by_cases he : hub = next
 ·subst he; simp [Bool.and_assoc]
 ·have : (hub == next) = false := by simpa using he
  rw [this]
  simp [he, Bool.and_assoc]
theorem wordD_kind (k : Int) (hk : 0 ≤ k) : (kindB k = false ∧ bsOf (wordD k) = ⟨#[]⟩) ∨ (kindB k = true ∧ (bsOf (wordD k)).toList.isEmpty = false ∧ ((bsOf (wordD k)).toList == []) = false) := by
 by_cases h1 : k = 1
 ·subst h1; exact .inr ⟨rfl, by rw [bl_toList]; rfl, by rw [bl_toList]; rfl⟩
 ·by_cases h2 : k = 2
  ·subst h2; exact .inr ⟨rfl, by rw [bl_toList]; rfl, by rw [bl_toList]; rfl⟩
  ·exact .inl ⟨by simp [kindB, h1, h2], by unfold wordD; rw [if_neg h1, if_neg h2]; rfl⟩
theorem r_Check (w : World) (p : Array Value) (k : Int) (r : ByteArray) (ep ix hub next : Int) (s : ByteArray) (hp : p = dlA k r ep ix hub next s) (hk : 0 ≤ k) (hk2 : k ≤ 255) (hr : r.size ≤ 140737488351232) (hs : s.size ≤ maxLen) :
 Calls Tryz.prog 93 #[.agg p] w (RB (.int .i64 (whyOf (checkD (WireD.dlOf k r ep ix hub next s)))) w) := by
 unfold maxLen at hs
 rw [WireD.chkD_eq hk, chkD_and hk]
 obtain ⟨rn, hR⟩ := EvRC.room_at r hr
 obtain ⟨rb, hrb⟩ := nXe (roomB (bl r))
 rw [← hrb] at hR ⊢
 clear hrb
 have hWd := fun w => word_ok w k hk hk2
 have hwk := wordD_kind k hk
 obtain ⟨wd, hwd⟩ := nXe (bsOf (wordD k))
 rw [← hwd] at hWd hwk
 clear hwd
 obtain ⟨kb, hkb⟩ := nXe (kindB k)
 rw [← hkb] at hwk ⊢
 clear hkb
 have p0 : p[0]? = some (.int .u8 k) := by rw [hp]; rfl
 have p1 : p[1]? = some (.string r) := by rw [hp]; rfl
 have p2 : p[2]? = some (.int .i64 ep) := by rw [hp]; rfl
 have p3 : p[3]? = some (.int .i64 ix) := by rw [hp]; rfl
 have p4 : p[4]? = some (.int .i64 hub) := by rw [hp]; rfl
 have p5 : p[5]? = some (.int .i64 next) := by rw [hp]; rfl
 have p6 : p[6]? = some (.string s) := by rw [hp]; rfl
 obtain ⟨w0, hw0⟩ := nXe (w.alloc (.cells p 56))
 have hb0 : Below w.heap.size w w0 := by rw [hw0]; exact ((Below.refl _ w).alloc (Nat.le_refl _) _)
 have hx0 : w0.heap[w.heap.size]? = some (.cells p 56 (0, 0)) := by rw [hw0]; exact heap_new _ _
 have HBL0 := lh hb0
 have HW0 := lh hw0
 have lx0 := lt_row hx0
 obtain ⟨cx0, fx0⟩ := row_facts hx0
 have HR := lh hR
 have HWd := lh hWd
 clear hR hWd hb0 hw0 hr hp
 have hcase : kb = false ∨ (kb = true ∧ (rb = false ∨ (rb = true ∧ (8192 < s.size ∨ (s.size ≤ 8192 ∧ ((hub == next) = true ∨ (hub == next) = false)))))) := by
  cases kb
  ·exact .inl rfl
  ·refine .inr ⟨rfl, ?_⟩
   cases rb
   ·exact .inl rfl
   ·refine .inr ⟨rfl, ?_⟩
    by_cases h : s.size ≤ 8192
    ·refine .inr ⟨h, ?_⟩
     cases (hub == next)
     ·exact .inr rfl
     ·exact .inl rfl
    ·exact .inl (by omega)
 rcases hcase with rfl | ⟨rfl, rfl | ⟨rfl, h3 | ⟨h3, h4 | h4⟩⟩⟩
 ·skip
  rw [show whyOf (false && (rb && (decide (s.size ≤ 8192) && (WireD.withB 4096 ep ix && (WireD.withB 63 hub next && !(hub == next)))))) = 2 from rfl]
  obtain rfl : wd = ⟨#[]⟩ := by rcases hwk with ⟨_, h⟩ | ⟨h, _⟩ <;> first | exact h | cases h
  clear hwk
  go_enter Tryz.func93, Tryz.ntmps93
  go_wp2_with fail
  rw [← HW0.out]
  refine (HR.out w0).mono ?_
  rintro e w1 ⟨rfl, hb⟩
  have HBL1 := tbB HBL0 hb
  have hx1 := (hb.block _ lx0).trans hx0
  have lx1 := lt_row hx1
  obtain ⟨cx1, fx1⟩ := row_facts hx1
  clear hb hx0 cx0 fx0
  go_wp2_with fail
  refine (HWd.out w1).mono ?_
  rintro e w2 ⟨rfl, hb⟩
  have HBL2 := tbB HBL1 hb
  have hx2 := (hb.block _ lx1).trans hx1
  have lx2 := lt_row hx2
  obtain ⟨cx2, fx2⟩ := row_facts hx2
  clear hb hx1 cx1 fx1
  go_wp2
  go_ret
  exact ⟨rfl, HBL2.out⟩
 ·skip
  rw [show whyOf (true && (false && (decide (s.size ≤ 8192) && (WireD.withB 4096 ep ix && (WireD.withB 63 hub next && !(hub == next)))))) = 2 from rfl]
  obtain ⟨hw1, hw2⟩ : wd.toList.isEmpty = false ∧ (wd.toList == []) = false := by rcases hwk with ⟨h, _⟩ | ⟨_, h⟩ <;> first | exact h | cases h
  clear hwk
  go_enter Tryz.func93, Tryz.ntmps93
  go_wp2_with fail
  rw [← HW0.out]
  refine (HR.out w0).mono ?_
  rintro e w1 ⟨rfl, hb⟩
  have HBL1 := tbB HBL0 hb
  have hx1 := (hb.block _ lx0).trans hx0
  have lx1 := lt_row hx1
  obtain ⟨cx1, fx1⟩ := row_facts hx1
  clear hb hx0 cx0 fx0
  go_wp2_with fail
  refine (HWd.out w1).mono ?_
  rintro e w2 ⟨rfl, hb⟩
  have HBL2 := tbB HBL1 hb
  have hx2 := (hb.block _ lx1).trans hx1
  have lx2 := lt_row hx2
  obtain ⟨cx2, fx2⟩ := row_facts hx2
  clear hb hx1 cx1 fx1
  go_wp2
  go_ret
  exact ⟨rfl, HBL2.out⟩
 ·skip
  rw [show whyOf (true && (true && (decide (s.size ≤ 8192) && (WireD.withB 4096 ep ix && (WireD.withB 63 hub next && !(hub == next)))))) = 2 from by rw [decide_eq_false (by omega)]; rfl]
  obtain ⟨hw1, hw2⟩ : wd.toList.isEmpty = false ∧ (wd.toList == []) = false := by rcases hwk with ⟨h, _⟩ | ⟨_, h⟩ <;> first | exact h | cases h
  clear hwk
  go_enter Tryz.func93, Tryz.ntmps93
  go_wp2_with fail
  rw [← HW0.out]
  refine (HR.out w0).mono ?_
  rintro e w1 ⟨rfl, hb⟩
  have HBL1 := tbB HBL0 hb
  have hx1 := (hb.block _ lx0).trans hx0
  have lx1 := lt_row hx1
  obtain ⟨cx1, fx1⟩ := row_facts hx1
  clear hb hx0 cx0 fx0
  go_wp2_with fail
  refine (HWd.out w1).mono ?_
  rintro e w2 ⟨rfl, hb⟩
  have HBL2 := tbB HBL1 hb
  have hx2 := (hb.block _ lx1).trans hx1
  have lx2 := lt_row hx2
  obtain ⟨cx2, fx2⟩ := row_facts hx2
  clear hb hx1 cx1 fx1
  go_wp2
  go_ret
  exact ⟨rfl, HBL2.out⟩
 ·skip
  rw [show whyOf (true && (true && (decide (s.size ≤ 8192) && (WireD.withB 4096 ep ix && (WireD.withB 63 hub next && !(hub == next)))))) = 2 from by rw [h4]; cases WireD.withB 4096 ep ix <;> cases WireD.withB 63 hub next <;> cases decide (s.size ≤ 8192) <;> rfl]
  obtain ⟨hw1, hw2⟩ : wd.toList.isEmpty = false ∧ (wd.toList == []) = false := by rcases hwk with ⟨h, _⟩ | ⟨_, h⟩ <;> first | exact h | cases h
  clear hwk
  go_enter Tryz.func93, Tryz.ntmps93
  go_wp2_with fail
  rw [← HW0.out]
  refine (HR.out w0).mono ?_
  rintro e w1 ⟨rfl, hb⟩
  have HBL1 := tbB HBL0 hb
  have hx1 := (hb.block _ lx0).trans hx0
  have lx1 := lt_row hx1
  obtain ⟨cx1, fx1⟩ := row_facts hx1
  clear hb hx0 cx0 fx0
  go_wp2_with fail
  refine (HWd.out w1).mono ?_
  rintro e w2 ⟨rfl, hb⟩
  have HBL2 := tbB HBL1 hb
  have hx2 := (hb.block _ lx1).trans hx1
  have lx2 := lt_row hx2
  obtain ⟨cx2, fx2⟩ := row_facts hx2
  clear hb hx1 cx1 fx1
  go_wp2
  go_ret
  exact ⟨rfl, HBL2.out⟩
 ·skip
  obtain ⟨hw1, hw2⟩ : wd.toList.isEmpty = false ∧ (wd.toList == []) = false := by rcases hwk with ⟨h, _⟩ | ⟨_, h⟩ <;> first | exact h | cases h
  clear hwk
  rw [h4, decide_eq_true h3]
  rcases WireD.withB_cases 4096 ep ix with ⟨ha, hw⟩ | ⟨ha, ha', hw⟩ | ⟨ha, ha', hb, hw⟩ | ⟨ha, ha', hb, hb', hw⟩ | ⟨ha, ha', hb, hb', hw⟩
  ·skip
   rw [hw]
   clear hw
   show Calls _ _ _ _ (RB (.int .i64 2) w)
   go_enter Tryz.func93, Tryz.ntmps93
   go_wp2_with fail
   rw [← HW0.out]
   refine (HR.out w0).mono ?_
   rintro e w1 ⟨rfl, hb⟩
   have HBL1 := tbB HBL0 hb
   have hx1 := (hb.block _ lx0).trans hx0
   have lx1 := lt_row hx1
   obtain ⟨cx1, fx1⟩ := row_facts hx1
   clear hb hx0 cx0 fx0
   go_wp2_with fail
   refine (HWd.out w1).mono ?_
   rintro e w2 ⟨rfl, hb⟩
   have HBL2 := tbB HBL1 hb
   have hx2 := (hb.block _ lx1).trans hx1
   have lx2 := lt_row hx2
   obtain ⟨cx2, fx2⟩ := row_facts hx2
   clear hb hx1 cx1 fx1
   go_wp2
   refine wp_loop_rounds 1 ?_
   rw [rounds_succ]
   go_wp2
   go_ret
   exact ⟨rfl, (HBL2.out.alloc (by have := HBL2.out.size; omega) _)⟩
  ·skip
   rw [hw]
   clear hw
   show Calls _ _ _ _ (RB (.int .i64 2) w)
   go_enter Tryz.func93, Tryz.ntmps93
   go_wp2_with fail
   rw [← HW0.out]
   refine (HR.out w0).mono ?_
   rintro e w1 ⟨rfl, hb⟩
   have HBL1 := tbB HBL0 hb
   have hx1 := (hb.block _ lx0).trans hx0
   have lx1 := lt_row hx1
   obtain ⟨cx1, fx1⟩ := row_facts hx1
   clear hb hx0 cx0 fx0
   go_wp2_with fail
   refine (HWd.out w1).mono ?_
   rintro e w2 ⟨rfl, hb⟩
   have HBL2 := tbB HBL1 hb
   have hx2 := (hb.block _ lx1).trans hx1
   have lx2 := lt_row hx2
   obtain ⟨cx2, fx2⟩ := row_facts hx2
   clear hb hx1 cx1 fx1
   go_wp2
   refine wp_loop_rounds 1 ?_
   rw [rounds_succ]
   go_wp2
   go_ret
   exact ⟨rfl, (HBL2.out.alloc (by have := HBL2.out.size; omega) _)⟩
  ·skip
   rw [hw]
   clear hw
   show Calls _ _ _ _ (RB (.int .i64 2) w)
   go_enter Tryz.func93, Tryz.ntmps93
   go_wp2_with fail
   rw [← HW0.out]
   refine (HR.out w0).mono ?_
   rintro e w1 ⟨rfl, hb⟩
   have HBL1 := tbB HBL0 hb
   have hx1 := (hb.block _ lx0).trans hx0
   have lx1 := lt_row hx1
   obtain ⟨cx1, fx1⟩ := row_facts hx1
   clear hb hx0 cx0 fx0
   go_wp2_with fail
   refine (HWd.out w1).mono ?_
   rintro e w2 ⟨rfl, hb⟩
   have HBL2 := tbB HBL1 hb
   have hx2 := (hb.block _ lx1).trans hx1
   have lx2 := lt_row hx2
   obtain ⟨cx2, fx2⟩ := row_facts hx2
   clear hb hx1 cx1 fx1
   go_wp2
   refine wp_loop_rounds 2 ?_
   rw [rounds_succ]
   go_wp2
   rw [rounds_succ]
   go_wp2
   go_ret
   exact ⟨rfl, (HBL2.out.alloc (by have := HBL2.out.size; omega) _)⟩
  ·skip
   rw [hw]
   clear hw
   show Calls _ _ _ _ (RB (.int .i64 2) w)
   go_enter Tryz.func93, Tryz.ntmps93
   go_wp2_with fail
   rw [← HW0.out]
   refine (HR.out w0).mono ?_
   rintro e w1 ⟨rfl, hb⟩
   have HBL1 := tbB HBL0 hb
   have hx1 := (hb.block _ lx0).trans hx0
   have lx1 := lt_row hx1
   obtain ⟨cx1, fx1⟩ := row_facts hx1
   clear hb hx0 cx0 fx0
   go_wp2_with fail
   refine (HWd.out w1).mono ?_
   rintro e w2 ⟨rfl, hb⟩
   have HBL2 := tbB HBL1 hb
   have hx2 := (hb.block _ lx1).trans hx1
   have lx2 := lt_row hx2
   obtain ⟨cx2, fx2⟩ := row_facts hx2
   clear hb hx1 cx1 fx1
   go_wp2
   refine wp_loop_rounds 2 ?_
   rw [rounds_succ]
   go_wp2
   rw [rounds_succ]
   go_wp2
   go_ret
   exact ⟨rfl, (HBL2.out.alloc (by have := HBL2.out.size; omega) _)⟩
  ·skip
   rw [hw]
   clear hw
   rcases WireD.withB_cases 63 hub next with ⟨hc, hw⟩ | ⟨hc, hc', hw⟩ | ⟨hc, hc', hd, hw⟩ | ⟨hc, hc', hd, hd', hw⟩ | ⟨hc, hc', hd, hd', hw⟩
   ·skip
    rw [hw]
    clear hw
    show Calls _ _ _ _ (RB (.int .i64 2) w)
    go_enter Tryz.func93, Tryz.ntmps93
    go_wp2_with fail
    rw [← HW0.out]
    refine (HR.out w0).mono ?_
    rintro e w1 ⟨rfl, hb⟩
    have HBL1 := tbB HBL0 hb
    have hx1 := (hb.block _ lx0).trans hx0
    have lx1 := lt_row hx1
    obtain ⟨cx1, fx1⟩ := row_facts hx1
    clear hb hx0 cx0 fx0
    go_wp2_with fail
    refine (HWd.out w1).mono ?_
    rintro e w2 ⟨rfl, hb⟩
    have HBL2 := tbB HBL1 hb
    have hx2 := (hb.block _ lx1).trans hx1
    have lx2 := lt_row hx2
    obtain ⟨cx2, fx2⟩ := row_facts hx2
    clear hb hx1 cx1 fx1
    go_wp2
    refine wp_loop_rounds 3 ?_
    iterate 3
     rw [rounds_succ]
     go_wp2
    refine wp_loop_rounds 1 ?_
    rw [rounds_succ]
    go_wp2
    go_ret
    exact ⟨rfl, ((HBL2.out.alloc (by have := HBL2.out.size; omega) _).alloc (by have := HBL2.out.size; simp; omega) _)⟩
   ·skip
    rw [hw]
    clear hw
    show Calls _ _ _ _ (RB (.int .i64 2) w)
    go_enter Tryz.func93, Tryz.ntmps93
    go_wp2_with fail
    rw [← HW0.out]
    refine (HR.out w0).mono ?_
    rintro e w1 ⟨rfl, hb⟩
    have HBL1 := tbB HBL0 hb
    have hx1 := (hb.block _ lx0).trans hx0
    have lx1 := lt_row hx1
    obtain ⟨cx1, fx1⟩ := row_facts hx1
    clear hb hx0 cx0 fx0
    go_wp2_with fail
    refine (HWd.out w1).mono ?_
    rintro e w2 ⟨rfl, hb⟩
    have HBL2 := tbB HBL1 hb
    have hx2 := (hb.block _ lx1).trans hx1
    have lx2 := lt_row hx2
    obtain ⟨cx2, fx2⟩ := row_facts hx2
    clear hb hx1 cx1 fx1
    go_wp2
    refine wp_loop_rounds 3 ?_
    iterate 3
     rw [rounds_succ]
     go_wp2
    refine wp_loop_rounds 1 ?_
    rw [rounds_succ]
    go_wp2
    go_ret
    exact ⟨rfl, ((HBL2.out.alloc (by have := HBL2.out.size; omega) _).alloc (by have := HBL2.out.size; simp; omega) _)⟩
   ·skip
    rw [hw]
    clear hw
    show Calls _ _ _ _ (RB (.int .i64 2) w)
    go_enter Tryz.func93, Tryz.ntmps93
    go_wp2_with fail
    rw [← HW0.out]
    refine (HR.out w0).mono ?_
    rintro e w1 ⟨rfl, hb⟩
    have HBL1 := tbB HBL0 hb
    have hx1 := (hb.block _ lx0).trans hx0
    have lx1 := lt_row hx1
    obtain ⟨cx1, fx1⟩ := row_facts hx1
    clear hb hx0 cx0 fx0
    go_wp2_with fail
    refine (HWd.out w1).mono ?_
    rintro e w2 ⟨rfl, hb⟩
    have HBL2 := tbB HBL1 hb
    have hx2 := (hb.block _ lx1).trans hx1
    have lx2 := lt_row hx2
    obtain ⟨cx2, fx2⟩ := row_facts hx2
    clear hb hx1 cx1 fx1
    go_wp2
    refine wp_loop_rounds 3 ?_
    iterate 3
     rw [rounds_succ]
     go_wp2
    refine wp_loop_rounds 2 ?_
    rw [rounds_succ]
    go_wp2
    rw [rounds_succ]
    go_wp2
    go_ret
    exact ⟨rfl, ((HBL2.out.alloc (by have := HBL2.out.size; omega) _).alloc (by have := HBL2.out.size; simp; omega) _)⟩
   ·skip
    rw [hw]
    clear hw
    show Calls _ _ _ _ (RB (.int .i64 2) w)
    go_enter Tryz.func93, Tryz.ntmps93
    go_wp2_with fail
    rw [← HW0.out]
    refine (HR.out w0).mono ?_
    rintro e w1 ⟨rfl, hb⟩
    have HBL1 := tbB HBL0 hb
    have hx1 := (hb.block _ lx0).trans hx0
    have lx1 := lt_row hx1
    obtain ⟨cx1, fx1⟩ := row_facts hx1
    clear hb hx0 cx0 fx0
    go_wp2_with fail
    refine (HWd.out w1).mono ?_
    rintro e w2 ⟨rfl, hb⟩
    have HBL2 := tbB HBL1 hb
    have hx2 := (hb.block _ lx1).trans hx1
    have lx2 := lt_row hx2
    obtain ⟨cx2, fx2⟩ := row_facts hx2
    clear hb hx1 cx1 fx1
    go_wp2
    refine wp_loop_rounds 3 ?_
    iterate 3
     rw [rounds_succ]
     go_wp2
    refine wp_loop_rounds 2 ?_
    rw [rounds_succ]
    go_wp2
    rw [rounds_succ]
    go_wp2
    go_ret
    exact ⟨rfl, ((HBL2.out.alloc (by have := HBL2.out.size; omega) _).alloc (by have := HBL2.out.size; simp; omega) _)⟩
   ·skip
    rw [hw]
    clear hw
    show Calls _ _ _ _ (RB (.int .i64 0) w)
    go_enter Tryz.func93, Tryz.ntmps93
    go_wp2_with fail
    rw [← HW0.out]
    refine (HR.out w0).mono ?_
    rintro e w1 ⟨rfl, hb⟩
    have HBL1 := tbB HBL0 hb
    have hx1 := (hb.block _ lx0).trans hx0
    have lx1 := lt_row hx1
    obtain ⟨cx1, fx1⟩ := row_facts hx1
    clear hb hx0 cx0 fx0
    go_wp2_with fail
    refine (HWd.out w1).mono ?_
    rintro e w2 ⟨rfl, hb⟩
    have HBL2 := tbB HBL1 hb
    have hx2 := (hb.block _ lx1).trans hx1
    have lx2 := lt_row hx2
    obtain ⟨cx2, fx2⟩ := row_facts hx2
    clear hb hx1 cx1 fx1
    iterate 2
     go_wp2
     refine wp_loop_rounds 3 ?_
     rw [rounds_succ]
     go_wp2
     rw [rounds_succ]
     go_wp2
     rw [rounds_succ]
    go_wp2
    go_ret
    exact ⟨rfl, ((HBL2.out.alloc (by have := HBL2.out.size; omega) _).alloc (by have := HBL2.out.size; simp; omega) _)⟩
end Go.Proofs.YtkcikadgnnjjjaaGreatDoor.WireG
