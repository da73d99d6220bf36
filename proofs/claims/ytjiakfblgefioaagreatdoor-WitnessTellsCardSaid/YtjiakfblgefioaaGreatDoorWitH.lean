/-
  WHAT IS PROVED: what the document's long script is. Condition: none.
-/
import Derived.Test.YtjiakfblgefioaaGreatDoorWitF
namespace Go.Proofs.YtjiakfblgefioaaGreatDoor.WitH
open Go Go.RowKit Go.Shelf Go.Proofs.YtjiakfblgefioaaGreatDoor Go.Proofs.YtjiakfblgefioaaGreatDoor.OctetS Go.Proofs.YtjiakfblgefioaaGreatDoor.IdentS Go.Proofs.YtjiakfblgefioaaGreatDoor.EventS Go.Proofs.YtjiakfblgefioaaGreatDoor.EntS Go.Proofs.YtjiakfblgefioaaGreatDoor.OctP Go.Proofs.YtjiakfblgefioaaGreatDoor.OctQ Go.Proofs.YtjiakfblgefioaaGreatDoor.IdentP Go.Proofs.YtjiakfblgefioaaGreatDoor.IdentR Go.Proofs.YtjiakfblgefioaaGreatDoor.EventP Go.Proofs.YtjiakfblgefioaaGreatDoor.EventC Go.Proofs.YtjiakfblgefioaaGreatDoor.EventB Go.Proofs.YtjiakfblgefioaaGreatDoor.RowsX Go.Proofs.YtjiakfblgefioaaGreatDoor.WitS Go.Proofs.YtjiakfblgefioaaGreatDoor.WitD Go.Proofs.YtjiakfblgefioaaGreatDoor.WitE Go.Proofs.YtjiakfblgefioaaGreatDoor.RedA Go.Proofs.YtjiakfblgefioaaGreatDoor.WitF
set_option linter.unusedVariables false
set_option linter.unusedSimpArgs false

/-- A power of two, next to its exponent. -/
structure PW (P : Int) (e j : Nat) : Prop where
  eq : P = ((2 ^ e : Nat) : Int)
  low : e = 0 ∨ 2 ^ (e - 1) < j
  le : e ≤ 7
theorem PW.bnd {P : Int} {e j : Nat} (h : PW P e j) : 1 ≤ P ∧ P ≤ 128 ∧ (e : Int) ≤ 7 := by
  have h1 := h.eq
  have h2 : 2 ^ e ≤ 2 ^ 7 := Nat.pow_le_pow_right (by omega) h.le
  have h3 : 1 ≤ 2 ^ e := Nat.one_le_two_pow
  have h4 := h.le
  omega
theorem PW.next {P : Int} {e j : Nat} (h : PW P e j) (hlt : P < (j : Int)) (hj : j ≤ 100) : PW (P * 2) (e + 1) j := by
  have h1 := h.eq
  have h7 := h.le
  have h6 : e ≤ 6 := by
    rcases Nat.lt_or_ge e 7 with h | h
    · omega
    · obtain rfl : e = 7 := by omega
      omega
  refine ⟨by rw [h1, Nat.pow_succ]; push_cast; rfl, .inr ?_, by omega⟩
  rw [Nat.add_sub_cancel]
  omega
theorem PW.high {P : Int} {e j : Nat} (h : PW P e j) (hle : (j : Int) ≤ P) : high j = e := by
  have h1 := h.eq
  have h2 := h.low
  have h7 := h.le
  have hc : e = 0 ∨ e = 1 ∨ e = 2 ∨ e = 3 ∨ e = 4 ∨ e = 5 ∨ e = 6 ∨ e = 7 := by omega
  unfold WitS.high
  rcases hc with rfl | rfl | rfl | rfl | rfl | rfl | rfl | rfl <;> simp at h1 h2 <;> (repeat' split) <;> omega

set_option maxRecDepth 100000 in
set_option maxHeartbeats 4000000 in
theorem Long_ok (w : World) (n : Int) : Calls Tryz.prog 6 #[.int .i64 n] w (if 1 ≤ n ∧ n ≤ 100 then LongPost n (longL n.toNat) w else LongNo w) := by
  by_cases hin : 1 ≤ n ∧ n ≤ 100
  · obtain ⟨m, rfl⟩ : ∃ m : Nat, n = m := ⟨n.toNat, by omega⟩
    rw [if_pos hin]
    have hN := fun (w : World) (j : Nat) => WitR.nth_ok w ((j : Int) + 1)
    have hS := fun w => WitR.setup_ok w 0 (high m)
    have hD := fun w => WitR.deliver_ok w 0
    have hC := fun w t => WitR.client_ok w t
    unfold setV at hS
    obtain ⟨hi, hhi⟩ : ∃ x, x = high m := ⟨_, rfl⟩
    rw [← hhi] at hS
    have HHI := Lib.hid hhi
    have HN := Lib.hid hN
    have HS := Lib.hid hS
    have HD := Lib.hid hD
    have HC := Lib.hid hC
    clear hN hS hD hC hhi
    obtain ⟨hi1, hi2⟩ := hin
    obtain ⟨w0, hw0⟩ : ∃ w0, w0 = w.alloc (.cells #[.int .i64 0, .int .u64 0, .int .i64 0, .int .i64 0, .int .i64 0] 24) := ⟨_, rfl⟩
    have hb0 : Below w.heap.size w w0 := by rw [hw0]; exact ((Below.refl _ w).alloc (Nat.le_refl _) _)
    have hx0 : w0.heap[w.heap.size]? = some (.cells #[.int .i64 0, .int .u64 0, .int .i64 0, .int .i64 0, .int .i64 0] 24 (0, 0)) := by rw [hw0]; exact heap_new _ _
    have HBL0 := Lib.hid hb0
    have HW0 := Lib.hid hw0
    have lx0 := lt_row hx0
    obtain ⟨cx0, fx0⟩ := row_facts hx0
    have HX0 := Lib.hid hx0
    clear hb0 hw0 hx0 cx0 fx0
    go_enter Tryz.func6, Tryz.ntmps6
    go_wp2
    rw [← HW0.out]
    go_loopw [6, 5] (fun i s wr => ∃ (j : Nat) (v : Value), i = .int .i64 ((j : Int) + 1) ∧ s = v ∧ j ≤ m ∧ Ow wr (w.heap.size + 1) 49 5 v (longL j).length (ddV (longL j)) ∧ Below w.heap.size w wr ∧ wr.heap[w.heap.size]? = some (.cells #[.int .i64 0, .int .u64 0, .int .i64 0, .int .i64 0, .int .i64 0] 24 (0, 0))) (fun i _ _ => m + 1 - (intOf i).toNat)
    case atStart => exact ⟨0, _, rfl, rfl, by omega, Ow.nil _ _ _ _, HBL0.out, HX0.out⟩
    case round =>
      obtain ⟨j, v, rfl, rfl, hj, hO, hB, hx1⟩ := hrel
      obtain ⟨av, cv, rfl, _, _⟩ := hO.form
      have HO1 := Lib.hid hO
      have HBL1 := Lib.hid hB
      have lx1 := lt_row hx1
      obtain ⟨cx1, fx1⟩ := row_facts hx1
      have hlen := longL_length j
      obtain ⟨q, hq⟩ : ∃ q, q = (longL j).length := ⟨_, rfl⟩
      rw [← hq] at HO1 hlen ⊢
      have hq300 : q ≤ 300 := by omega
      have Hq := Lib.hid hq
      have Hlen := Lib.hid hlen
      clear hO hB hq hlen
      by_cases hlt : j < m
      · skip
        have hwr1 : wrap64 ((j : Int) + 1 + 1) = (j : Int) + 2 := by unfold wrap64; omega
        clear hwr1
        obtain ⟨w1, hw1⟩ : ∃ w1, w1 = wr := ⟨_, rfl⟩
        subst hw1
        go_wp2_with fail
        refine (HN.out w1 j).mono ?_
        rintro e w2 ⟨rfl, hb⟩
        have HBL2 := Lib.hid (HBL1.out.trans (hb.mono HBL1.out.size))
        have hx2 := (hb.block _ lx1).trans hx1
        have lx2 := lt_row hx2
        obtain ⟨cx2, fx2⟩ := row_facts hx2
        have HO2 := Lib.hid (HO1.out.ext (Ext.ofB hb) (fun _ _ h => h))
        clear hb hx1 cx1 fx1
        go_wp2_with fail
        refine (HC.out w2 (nthT ((j : Int) + 1))).mono ?_
        rintro e w3 ⟨rfl, hb⟩
        have HBL3 := Lib.hid (HBL2.out.trans (hb.mono HBL2.out.size))
        have hx3 := (hb.block _ lx2).trans hx2
        have lx3 := lt_row hx3
        obtain ⟨cx3, fx3⟩ := row_facts hx3
        have HO3 := Lib.hid (HO2.out.ext (Ext.ofB hb) (fun _ _ h => h))
        clear hb hx2 cx2 fx2
        go_wp2_with fail
        refine (HD.out w3).mono ?_
        rintro e w4 ⟨rfl, hb⟩
        have HBL4 := Lib.hid (HBL3.out.trans (hb.mono HBL3.out.size))
        have hx4 := (hb.block _ lx3).trans hx3
        have lx4 := lt_row hx4
        obtain ⟨cx4, fx4⟩ := row_facts hx4
        have HO4 := Lib.hid (HO3.out.ext (Ext.ofB hb) (fun _ _ h => h))
        clear hb hx3 cx3 fx3
        go_wp2_with fail
        refine (HD.out w4).mono ?_
        rintro e w5 ⟨rfl, hb⟩
        have HBL5 := Lib.hid (HBL4.out.trans (hb.mono HBL4.out.size))
        have hx5 := (hb.block _ lx4).trans hx4
        have lx5 := lt_row hx5
        obtain ⟨cx5, fx5⟩ := row_facts hx5
        have HO5 := Lib.hid (HO4.out.ext (Ext.ofB hb) (fun _ _ h => h))
        clear hb hx4 cx4 fx4
        go_wp2_with (at_builtin; go_must (refine wpList_appF _ rfl (.tmp 21) (.tmp 27) _ _ rfl tyDeeds (w.heap.size + 1) _ q (ddV (longL j)) rfl (HO5.out.ext (Ext.ofB ((Below.refl _ w5).alloc (Nat.le_refl _) (.cells #[.int .u8 1, .int .i64 0, .int .i64 0, .string (nthT ((j : Int) + 1)), .int .u8 0, .int .u8 6, .int .i64 0, .int .i64 0, .string ⟨#[]⟩, .int .u8 0, .int .u8 6, .int .i64 0, .int .i64 0, .string ⟨#[]⟩, .int .u8 0] 49))) (fun _ _ h => h)) _ 3 (ddV [cl (nthT ((j : Int) + 1)), dl 0, dl 0]) rfl ((deeds_sl (L := [cl (nthT ((j : Int) + 1)), dl 0, dl 0]) (heap_new w5 (.cells #[.int .u8 1, .int .i64 0, .int .i64 0, .string (nthT ((j : Int) + 1)), .int .u8 0, .int .u8 6, .int .i64 0, .int .i64 0, .string ⟨#[]⟩, .int .u8 0, .int .u8 6, .int .i64 0, .int .i64 0, .string ⟨#[]⟩, .int .u8 0] 49)) rfl (by simp)).src tyDeeds.ht (dd_one _)) (q + 3) rfl (ddV ((longL j) ++ [cl (nthT ((j : Int) + 1)), dl 0, dl 0])) (by unfold ddV; simp only [List.flatMap_append]) ?h63 ?hby ?hba ?go))
        case h63 => unfold maxLen; omega
        case hby => omega
        case hba => have := lx5; simp; omega
        case go =>
        intro a6 c6 w6 hown hgr _
        have hbb : Below w.heap.size w w6 := ((Bl.new HBL5.out (.cells #[.int .u8 1, .int .i64 0, .int .i64 0, .string (nthT ((j : Int) + 1)), .int .u8 0, .int .u8 6, .int .i64 0, .int .i64 0, .string ⟨#[]⟩, .int .u8 0, .int .u8 6, .int .i64 0, .int .i64 0, .string ⟨#[]⟩, .int .u8 0] 49))).grown hgr (by have := HBL5.out.size; simp; omega) (fun k hk => by have := (HO5.out.lt k hk).1; omega)
        have hx6 := heap_gr hgr (heap_at hx5 (.cells #[.int .u8 1, .int .i64 0, .int .i64 0, .string (nthT ((j : Int) + 1)), .int .u8 0, .int .u8 6, .int .i64 0, .int .i64 0, .string ⟨#[]⟩, .int .u8 0, .int .u8 6, .int .i64 0, .int .i64 0, .string ⟨#[]⟩, .int .u8 0] 49)) (fun e => by have := (HO5.out.lt _ e).1; omega)
        have HBL6 := Lib.hid hbb
        have HO6 := Lib.hid hown
        have lx6 := lt_row hx6
        obtain ⟨cx6, fx6⟩ := row_facts hx6
        clear hbb hown hgr hx5 cx5 fx5
        have hsucc : longL j ++ [cl (nthT ((j : Int) + 1)), dl 0, dl 0] = longL (j + 1) := by rw [longL_succ]; rfl
        have hq3 : q + 3 = (longL (j + 1)).length := by rw [longL_length, Hlen.out]; omega
        have hOO : Ow w6 (w.heap.size + 1) 49 5 (.slice a6 (q + 3) c6) (longL (j + 1)).length (ddV (longL (j + 1))) := by rw [← hq3, show ddV (longL (j + 1)) = List.flatMap Dd.cs (longL j) ++ ((cl (nthT ((j : Int) + 1))).cs ++ ((dl 0).cs ++ (dl 0).cs)) by rw [← hsucc]; simp [ddV]]; exact HO6.out
        have HOF := Lib.hid hOO
        clear hsucc hOO
        clear hq3
        have HXF := Lib.hid hx6
        clear hx6 cx6 fx6
        go_wp2
        go_roundw
        case rel => exact ⟨j + 1, _, by go_num, rfl, by omega, HOF.out, HBL6.out, HXF.out⟩
        case measure => simp [intOf]; omega
      · obtain rfl : j = m := by omega
        have HX1 := Lib.hid hx1
        clear hx1 cx1 fx1
        go_wp2
        obtain ⟨w1, hw1⟩ : ∃ w1, w1 = wr := ⟨_, rfl⟩
        subst hw1
        go_loopw [8, 7] (fun i h wq => ∃ (P : Int) (e : Nat), i = .int .i64 P ∧ h = .int .i64 e ∧ PW P e j ∧ wq = w1) (fun i _ _ => 2 * j - (intOf i).toNat)
        case atStart => exact ⟨1, 0, rfl, rfl, ⟨rfl, .inl rfl, by omega⟩, rfl⟩
        case round =>
          obtain ⟨P, e, rfl, rfl, hP, rfl⟩ := hrel
          have hb1 := hP.bnd
          have HPW := Lib.hid hP
          clear hP
          by_cases hlt2 : P < (j : Int)
          · have hP2 := HPW.out.next hlt2 (by omega)
            have HP2 := Lib.hid hP2
            clear hP2
            go_wp2
            go_roundw
            case rel => exact ⟨P * 2, e + 1, rfl, by go_num, HP2.out, by trivial⟩
            case measure => simp [intOf]; omega
          · have hhi := HPW.out.high (by omega)
            rw [← HHI.out] at hhi
            have HHI2 := Lib.hid hhi
            clear hhi
            go_wp2_with fail
            rw [← HHI2.out]
            refine (HS.out _).mono ?_
            rintro e w2 ⟨rfl, hb⟩
            have HBL2 := Lib.hid (HBL1.out.trans (hb.mono HBL1.out.size))
            have HO2 := Lib.hid (HO1.out.ext (Ext.ofB hb) (fun _ _ h => h))
            have hx2 := (hb.block _ lx1).trans HX1.out
            have lx2 := lt_row hx2
            obtain ⟨cx2, fx2⟩ := row_facts hx2
            clear hb
            go_wp2
            obtain ⟨wf, hwf⟩ : ∃ wf, wf = Sets.set5 w2 w.heap.size (.int .i64 3) (.int .u64 0) (.int .i64 hi) (.int .i64 1048576) (.int .i64 2) := ⟨_, rfl⟩
            have hxf : wf.heap[w.heap.size]? = some (.cells #[.int .i64 3, .int .u64 0, .int .i64 hi, .int .i64 1048576, .int .i64 2] 24 (0, 0)) := by rw [hwf]; exact Sets.set5_row hx2 ..
            have hof : Sl wf (.slice av q cv) 5 q (ddV (longL j)) := by
              refine (HO2.out.ext (S := fun k => k = w.heap.size) ⟨by rw [hwf]; rfl, by rw [hwf]; rfl, by rw [hwf]; rfl, by rw [hwf, Sets.set5_size]; omega, fun k _ hk => by rw [hwf]; exact Sets.set5_far hk ..⟩ (fun k hk e => ?_)).sl
              have := (HO2.out.lt k hk).1
              omega
            have hof2 : Sl wf (.slice av q cv) 5 (longL j).length (ddV (longL j)) := by rw [← Hq.out]; exact hof
            have hbf : Below w.heap.size w wf := by rw [hwf]; exact Sets.set5_below HBL2.out (Nat.le_refl _) ..
            change bodyPost _ _ _ _ _ (Sets.set5 w2 w.heap.size (.int .i64 3) (.int .u64 0) (.int .i64 hi) (.int .i64 1048576) (.int .i64 2))
            rw [← hwf]
            refine bodyPost_ret (v := .tuple #[.agg #[.int .i64 3, .int .u64 0, .int .i64 hi, .int .i64 1048576, .int .i64 2], .slice av q cv, .int .i64 0]) (results_cell_slot2 rfl _ _ w.heap.size 24 #[.int .i64 3, .int .u64 0, .int .i64 hi, .int .i64 1048576, .int .i64 2] (0, 0) _ rfl hxf Tryz.underlying24 rfl setI rfl rfl) rfl ?_
            exact ⟨_, by rw [HHI.out]; rfl, hof2, hbf⟩
  · rw [if_neg hin]
    have hc : n < 1 ∨ 100 < n := by omega
    clear hin
    rcases hc with hc | hc
    all_goals
      go_enter Tryz.func6, Tryz.ntmps6
      go_wp2
      exact bodyPost_ret (v := .tuple #[.agg #[.int .i64 0, .int .u64 0, .int .i64 0, .int .i64 0, .int .i64 0], .slice none 0 0, .int .i64 1]) (by simp [results, Tryz.results6, go_sem]) rfl ⟨rfl, (Below.refl _ w).alloc (Nat.le_refl _) _⟩


end Go.Proofs.YtjiakfblgefioaaGreatDoor.WitH
