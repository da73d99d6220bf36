/-
  WHAT IS PROVED: what the scripts' functions answer. Condition: the variables hold what 'VarsE' says.
-/
import Derived.Test.YtjiakfblgefioaaGreatDoorWitD
namespace Go.Proofs.YtjiakfblgefioaaGreatDoor.WitE
open Go Go.RowKit Go.Shelf Go.Proofs.YtjiakfblgefioaaGreatDoor Go.Proofs.YtjiakfblgefioaaGreatDoor.OctetS Go.Proofs.YtjiakfblgefioaaGreatDoor.IdentS Go.Proofs.YtjiakfblgefioaaGreatDoor.EventS Go.Proofs.YtjiakfblgefioaaGreatDoor.EntS Go.Proofs.YtjiakfblgefioaaGreatDoor.OctP Go.Proofs.YtjiakfblgefioaaGreatDoor.OctQ Go.Proofs.YtjiakfblgefioaaGreatDoor.IdentP Go.Proofs.YtjiakfblgefioaaGreatDoor.IdentR Go.Proofs.YtjiakfblgefioaaGreatDoor.EventP Go.Proofs.YtjiakfblgefioaaGreatDoor.EventC Go.Proofs.YtjiakfblgefioaaGreatDoor.EventB Go.Proofs.YtjiakfblgefioaaGreatDoor.EntP Go.Proofs.YtjiakfblgefioaaGreatDoor.RowsX Go.Proofs.YtjiakfblgefioaaGreatDoor.WitS Go.Proofs.YtjiakfblgefioaaGreatDoor.WitA Go.Proofs.YtjiakfblgefioaaGreatDoor.WitB Go.Proofs.YtjiakfblgefioaaGreatDoor.WitC Go.Proofs.YtjiakfblgefioaaGreatDoor.WitL Go.Proofs.YtjiakfblgefioaaGreatDoor.WitD Go.Proofs.YtjiakfblgefioaaGreatDoor.RedA
set_option linter.unusedVariables false
set_option linter.unusedSimpArgs false

/-- The results of a function: a row, and two slots. -/
theorem results_cell_slot2 {P : Program} {fn : Func} {p q r : Tmp} {ty : TypeId} (h : fn.results = #[.cell p ty, .tmp q, .tmp r]) (tmps : Array Value) (w : World) (g : Nat) (t : TypeId) (cs : Array Value) (fr : Nat × Nat) (d : TypeDesc)
    (hp : tmps.getD p undef = .pointer (some ⟨g, 0, none⟩)) (hg : w.heap[g]? = some (.cells cs t fr))
    (hu : P.underlying ty = some d) (hd : (match d with | .struct _ | .array _ _ => true | _ => false) = true) (hi : (P.info? ty).map (·.size) = some cs.size) {v u : Value} (hq : tmps.getD q undef = v) (hr : tmps.getD r undef = u) :
    (results fn tmps).run P w = .ok (.tuple #[.agg cs, v, u]) w := by
  have hp' : tmps[p]?.getD undef = .pointer (some ⟨g, 0, none⟩) := by simpa using hp
  have hq' : tmps[q]?.getD undef = v := by simpa using hq
  have hr' : tmps[r]?.getD undef = u := by simpa using hr
  simp [results, h, hp', hq', hr', asAddr, run_loadVar_row w g t ty cs fr d hg hu hd hi]

set_option maxRecDepth 100000 in
set_option maxHeartbeats 4000000 in
theorem Turn_ok (w : World) (hv : VarsE w) : Calls Tryz.prog 9 #[] w (ScrPost (setV 0 3) turnL w) := by
  have hN1 := fun w hv => nth_ok w 1 hv
  have hN2 := fun w hv => nth_ok w 2 hv
  have hN4 := fun w hv => nth_ok w 4 hv
  have hT := fun w hv => text_ok w ⟨#[]⟩ ⟨#[]⟩ 8 ⟨#[]⟩ ⟨#[49]⟩ 3 hv (by decide +kernel) (by decide +kernel)
  have hS := fun w => setup_ok w 0 3
  unfold evV at hT
  unfold setV at hS
  obtain ⟨n1, hn1⟩ : ∃ x, x = nthT 1 := ⟨_, rfl⟩
  obtain ⟨n2, hn2⟩ : ∃ x, x = nthT 2 := ⟨_, rfl⟩
  obtain ⟨n4, hn4⟩ : ∃ x, x = nthT 4 := ⟨_, rfl⟩
  obtain ⟨t8, ht8⟩ : ∃ x, x = tx 8 ⟨#[]⟩ ⟨#[49]⟩ 3 := ⟨_, rfl⟩
  have hfin : [] ++ dlsC n1 2 ++ dlsC n2 2 ++ dlsC t8 4 ++ dlsC n4 3 = turnL := by
    rw [hn1, hn2, hn4, ht8]
    rfl
  rw [← hn1] at hN1
  rw [← hn2] at hN2
  rw [← hn4] at hN4
  rw [← ht8] at hT
  have HFIN := Lib.hid hfin
  have HN1 := Lib.hid hN1
  have HN2 := Lib.hid hN2
  have HN4 := Lib.hid hN4
  have HT := Lib.hid hT
  have HS := Lib.hid hS
  clear hN1 hN2 hN4 hT hS hn1 hn2 hn4 ht8 hfin
  have HV := Lib.hid hv
  obtain ⟨w0, hw0⟩ : ∃ w0, w0 = (w.alloc (.cells #[.int .i64 0, .int .u64 0, .int .i64 0, .int .i64 0, .int .i64 0] 24)).alloc (.cells #[.slice none 0 0] 42) := ⟨_, rfl⟩
  have hb0 : Below w.heap.size w w0 := by rw [hw0]; exact (((Below.refl _ w).alloc (Nat.le_refl _) _).alloc (by simp) _)
  have hx0 : w0.heap[w.heap.size]? = some (.cells #[.int .i64 0, .int .u64 0, .int .i64 0, .int .i64 0, .int .i64 0] 24 (0, 0)) := by rw [hw0]; exact heap_at (heap_new _ _) _
  have hy0 : w0.heap[(w.heap.size + 1)]? = some (.cells #[.slice none 0 0] 42 (0, 0)) := by rw [hw0]; exact heap_new' _ (by simp)
  have HBL0 := Lib.hid hb0
  have HW0 := Lib.hid hw0
  have lx0 := lt_row hx0
  obtain ⟨cx0, fx0⟩ := row_facts hx0
  have ly0 := lt_row hy0
  obtain ⟨cy0, fy0⟩ := row_facts hy0
  have P0 : PlayAt (w.heap.size + 1) (w.heap.size + 1) w0 (.slice none 0 0) [] := ⟨hy0, Ow.nil _ _ _ _, Nat.le_refl _⟩
  have HP0 := Lib.hid P0
  have HX0 := Lib.hid hx0
  have s0 : w.heap.size + 1 < w0.heap.size := ly0
  clear P0 hb0 hw0 hv hx0 cx0 fx0 hy0 cy0 fy0 ly0 lx0
  go_enter Tryz.func9, Tryz.ntmps9
  go_wp2_with fail
  rw [← HW0.out]
  refine (HN1.out w0 (HV.out.below HBL0.out)).mono ?_
  rintro e w1 ⟨rfl, hb⟩
  have HBL1 := Lib.hid (HBL0.out.trans (hb.mono HBL0.out.size))
  have HP1 := Lib.hid (HP0.out.below hb)
  have HX1 := Lib.hid ((hb.block _ (by omega)).trans HX0.out)
  have s1 : w.heap.size + 1 < w1.heap.size := Nat.lt_of_lt_of_le s0 hb.size
  clear hb s0
  go_wp2_with fail
  refine (client_ok w1 (w.heap.size + 1) (w.heap.size + 1) _ _ n1 2 HP1.out (by omega) (by omega) (by omega) (by simp [dlsC])).mono ?_
  rintro e w2 ⟨rfl, v2, hP, hb⟩
  have HBL2 := Lib.hid (HBL1.out.trans (hb.mono (by omega)))
  have HP2 := Lib.hid hP
  have HX2 := Lib.hid ((hb.block _ (by omega)).trans HX1.out)
  have s2 : w.heap.size + 1 < w2.heap.size := Nat.lt_of_lt_of_le s1 hb.size
  clear hb hP s1
  go_wp2_with fail
  refine (HN2.out w2 (HV.out.below HBL2.out)).mono ?_
  rintro e w3 ⟨rfl, hb⟩
  have HBL3 := Lib.hid (HBL2.out.trans (hb.mono HBL2.out.size))
  have HP3 := Lib.hid (HP2.out.below hb)
  have HX3 := Lib.hid ((hb.block _ (by omega)).trans HX2.out)
  have s3 : w.heap.size + 1 < w3.heap.size := Nat.lt_of_lt_of_le s2 hb.size
  clear hb s2
  go_wp2_with fail
  refine (client_ok w3 (w.heap.size + 1) (w.heap.size + 1) _ _ n2 2 HP3.out (by omega) (by omega) (by omega) (by simp [dlsC])).mono ?_
  rintro e w4 ⟨rfl, v4, hP, hb⟩
  have HBL4 := Lib.hid (HBL3.out.trans (hb.mono (by omega)))
  have HP4 := Lib.hid hP
  have HX4 := Lib.hid ((hb.block _ (by omega)).trans HX3.out)
  have s4 : w.heap.size + 1 < w4.heap.size := Nat.lt_of_lt_of_le s3 hb.size
  clear hb hP s3
  go_wp2_with fail
  refine (HT.out w4 (HV.out.below HBL4.out)).mono ?_
  rintro e w5 ⟨rfl, hb⟩
  have HBL5 := Lib.hid (HBL4.out.trans (hb.mono HBL4.out.size))
  have HP5 := Lib.hid (HP4.out.below hb)
  have HX5 := Lib.hid ((hb.block _ (by omega)).trans HX4.out)
  have s5 : w.heap.size + 1 < w5.heap.size := Nat.lt_of_lt_of_le s4 hb.size
  clear hb s4
  go_wp2_with fail
  refine (client_ok w5 (w.heap.size + 1) (w.heap.size + 1) _ _ t8 4 HP5.out (by omega) (by omega) (by omega) (by simp [dlsC])).mono ?_
  rintro e w6 ⟨rfl, v6, hP, hb⟩
  have HBL6 := Lib.hid (HBL5.out.trans (hb.mono (by omega)))
  have HP6 := Lib.hid hP
  have HX6 := Lib.hid ((hb.block _ (by omega)).trans HX5.out)
  have s6 : w.heap.size + 1 < w6.heap.size := Nat.lt_of_lt_of_le s5 hb.size
  clear hb hP s5
  go_wp2_with fail
  refine (HN4.out w6 (HV.out.below HBL6.out)).mono ?_
  rintro e w7 ⟨rfl, hb⟩
  have HBL7 := Lib.hid (HBL6.out.trans (hb.mono HBL6.out.size))
  have HP7 := Lib.hid (HP6.out.below hb)
  have HX7 := Lib.hid ((hb.block _ (by omega)).trans HX6.out)
  have s7 : w.heap.size + 1 < w7.heap.size := Nat.lt_of_lt_of_le s6 hb.size
  clear hb s6
  go_wp2_with fail
  refine (client_ok w7 (w.heap.size + 1) (w.heap.size + 1) _ _ n4 3 HP7.out (by omega) (by omega) (by omega) (by simp [dlsC])).mono ?_
  rintro e w8 ⟨rfl, v8, hP, hb⟩
  have HBL8 := Lib.hid (HBL7.out.trans (hb.mono (by omega)))
  have HP8 := Lib.hid hP
  have HX8 := Lib.hid ((hb.block _ (by omega)).trans HX7.out)
  have s8 : w.heap.size + 1 < w8.heap.size := Nat.lt_of_lt_of_le s7 hb.size
  clear hb hP s7
  go_wp2_with fail
  have hY := HP8.out.blk
  refine wp_region_noPanic ?_
  refine Wr.region_K (S := (fun W => W.heap[w.heap.size + 1]? = some (.cells #[v8] 42 (0, 0)))) (K := []) (by kernel_rfl) ?_
  change Wr.wpAnyK _ _ _ _ _ _ _ _ _ (World.drew w8)
  have hS0 : (World.drew w8).heap[w.heap.size + 1]? = some (.cells #[v8] 42 (0, 0)) := hY
  have hBL0 : Below w8.heap.size w8 (World.drew w8) := Bl.drew (Below.refl _ _)
  refine Wr.wpAnyK_take (i := 1) (v := ?_) rfl (by kernel_rfl) (fun _ _ _ h => h) (Or.inl ⟨by rfl, ?_⟩) hS0 ?_
  rotate_left
  · intro wq hSw
    have q0 := hSw
    obtain ⟨qc0, qf0⟩ := row_facts q0
    go_simp
    rfl
  simp only [Act.put, List.getElem_toArray, List.getElem_cons_zero, List.getElem_cons_succ, List.setIfInBounds_toArray, List.set_cons_zero, List.set_cons_succ]
  refine Wr.wpAnyK_one (i := 0) (by kernel_rfl) ?_
  refine wpOp_call rfl (by rfl) (by go_simp; first | done | rfl | exact ⟨⟨rfl, rfl⟩, rfl⟩ | exact ⟨rfl, rfl⟩) ?_
  refine (HS.out (World.drew w8)).mono ?_
  rintro e wa ⟨rfl, hb_wa⟩
  have hS1 : wa.heap[w.heap.size + 1]? = some (.cells #[v8] 42 (0, 0)) := (hb_wa.block _ (lt_row (hS0))).trans (hS0)
  have hBL1 : Below w8.heap.size w8 wa := hBL0.trans (hb_wa.mono hBL0.size)
  refine ⟨_, rfl, ?_, ?_⟩
  · exact hS1
  simp only [Act.put, List.getElem_toArray, List.getElem_cons_zero, List.getElem_cons_succ, List.setIfInBounds_toArray, List.set_cons_zero, List.set_cons_succ]
  have qy := hS1
  have qx := (hBL1.block _ (by omega)).trans HX8.out
  obtain ⟨cx, fx⟩ := row_facts qx
  have lx := lt_row qx
  refine Wr.wpAnyK_one (i := 2) (by kernel_rfl) ?_
  refine wpOp_skip rfl (by rfl) (w' := Sets.set5 wa w.heap.size (.int .i64 3) (.int .u64 0) (.int .i64 3) (.int .i64 1048576) (.int .i64 2)) (by go_simp; first | done | rfl) ?_
  obtain ⟨wb, hwb⟩ : ∃ wb, wb = Sets.set5 wa w.heap.size (.int .i64 3) (.int .u64 0) (.int .i64 3) (.int .i64 1048576) (.int .i64 2) := ⟨_, rfl⟩
  rw [← hwb]
  have qyb : wb.heap[w.heap.size + 1]? = some (.cells #[v8] 42 (0, 0)) := by rw [hwb]; exact (Sets.set5_far (by omega) ..).trans qy
  have hxb : wb.heap[w.heap.size]? = some (.cells #[.int .i64 3, .int .u64 0, .int .i64 3, .int .i64 1048576, .int .i64 2] 24 (0, 0)) := by rw [hwb]; exact Sets.set5_row qx ..
  have hPb : Ow wb (w.heap.size + 1) 49 5 v8 ([] ++ dlsC n1 2 ++ dlsC n2 2 ++ dlsC t8 4 ++ dlsC n4 3).length (ddV ([] ++ dlsC n1 2 ++ dlsC n2 2 ++ dlsC t8 4 ++ dlsC n4 3)) := by
    have hA := (HP8.out.below hBL1).own
    refine hA.ext (S := fun k => k = w.heap.size) ⟨by rw [hwb]; rfl, by rw [hwb]; rfl, by rw [hwb]; rfl, by rw [hwb, Sets.set5_size]; omega, fun k _ hk => by rw [hwb]; exact Sets.set5_far hk ..⟩ (fun k hk e => ?_)
    have := (hA.lt k hk).1
    omega
  have hBb : Below w.heap.size w wb := by rw [hwb]; exact Sets.set5_below (HBL8.out.trans (hBL1.mono HBL8.out.size)) (Nat.le_refl _) ..
  have HXB := Lib.hid hxb
  have HPB := Lib.hid hPb
  have HBB := Lib.hid hBb
  clear hxb hPb hBb hwb qx qy cx fx lx hb_wa hBL1
  refine ⟨qyb, ?_⟩
  simp only [Act.put, List.getElem_toArray, List.getElem_cons_zero, List.getElem_cons_succ, List.setIfInBounds_toArray, List.set_cons_zero, List.set_cons_succ]
  have hS2 := qyb
  refine Wr.wpAnyK_take (i := 3) (v := ?_) rfl (by kernel_rfl) (fun _ _ _ h => h) (Or.inl ⟨by rfl, ?_⟩) hS2 ?_
  rotate_left
  · intro wq hSw
    have q0 := hSw
    obtain ⟨qc0, qf0⟩ := row_facts q0
    go_simp
    rfl
  simp only [Act.put, List.getElem_toArray, List.getElem_cons_zero, List.getElem_cons_succ, List.setIfInBounds_toArray, List.set_cons_zero, List.set_cons_succ]
  refine Wr.wpAnyK_done (by kernel_rfl) (NoPanic.normal ?_) _
  go_wp2
  refine bodyPost_ret (v := .tuple #[setV 0 3, v8]) (results_cell_slot rfl _ _ w.heap.size 24 #[.int .i64 3, .int .u64 0, .int .i64 3, .int .i64 1048576, .int .i64 2] (0, 0) _ rfl HXB.out Tryz.underlying24 rfl setI rfl) rfl ?_
  exact ⟨_, rfl, by rw [← HFIN.out]; exact HPB.out.sl, HBB.out⟩

set_option maxRecDepth 100000 in
set_option maxHeartbeats 4000000 in
theorem Long_ok (w : World) (n : Int) (hv : VarsE w) : Calls Tryz.prog 5 #[.int .i64 n] w (if 1 ≤ n ∧ n ≤ 100 then LongPost n (longL n.toNat) w else LongNo w) := by
  by_cases hin : 1 ≤ n ∧ n ≤ 100
  · obtain ⟨m, rfl⟩ : ∃ m : Nat, n = m := ⟨n.toNat, by omega⟩
    rw [if_pos hin]
    have hN := fun (w : World) (j : Nat) hv => nth_ok w ((j : Int) + 1) hv
    have hS := fun w => setup_ok w 0 (high m)
    have hLn := fun w => Len_ok w (m - 1) (by omega)
    unfold setV at hS
    rw [show ((m - 1 : Nat) : Int) + 1 = (m : Int) by omega] at hLn
    rw [show (m - 1 : Nat) = ((m : Int) - 1) by omega] at hLn
    obtain ⟨hi, hhi⟩ : ∃ x, x = high m := ⟨_, rfl⟩
    rw [← hhi] at hS hLn
    have HHI := Lib.hid hhi
    have HN := Lib.hid hN
    have HS := Lib.hid hS
    have HLn := Lib.hid hLn
    clear hN hS hLn hhi
    obtain ⟨hi1, hi2⟩ := hin
    have HV := Lib.hid hv
    obtain ⟨w0, hw0⟩ : ∃ w0, w0 = (w.alloc (.cells #[.int .i64 0, .int .u64 0, .int .i64 0, .int .i64 0, .int .i64 0] 24)).alloc (.cells #[.slice none 0 0] 42) := ⟨_, rfl⟩
    have hb0 : Below w.heap.size w w0 := by rw [hw0]; exact (((Below.refl _ w).alloc (Nat.le_refl _) _).alloc (by simp) _)
    have hx0 : w0.heap[w.heap.size]? = some (.cells #[.int .i64 0, .int .u64 0, .int .i64 0, .int .i64 0, .int .i64 0] 24 (0, 0)) := by rw [hw0]; exact heap_at (heap_new _ _) _
    have hy0 : w0.heap[(w.heap.size + 1)]? = some (.cells #[.slice none 0 0] 42 (0, 0)) := by rw [hw0]; exact heap_new' _ (by simp)
    have HBL0 := Lib.hid hb0
    have HW0 := Lib.hid hw0
    have lx0 := lt_row hx0
    obtain ⟨cx0, fx0⟩ := row_facts hx0
    have ly0 := lt_row hy0
    obtain ⟨cy0, fy0⟩ := row_facts hy0
    have P0 : PlayAt (w.heap.size + 1) (w.heap.size + 1) w0 (.slice none 0 0) [] := ⟨hy0, Ow.nil _ _ _ _, Nat.le_refl _⟩
    have HP0 := Lib.hid P0
    have HX0 := Lib.hid hx0
    have s0 : w.heap.size + 1 < w0.heap.size := ly0
    clear P0 hb0 hw0 hv hx0 cx0 fx0 hy0 cy0 fy0 ly0 lx0
    go_enter Tryz.func5, Tryz.ntmps5
    go_wp2
    rw [← HW0.out]
    go_loopw [15] (fun i wr => ∃ (j : Nat) (v : Value), i = .int .i64 j ∧ j ≤ m ∧ PlayAt (w.heap.size + 1) (w.heap.size + 1) wr v (longL j) ∧ Below w.heap.size w wr ∧ wr.heap[w.heap.size]? = some (.cells #[.int .i64 0, .int .u64 0, .int .i64 0, .int .i64 0, .int .i64 0] 24 (0, 0)) ∧ w.heap.size + 1 < wr.heap.size) (fun i _ => m - (intOf i).toNat)
    case atStart => exact ⟨0, _, rfl, by omega, HP0.out, HBL0.out, HX0.out, s0⟩
    case round =>
      obtain ⟨j, v, rfl, hj, hP, hB, hX, hs⟩ := hrel
      have HP := Lib.hid hP
      have HB := Lib.hid hB
      have HX := Lib.hid hX
      clear hP hB hX
      have hlen := longL_length j
      have HLen := Lib.hid hlen
      clear hlen
      by_cases hlt : j < m
      · skip
        go_wp2_with fail
        refine (HN.out wr j (HV.out.below HB.out)).mono ?_
        rintro e w1 ⟨rfl, hb⟩
        have HP1 := Lib.hid (HP.out.below hb)
        have HB1 := Lib.hid (HB.out.trans (hb.mono HB.out.size))
        have HX1 := Lib.hid ((hb.block _ (by omega)).trans HX.out)
        have s1 : w.heap.size + 1 < w1.heap.size := Nat.lt_of_lt_of_le hs hb.size
        clear hb hs
        go_wp2_with fail
        refine (client_ok w1 (w.heap.size + 1) (w.heap.size + 1) _ _ _ 2 HP1.out (by omega) (by omega) (by omega) (by rw [HLen.out]; omega)).mono ?_
        rintro e w2 ⟨rfl, v2, hP, hb⟩
        have HB2 := Lib.hid (HB1.out.trans (hb.mono (by omega)))
        have HX2 := Lib.hid ((hb.block _ (by omega)).trans HX1.out)
        have s2 : w.heap.size + 1 < w2.heap.size := Nat.lt_of_lt_of_le s1 hb.size
        have hsucc : longL j ++ dlsC (nthT ((j : Int) + 1)) 2 = longL (j + 1) := by rw [longL_succ]; rfl
        rw [hsucc] at hP
        have HP2 := Lib.hid hP
        clear hb hP s1 hsucc
        go_wp2
        go_roundw
        case rel => exact ⟨j + 1, _, by go_num, by omega, HP2.out, HB2.out, HX2.out, s2⟩
        case measure => simp [intOf]; omega
      · obtain rfl : j = m := by omega
        go_wp2_with fail
        have hY := HP.out.blk
        have hsub : IntKind.i64.wrap ((j : Int) - 1) = (j : Int) - 1 := IntWalk.i64_in _ (by omega)
        have hcv : IntKind.u64.wrap ((j : Int) - 1) = (j : Int) - 1 := by show ((j : Int) - 1) % 18446744073709551616 = _; omega
        refine wp_region_noPanic ?_
        refine Wr.region_K (S := (fun W => W.heap[w.heap.size + 1]? = some (.cells #[v] 42 (0, 0)))) (K := []) (by kernel_rfl) ?_
        change Wr.wpAnyK _ _ _ _ _ _ _ _ _ (World.drew wr)
        have hS0 : (World.drew wr).heap[w.heap.size + 1]? = some (.cells #[v] 42 (0, 0)) := hY
        have hBL0 : Below wr.heap.size wr (World.drew wr) := Bl.drew (Below.refl _ _)
        refine Wr.wpAnyK_take (i := 0) (v := ?_) rfl (by kernel_rfl) (fun _ _ _ h => h) (Or.inl ⟨by rfl, ?_⟩) hS0 ?_
        rotate_left
        · intro wq hSw
          have q0 := hSw
          obtain ⟨qc0, qf0⟩ := row_facts q0
          go_simp
          rfl
        simp only [Act.put, List.getElem_toArray, List.getElem_cons_zero, List.getElem_cons_succ, List.setIfInBounds_toArray, List.set_cons_zero, List.set_cons_succ]
        refine Wr.wpAnyK_take (i := 1) (v := ?_) rfl (by kernel_rfl) (fun _ _ _ h => h) (Or.inl ⟨by rfl, ?_⟩) hS0 ?_
        rotate_left
        · intro wq hSw
          have q0 := hSw
          obtain ⟨qc0, qf0⟩ := row_facts q0
          go_simp
          rfl
        simp only [Act.put, List.getElem_toArray, List.getElem_cons_zero, List.getElem_cons_succ, List.setIfInBounds_toArray, List.set_cons_zero, List.set_cons_succ]
        refine Wr.wpAnyK_take (i := 2) (v := ?_) rfl (by kernel_rfl) (fun _ _ _ h => h) (Or.inl ⟨by rfl, ?_⟩) hS0 ?_
        rotate_left
        · intro wq hSw
          have q0 := hSw
          obtain ⟨qc0, qf0⟩ := row_facts q0
          go_simp
          rfl
        simp only [Act.put, List.getElem_toArray, List.getElem_cons_zero, List.getElem_cons_succ, List.setIfInBounds_toArray, List.set_cons_zero, List.set_cons_succ]
        refine Wr.wpAnyK_take (i := 5) (v := ?_) rfl (by kernel_rfl) (fun _ _ _ h => h) (Or.inl ⟨by rfl, ?_⟩) hS0 ?_
        rotate_left
        · intro wq hSw
          have q0 := hSw
          obtain ⟨qc0, qf0⟩ := row_facts q0
          go_simp
          rfl
        simp only [Act.put, List.getElem_toArray, List.getElem_cons_zero, List.getElem_cons_succ, List.setIfInBounds_toArray, List.set_cons_zero, List.set_cons_succ]
        refine Wr.wpAnyK_one (i := 3) (by kernel_rfl) ?_
        refine wpOp_call rfl (by rfl) (by go_simp; first | done | rfl | exact ⟨⟨rfl, rfl⟩, rfl⟩ | exact ⟨rfl, rfl⟩) ?_
        refine (HLn.out (World.drew wr)).mono ?_
        rintro e wz ⟨rfl, rfl⟩
        refine ⟨_, rfl, ?_, ?_⟩
        · exact hS0
        simp only [Act.put, List.getElem_toArray, List.getElem_cons_zero, List.getElem_cons_succ, List.setIfInBounds_toArray, List.set_cons_zero, List.set_cons_succ]
        refine Wr.wpAnyK_one (i := 4) (by kernel_rfl) ?_
        refine wpOp_call rfl (by rfl) (by go_simp; first | done | rfl | exact ⟨⟨rfl, rfl⟩, rfl⟩ | exact ⟨rfl, rfl⟩) ?_
        refine (HS.out (World.drew wr)).mono ?_
        rintro e wa ⟨rfl, hb_wa⟩
        have hS1 : wa.heap[w.heap.size + 1]? = some (.cells #[v] 42 (0, 0)) := (hb_wa.block _ (lt_row (hS0))).trans (hS0)
        have hBL1 : Below wr.heap.size wr wa := hBL0.trans (hb_wa.mono hBL0.size)
        refine ⟨_, rfl, ?_, ?_⟩
        · exact hS1
        simp only [Act.put, List.getElem_toArray, List.getElem_cons_zero, List.getElem_cons_succ, List.setIfInBounds_toArray, List.set_cons_zero, List.set_cons_succ]
        have qy := hS1
        have qx := (hBL1.block _ (by omega)).trans HX.out
        obtain ⟨cx, fx⟩ := row_facts qx
        have lx := lt_row qx
        refine Wr.wpAnyK_one (i := 6) (by kernel_rfl) ?_
        refine wpOp_skip rfl (by rfl) (w' := Sets.set5 wa w.heap.size (.int .i64 3) (.int .u64 0) (.int .i64 hi) (.int .i64 1048576) (.int .i64 2)) (by go_simp; first | done | rfl) ?_
        obtain ⟨wb, hwb⟩ : ∃ wb, wb = Sets.set5 wa w.heap.size (.int .i64 3) (.int .u64 0) (.int .i64 hi) (.int .i64 1048576) (.int .i64 2) := ⟨_, rfl⟩
        rw [← hwb]
        have qyb : wb.heap[w.heap.size + 1]? = some (.cells #[v] 42 (0, 0)) := by rw [hwb]; exact (Sets.set5_far (by omega) ..).trans qy
        have hxb : wb.heap[w.heap.size]? = some (.cells #[.int .i64 3, .int .u64 0, .int .i64 hi, .int .i64 1048576, .int .i64 2] 24 (0, 0)) := by rw [hwb]; exact Sets.set5_row qx ..
        have hPb : Ow wb (w.heap.size + 1) 49 5 v (longL j).length (ddV (longL j)) := by
          have hA := (HP.out.below hBL1).own
          refine hA.ext (S := fun k => k = w.heap.size) ⟨by rw [hwb]; rfl, by rw [hwb]; rfl, by rw [hwb]; rfl, by rw [hwb, Sets.set5_size]; omega, fun k _ hk => by rw [hwb]; exact Sets.set5_far hk ..⟩ (fun k hk e => ?_)
          have := (hA.lt k hk).1
          omega
        have hBb : Below w.heap.size w wb := by rw [hwb]; exact Sets.set5_below (HB.out.trans (hBL1.mono HB.out.size)) (Nat.le_refl _) ..
        have HXB := Lib.hid hxb
        have HPB := Lib.hid hPb
        have HBB := Lib.hid hBb
        clear hxb hPb hBb hwb qx qy cx fx lx hb_wa hBL1
        refine ⟨qyb, ?_⟩
        simp only [Act.put, List.getElem_toArray, List.getElem_cons_zero, List.getElem_cons_succ, List.setIfInBounds_toArray, List.set_cons_zero, List.set_cons_succ]
        have hS2 := qyb
        refine Wr.wpAnyK_take (i := 7) (v := ?_) rfl (by kernel_rfl) (fun _ _ _ h => h) (Or.inl ⟨by rfl, ?_⟩) hS2 ?_
        rotate_left
        · intro wq hSw
          have q0 := hSw
          obtain ⟨qc0, qf0⟩ := row_facts q0
          go_simp
          rfl
        simp only [Act.put, List.getElem_toArray, List.getElem_cons_zero, List.getElem_cons_succ, List.setIfInBounds_toArray, List.set_cons_zero, List.set_cons_succ]
        refine Wr.wpAnyK_take (i := 8) (v := ?_) rfl (by kernel_rfl) (fun _ _ _ h => h) (Or.inl ⟨by rfl, ?_⟩) hS2 ?_
        rotate_left
        · intro wq hSw
          have q0 := hSw
          obtain ⟨qc0, qf0⟩ := row_facts q0
          go_simp
          rfl
        simp only [Act.put, List.getElem_toArray, List.getElem_cons_zero, List.getElem_cons_succ, List.setIfInBounds_toArray, List.set_cons_zero, List.set_cons_succ]
        refine Wr.wpAnyK_done (by kernel_rfl) (NoPanic.normal ?_) _
        clear hsub hcv
        go_wp2
        refine bodyPost_ret (v := .tuple #[.agg #[.int .i64 3, .int .u64 0, .int .i64 hi, .int .i64 1048576, .int .i64 2], v, .int .i64 0]) (results_cell_slot2 rfl _ _ w.heap.size 24 #[.int .i64 3, .int .u64 0, .int .i64 hi, .int .i64 1048576, .int .i64 2] (0, 0) _ rfl HXB.out Tryz.underlying24 rfl setI rfl rfl) rfl ?_
        exact ⟨v, by rw [HHI.out]; rfl, HPB.out.sl, HBB.out⟩
  · rw [if_neg hin]
    have hc : n < 1 ∨ 100 < n := by omega
    clear hv hin
    rcases hc with hc | hc
    all_goals
      go_enter Tryz.func5, Tryz.ntmps5
      go_wp2
      exact bodyPost_ret (v := .tuple #[.agg #[.int .i64 0, .int .u64 0, .int .i64 0, .int .i64 0, .int .i64 0], .slice none 0 0, .int .i64 1]) (by simp [results, Tryz.results5, go_sem]) rfl ⟨rfl, (Below.refl _ w).alloc (Nat.le_refl _) _⟩


end Go.Proofs.YtjiakfblgefioaaGreatDoor.WitE
