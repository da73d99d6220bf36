/-
  WHAT IS PROVED: what the document's own answer on an identifier's text is. No condition beside the bounds that each theorem names.
-/
import Derived.Test.YtfodloepkgkilaaDoorRefC
import Derived.BigQuiet
namespace Go.Proofs.YtfodloepkgkilaaDoor.RefT
open Go Go.RowKit Go.Proofs.YtfodloepkgkilaaDoor Go.Proofs.YtfodloepkgkilaaDoor.IdentS Go.Proofs.YtfodloepkgkilaaDoor.IdentP Go.Proofs.YtfodloepkgkilaaDoor.RefI Go.Proofs.YtfodloepkgkilaaDoor.RefC
set_option linter.unusedVariables false

set_option maxHeartbeats 1000000 in
theorem Text_no (w : World) (k : Int) (nm : ByteArray) (sv : Int) (hn : nm.size ≤ maxLen) (h : okB (idOf k nm sv) = false) : Calls Tryd.prog 15 #[.agg #[.int .u8 k, .string nm, .int .i64 sv]] w (TextNo w) := by
  have hc : (k ≠ 1 ∧ k ≠ 2) ∨ ((k = 1 ∨ k = 2) ∧ nameB (bl nm) = false) ∨ ((k = 1 ∨ k = 2) ∧ nameB (bl nm) = true ∧ sv < 0) ∨ ((k = 1 ∨ k = 2) ∧ nameB (bl nm) = true ∧ 0 ≤ sv ∧ 63 < sv) := by
    unfold okB idOf at h
    simp only at h
    by_cases h1 : k = 1 ∨ k = 2
    · cases hb : nameB (bl nm)
      · exact .inr (.inl ⟨h1, rfl⟩)
      · by_cases h0 : sv < 0
        · exact .inr (.inr (.inl ⟨h1, rfl, h0⟩))
        · by_cases h3 : 63 < sv
          · exact .inr (.inr (.inr ⟨h1, rfl, by omega, h3⟩))
          · exfalso
            rw [hb] at h
            have a1 : decide (0 ≤ sv) = true := by simp; omega
            have a2 : decide (sv ≤ 63) = true := by simp; omega
            rw [a1, a2] at h
            rcases h1 with h1 | h1 <;> simp [h1] at h
    · exact .inl (by omega)
  rcases hc with ⟨h1, h2⟩ | ⟨h1, hb⟩ | ⟨h1, hb, h3⟩ | ⟨h1, hb, h3, h4⟩
  · have b1 : (k != 1) = true := by simp [h1]
    have b2 : (k != 2) = true := by simp [h2]
    have b3 : (k == 2) = false := by simp [h2]
    go_enter Tryd.func15, Tryd.ntmps15
    go_wp2
    go_ret2
    exact ⟨rfl, (Below.refl _ _).alloc (Nat.le_refl _) _⟩
  all_goals
    have hnm := fun w => RefI.name_ok w nm hn
    rw [hb] at hnm
    have Hnm := Lib.hid hnm
    clear hnm hb h
    rcases h1 with rfl | rfl
  all_goals
    go_enter Tryd.func15, Tryd.ntmps15
    go_wp2_with fail
    refine (Hnm.out _).mono ?_
    rintro e w' ⟨rfl, rfl⟩
    go_wp2
    go_ret2
    exact ⟨rfl, (Below.refl _ _).alloc (Nat.le_refl _) _⟩

set_option maxHeartbeats 1000000 in
theorem Text_ok (w : World) (k : Int) (nm : ByteArray) (sv : Int) (h : okB (idOf k nm sv) = true) :
    Calls Tryd.prog 15 #[.agg #[.int .u8 k, .string nm, .int .i64 sv]] w fun e w' => e = .returned (.tuple #[.string (bsOf (textOf (idOf k nm sv))), .int .i64 0]) ∧ Below w.heap.size w w' := by
  obtain ⟨hk, hb, h0, h1⟩ := ok_spec h
  have hn := (name_spec hb).2.2
  simp only [idOf] at hk hb h0 h1 hn
  rw [bl_length] at hn
  obtain ⟨n, rfl⟩ : ∃ n : Nat, sv = n := ⟨sv.toNat, by omega⟩
  have hnm := fun w => RefI.name_ok w nm (by unfold maxLen; omega)
  rw [hb] at hnm
  have hN := fun w => Number_ok w n (by omega)
  obtain ⟨d, hd⟩ : ∃ d, d = bsOf (digits n) := ⟨_, rfl⟩
  rw [← hd] at hN
  have hz : d.size ≤ 2 := by rw [hd, size_bsOf]; unfold digits; split <;> simp
  have hx0 : (w.alloc (.cells #[.int .u8 k, .string nm, .int .i64 n] 24)).heap[w.heap.size]? = some (.cells #[.int .u8 k, .string nm, .int .i64 n] 24 (0, 0)) := heap_new _ _
  have hB0 : Below w.heap.size w (w.alloc (.cells #[.int .u8 k, .string nm, .int .i64 n] 24)) := (Below.refl _ _).alloc (Nat.le_refl _) _
  obtain ⟨w0, hw0⟩ : ∃ w0, w0 = w.alloc (.cells #[.int .u8 k, .string nm, .int .i64 n] 24) := ⟨_, rfl⟩
  rw [← hw0] at hx0 hB0
  have hl0 := lt_row hx0
  obtain ⟨hc0, hf0⟩ := row_facts hx0
  have Hnm := Lib.hid hnm
  have HN := Lib.hid hN
  have HB0 := Lib.hid hB0
  have Hw0 := Lib.hid hw0
  have key : ∀ c : UInt8, sign k = c → (bsOf [c] ++ nm ++ bsOf [58]) ++ d = bsOf (textOf (idOf k nm n)) := by
    intro c hc
    refine bl_inj ?_
    rw [bl_bsOf, hd]
    unfold textOf idOf
    simp only [hc, Int.toNat_natCast]
    simp [bl, bsOf]
  have Key := Lib.hid key
  have hq1 : ¬ 9223372036854775807 < 1 + nm.size := by omega
  have hq2 : ¬ 9223372036854775807 < 1 + nm.size + 1 := by omega
  have hq3 : ¬ 9223372036854775807 < 1 + nm.size + 1 + d.size := by omega
  clear hnm hN hB0 hw0 h hb hd key
  rcases hk with rfl | rfl
  · go_enter Tryd.func15, Tryd.ntmps15
    go_wp2_with fail
    rw [← Hw0.out]
    refine (Hnm.out _).mono ?_
    rintro e w' ⟨rfl, rfl⟩
    go_wp2_with fail
    refine wp_region_noPanic ?_
    refine wp_region_held (S := fun W => W.heap[w.heap.size]? = some (.cells #[.int .u8 1, .string nm, .int .i64 n] 24 (0, 0))) (by kernel_rfl) ?_
    change wpAnyH _ _ _ _ _ _ _ _ (World.drew w0)
    have hS0 : w0.drew.heap[w.heap.size]? = some (.cells #[.int .u8 1, .string nm, .int .i64 n] 24 (0, 0)) := hx0
    refine wpAnyH_take (i := 0) (v := ?_) rfl (by kernel_rfl) (by kernel_rfl) (by kernel_rfl) (fun _ _ _ h => h) (Or.inl ⟨by rfl, ?_⟩) hS0 ?_
    rotate_left
    · intro w hSw
      obtain ⟨hcw, hfw⟩ := row_facts hSw
      go_simp
      rfl
    simp only [Act.put, List.getElem_toArray, List.getElem_cons_zero, List.getElem_cons_succ, List.setIfInBounds_toArray, List.set_cons_zero, List.set_cons_succ]
    refine wpAnyH_take (i := 1) (v := ?_) rfl (by kernel_rfl) (by kernel_rfl) (by kernel_rfl) (fun _ _ _ h => h) (Or.inl ⟨by rfl, ?_⟩) hS0 ?_
    rotate_left
    · intro w hSw
      obtain ⟨hcw, hfw⟩ := row_facts hSw
      go_simp
      rfl
    simp only [Act.put, List.getElem_toArray, List.getElem_cons_zero, List.getElem_cons_succ, List.setIfInBounds_toArray, List.set_cons_zero, List.set_cons_succ]
    refine wpAnyH_take (i := 2) (v := ?_) rfl (by kernel_rfl) (by kernel_rfl) (by kernel_rfl) (fun _ _ _ h => h) (Or.inl ⟨by rfl, ?_⟩) hS0 ?_
    rotate_left
    · intro w hSw
      obtain ⟨hcw, hfw⟩ := row_facts hSw
      go_simp
      rfl
    simp only [Act.put, List.getElem_toArray, List.getElem_cons_zero, List.getElem_cons_succ, List.setIfInBounds_toArray, List.set_cons_zero, List.set_cons_succ]
    refine wpAnyH_take (i := 3) (v := ?_) rfl (by kernel_rfl) (by kernel_rfl) (by kernel_rfl) (fun _ _ _ h => h) (Or.inl ⟨by rfl, ?_⟩) hS0 ?_
    rotate_left
    · intro w hSw
      obtain ⟨hcw, hfw⟩ := row_facts hSw
      go_simp
      rfl
    simp only [Act.put, List.getElem_toArray, List.getElem_cons_zero, List.getElem_cons_succ, List.setIfInBounds_toArray, List.set_cons_zero, List.set_cons_succ]
    refine wpAnyH_take (i := 4) (v := ?_) rfl (by kernel_rfl) (by kernel_rfl) (by kernel_rfl) (fun _ _ _ h => h) (Or.inl ⟨by rfl, ?_⟩) hS0 ?_
    rotate_left
    · intro w hSw
      obtain ⟨hcw, hfw⟩ := row_facts hSw
      go_simp
      rfl
    simp only [Act.put, List.getElem_toArray, List.getElem_cons_zero, List.getElem_cons_succ, List.setIfInBounds_toArray, List.set_cons_zero, List.set_cons_succ]
    refine wpAnyH_take (i := 5) (v := ?_) rfl (by kernel_rfl) (by kernel_rfl) (by kernel_rfl) (fun _ _ _ h => h) (Or.inl ⟨by rfl, ?_⟩) hS0 ?_
    rotate_left
    · intro w hSw
      obtain ⟨hcw, hfw⟩ := row_facts hSw
      go_simp
      rfl
    simp only [Act.put, List.getElem_toArray, List.getElem_cons_zero, List.getElem_cons_succ, List.setIfInBounds_toArray, List.set_cons_zero, List.set_cons_succ]
    refine wpAnyH_take (i := 6) (v := ?_) rfl (by kernel_rfl) (by kernel_rfl) (by kernel_rfl) (fun _ _ _ h => h) (Or.inl ⟨by rfl, ?_⟩) hS0 ?_
    rotate_left
    · intro w hSw
      obtain ⟨hcw, hfw⟩ := row_facts hSw
      go_simp
      rfl
    simp only [Act.put, List.getElem_toArray, List.getElem_cons_zero, List.getElem_cons_succ, List.setIfInBounds_toArray, List.set_cons_zero, List.set_cons_succ]
    refine wpAnyH_all (rs := [7]) (by kernel_rfl) (by simp) ?_
    intro i hi
    simp only [List.mem_cons, List.not_mem_nil, or_false] at hi
    subst hi
    refine wpOp_call rfl (by rfl) (by go_simp; first | rfl | exact ⟨⟨rfl, rfl⟩, rfl⟩ | exact ⟨rfl, rfl⟩) ?_
    refine (HN.out w0.drew).mono ?_
    rintro e w2 ⟨rfl, rfl⟩
    refine ⟨_, rfl, ?_, ?_⟩
    · exact hS0
    simp only [Act.put, List.getElem_toArray, List.getElem_cons_zero, List.getElem_cons_succ, List.setIfInBounds_toArray, List.set_cons_zero, List.set_cons_succ]
    refine wpAnyH_take (i := 8) (v := ?_) rfl (by kernel_rfl) (by kernel_rfl) (by kernel_rfl) (fun _ _ _ h => h) (Or.inl ⟨by rfl, ?_⟩) hS0 ?_
    rotate_left
    · intro w hSw
      obtain ⟨hcw, hfw⟩ := row_facts hSw
      go_simp
      rfl
    simp only [Act.put, List.getElem_toArray, List.getElem_cons_zero, List.getElem_cons_succ, List.setIfInBounds_toArray, List.set_cons_zero, List.set_cons_succ]
    refine wpAnyH_take (i := 9) (v := ?_) rfl (by kernel_rfl) (by kernel_rfl) (by kernel_rfl) (fun _ _ _ h => h) (Or.inl ⟨by rfl, ?_⟩) hS0 ?_
    rotate_left
    · intro w hSw
      obtain ⟨hcw, hfw⟩ := row_facts hSw
      go_simp
      rfl
    simp only [Act.put, List.getElem_toArray, List.getElem_cons_zero, List.getElem_cons_succ, List.setIfInBounds_toArray, List.set_cons_zero, List.set_cons_succ]
    refine wpAnyH_take (i := 10) (v := ?_) rfl (by kernel_rfl) (by kernel_rfl) (by kernel_rfl) (fun _ _ _ h => h) (Or.inl ⟨by rfl, ?_⟩) hS0 ?_
    rotate_left
    · intro w hSw
      obtain ⟨hcw, hfw⟩ := row_facts hSw
      go_simp
      rfl
    simp only [Act.put, List.getElem_toArray, List.getElem_cons_zero, List.getElem_cons_succ, List.setIfInBounds_toArray, List.set_cons_zero, List.set_cons_succ]
    refine wpAnyH_done (by kernel_rfl) (NoPanic.normal ?_) _
    go_wp2
    go_ret2
    exact ⟨by rw [← Key.out 64 rfl]; rfl, HB0.out.drew⟩
  · go_enter Tryd.func15, Tryd.ntmps15
    go_wp2_with fail
    rw [← Hw0.out]
    refine (Hnm.out _).mono ?_
    rintro e w' ⟨rfl, rfl⟩
    go_wp2_with fail
    refine wp_region_noPanic ?_
    refine wp_region_held (S := fun W => W.heap[w.heap.size]? = some (.cells #[.int .u8 2, .string nm, .int .i64 n] 24 (0, 0))) (by kernel_rfl) ?_
    change wpAnyH _ _ _ _ _ _ _ _ (World.drew w0)
    have hS0 : w0.drew.heap[w.heap.size]? = some (.cells #[.int .u8 2, .string nm, .int .i64 n] 24 (0, 0)) := hx0
    refine wpAnyH_take (i := 0) (v := ?_) rfl (by kernel_rfl) (by kernel_rfl) (by kernel_rfl) (fun _ _ _ h => h) (Or.inl ⟨by rfl, ?_⟩) hS0 ?_
    rotate_left
    · intro w hSw
      obtain ⟨hcw, hfw⟩ := row_facts hSw
      go_simp
      rfl
    simp only [Act.put, List.getElem_toArray, List.getElem_cons_zero, List.getElem_cons_succ, List.setIfInBounds_toArray, List.set_cons_zero, List.set_cons_succ]
    refine wpAnyH_take (i := 1) (v := ?_) rfl (by kernel_rfl) (by kernel_rfl) (by kernel_rfl) (fun _ _ _ h => h) (Or.inl ⟨by rfl, ?_⟩) hS0 ?_
    rotate_left
    · intro w hSw
      obtain ⟨hcw, hfw⟩ := row_facts hSw
      go_simp
      rfl
    simp only [Act.put, List.getElem_toArray, List.getElem_cons_zero, List.getElem_cons_succ, List.setIfInBounds_toArray, List.set_cons_zero, List.set_cons_succ]
    refine wpAnyH_take (i := 2) (v := ?_) rfl (by kernel_rfl) (by kernel_rfl) (by kernel_rfl) (fun _ _ _ h => h) (Or.inl ⟨by rfl, ?_⟩) hS0 ?_
    rotate_left
    · intro w hSw
      obtain ⟨hcw, hfw⟩ := row_facts hSw
      go_simp
      rfl
    simp only [Act.put, List.getElem_toArray, List.getElem_cons_zero, List.getElem_cons_succ, List.setIfInBounds_toArray, List.set_cons_zero, List.set_cons_succ]
    refine wpAnyH_take (i := 3) (v := ?_) rfl (by kernel_rfl) (by kernel_rfl) (by kernel_rfl) (fun _ _ _ h => h) (Or.inl ⟨by rfl, ?_⟩) hS0 ?_
    rotate_left
    · intro w hSw
      obtain ⟨hcw, hfw⟩ := row_facts hSw
      go_simp
      rfl
    simp only [Act.put, List.getElem_toArray, List.getElem_cons_zero, List.getElem_cons_succ, List.setIfInBounds_toArray, List.set_cons_zero, List.set_cons_succ]
    refine wpAnyH_take (i := 4) (v := ?_) rfl (by kernel_rfl) (by kernel_rfl) (by kernel_rfl) (fun _ _ _ h => h) (Or.inl ⟨by rfl, ?_⟩) hS0 ?_
    rotate_left
    · intro w hSw
      obtain ⟨hcw, hfw⟩ := row_facts hSw
      go_simp
      rfl
    simp only [Act.put, List.getElem_toArray, List.getElem_cons_zero, List.getElem_cons_succ, List.setIfInBounds_toArray, List.set_cons_zero, List.set_cons_succ]
    refine wpAnyH_take (i := 5) (v := ?_) rfl (by kernel_rfl) (by kernel_rfl) (by kernel_rfl) (fun _ _ _ h => h) (Or.inl ⟨by rfl, ?_⟩) hS0 ?_
    rotate_left
    · intro w hSw
      obtain ⟨hcw, hfw⟩ := row_facts hSw
      go_simp
      rfl
    simp only [Act.put, List.getElem_toArray, List.getElem_cons_zero, List.getElem_cons_succ, List.setIfInBounds_toArray, List.set_cons_zero, List.set_cons_succ]
    refine wpAnyH_take (i := 6) (v := ?_) rfl (by kernel_rfl) (by kernel_rfl) (by kernel_rfl) (fun _ _ _ h => h) (Or.inl ⟨by rfl, ?_⟩) hS0 ?_
    rotate_left
    · intro w hSw
      obtain ⟨hcw, hfw⟩ := row_facts hSw
      go_simp
      rfl
    simp only [Act.put, List.getElem_toArray, List.getElem_cons_zero, List.getElem_cons_succ, List.setIfInBounds_toArray, List.set_cons_zero, List.set_cons_succ]
    refine wpAnyH_all (rs := [7]) (by kernel_rfl) (by simp) ?_
    intro i hi
    simp only [List.mem_cons, List.not_mem_nil, or_false] at hi
    subst hi
    refine wpOp_call rfl (by rfl) (by go_simp; first | rfl | exact ⟨⟨rfl, rfl⟩, rfl⟩ | exact ⟨rfl, rfl⟩) ?_
    refine (HN.out w0.drew).mono ?_
    rintro e w2 ⟨rfl, rfl⟩
    refine ⟨_, rfl, ?_, ?_⟩
    · exact hS0
    simp only [Act.put, List.getElem_toArray, List.getElem_cons_zero, List.getElem_cons_succ, List.setIfInBounds_toArray, List.set_cons_zero, List.set_cons_succ]
    refine wpAnyH_take (i := 8) (v := ?_) rfl (by kernel_rfl) (by kernel_rfl) (by kernel_rfl) (fun _ _ _ h => h) (Or.inl ⟨by rfl, ?_⟩) hS0 ?_
    rotate_left
    · intro w hSw
      obtain ⟨hcw, hfw⟩ := row_facts hSw
      go_simp
      rfl
    simp only [Act.put, List.getElem_toArray, List.getElem_cons_zero, List.getElem_cons_succ, List.setIfInBounds_toArray, List.set_cons_zero, List.set_cons_succ]
    refine wpAnyH_take (i := 9) (v := ?_) rfl (by kernel_rfl) (by kernel_rfl) (by kernel_rfl) (fun _ _ _ h => h) (Or.inl ⟨by rfl, ?_⟩) hS0 ?_
    rotate_left
    · intro w hSw
      obtain ⟨hcw, hfw⟩ := row_facts hSw
      go_simp
      rfl
    simp only [Act.put, List.getElem_toArray, List.getElem_cons_zero, List.getElem_cons_succ, List.setIfInBounds_toArray, List.set_cons_zero, List.set_cons_succ]
    refine wpAnyH_take (i := 10) (v := ?_) rfl (by kernel_rfl) (by kernel_rfl) (by kernel_rfl) (fun _ _ _ h => h) (Or.inl ⟨by rfl, ?_⟩) hS0 ?_
    rotate_left
    · intro w hSw
      obtain ⟨hcw, hfw⟩ := row_facts hSw
      go_simp
      rfl
    simp only [Act.put, List.getElem_toArray, List.getElem_cons_zero, List.getElem_cons_succ, List.setIfInBounds_toArray, List.set_cons_zero, List.set_cons_succ]
    refine wpAnyH_done (by kernel_rfl) (NoPanic.normal ?_) _
    go_wp2
    go_ret2
    exact ⟨by rw [← Key.out 33 rfl]; rfl, HB0.out.drew⟩

end Go.Proofs.YtfodloepkgkilaaDoor.RefT
