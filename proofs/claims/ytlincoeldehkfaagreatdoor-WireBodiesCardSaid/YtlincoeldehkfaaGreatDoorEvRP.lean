/-
  WHAT IS PROVED: what the document's own answer on the event of bytes is. Condition: the bytes are not longer than the theorem says.
-/
import Derived.Test.YtlincoeldehkfaaGreatDoorEvR
import Derived.Test.YtlincoeldehkfaaGreatDoorRef1B
import Derived.Test.YtlincoeldehkfaaGreatDoorEvent
import Derived.Test.YtlincoeldehkfaaGreatDoorCore
namespace Go.Proofs.YtlincoeldehkfaaGreatDoor.EvRP
open Go Go.RowKit Go.Proofs.YtlincoeldehkfaaGreatDoor Go.Proofs.YtlincoeldehkfaaGreatDoor.OctetS Go.Proofs.YtlincoeldehkfaaGreatDoor.IdentS Go.Proofs.YtlincoeldehkfaaGreatDoor.EventS Go.Proofs.YtlincoeldehkfaaGreatDoor.OctP Go.Proofs.YtlincoeldehkfaaGreatDoor.OctQ Go.Proofs.YtlincoeldehkfaaGreatDoor.OctG Go.Proofs.YtlincoeldehkfaaGreatDoor.OctA Go.Proofs.YtlincoeldehkfaaGreatDoor.IdentP Go.Proofs.YtlincoeldehkfaaGreatDoor.EventP Go.Proofs.YtlincoeldehkfaaGreatDoor.EventC Go.Proofs.YtlincoeldehkfaaGreatDoor.EventK Go.Proofs.YtlincoeldehkfaaGreatDoor.EventR
open Go.Proofs.YtlincoeldehkfaaGreatDoor.Steps (wpOp_off below_cell)
set_option linter.unusedVariables false
set_option linter.unusedSimpArgs false

set_option maxRecDepth 100000 in
set_option maxHeartbeats 2000000 in
theorem Parse_bad (w : World) (s : ByteArray) (hs : s.size ≤ 140737488351232) {l : List (List UInt8)} {y : Int} (ha : all (bl s) = (l, y)) (hbad : y ≠ 0 ∨ (y = 0 ∧ l.length ≠ 6)) :
    Calls Tryz.prog 44 #[.string s] w (EvPost (bl s) w) := by
  have hn : EventS.parse (bl s) = none := by
    unfold EventS.parse partsB
    rw [ha]
    rcases hbad with h | ⟨_, h⟩ <;> simp [h]
  have hA := fun w => Ref1A.All_ok w s (by unfold maxLen; omega)
  unfold AllPost at hA
  rw [ha] at hA
  obtain ⟨W0, hW0⟩ : ∃ W0, W0 = w.alloc (.cells evZero 66) := ⟨_, rfl⟩
  have hB0 : Below w.heap.size w W0 := by rw [hW0]; exact (Below.refl _ w).alloc (Nat.le_refl _) _
  have hx0 : W0.heap[w.heap.size]? = some (.cells evZero 66 (0, 0)) := by rw [hW0]; exact heap_new _ _
  have hl0 := lt_row hx0
  have HA := Lib.hid hA
  have HB0 := Lib.hid hB0
  have HW0 := Lib.hid hW0
  have Hn := Lib.hid hn
  have hcase : (y != 0) = true ∨ (y = 0 ∧ ((l.length : Int) != 6) = true) := by
    rcases hbad with h | ⟨h0, h⟩
    · exact .inl (by simpa using h)
    · exact .inr ⟨h0, by simp; omega⟩
  clear hA hB0 hW0 hn hs ha hbad
  rcases hcase with hy | ⟨rfl, hy⟩
  all_goals
    go_enter Tryz.func44, Tryz.ntmps44
    go_wp2_with fail
    rw [show (w.alloc (.cells #[.string ⟨#[]⟩, .string ⟨#[]⟩, .int .u8 0, .string ⟨#[]⟩, .string ⟨#[]⟩, .int .i64 0] 66)) = W0 from HW0.out.symm]
    refine (HA.out W0).mono ?_
    rintro e w1 ⟨v, rfl, hl, hb1⟩
    obtain ⟨a, cap, rfl, _, _⟩ := (Sl.ofOwn hl).form
    have HB1 := Lib.hid (HB0.out.trans (hb1.mono HB0.out.size))
    have hx1 := (hb1.block _ hl0).trans hx0
    unfold evZero at hx1
    have hl1 := lt_row hx1
    have hrow := row_facts hx1
    obtain ⟨hc1, hf1⟩ := hrow
    clear hb1 hl
    go_wp2
    obtain ⟨W4, hW4⟩ : ∃ W4, W4 = set6 w1 w.heap.size (.string ByteArray.empty) (.string ByteArray.empty) (.int .u8 0) (.string ByteArray.empty) (.string ByteArray.empty) (.int .i64 0) := ⟨_, rfl⟩
    obtain ⟨hk, hp⟩ := fin_none Hn.out hx1 HB1.out W4 hW4
    have k0 := hk 0
    have k1 := hk 1
    have k2 := hk 2
    have k3 := hk 3
    have k4 := hk 4
    have k5 := hk 5
    unfold evZero at k0 k1 k2 k3 k4 k5
    change bodyPost _ _ _ _ _ (set6 w1 w.heap.size (.string ByteArray.empty) (.string ByteArray.empty) (.int .u8 0) (.string ByteArray.empty) (.string ByteArray.empty) (.int .i64 0))
    rw [← hW4]
    refine bodyPost_ret (v := .tuple #[.agg evZero, .int .i64 6]) (by simp [results, Tryz.results44, go_sem, evZero, k0, k1, k2, k3, k4, k5]) rfl hp

set_option maxRecDepth 100000 in
set_option maxHeartbeats 4000000 in
theorem Parse_num (w : World) (s : ByteArray) (hs : s.size ≤ 140737488351232) {a b c d f g : List UInt8} (ha : all (bl s) = ([a, b, c, d, f, g], 0)) (hbad : (getNum g).2.2 ≠ 0 ∨ ((getNum g).2.2 = 0 ∧ (getNum g).2.1 < g.length)) :
    Calls Tryz.prog 44 #[.string s] w (EvPost (bl s) w) := by
  have hn : EventS.parse (bl s) = none := by
    unfold EventS.parse partsB
    rw [ha]
    simp only [List.getD_cons_zero, List.getD_cons_succ]
    rcases hbad with h | ⟨_, h⟩
    · simp [h]
    · simp
      omega
  obtain ⟨hfit, _⟩ := all_ok ha
  obtain ⟨_, hlen⟩ := fits_iff.1 hfit
  obtain ⟨A0, hA0⟩ : ∃ A0, A0 = bsOf a := ⟨_, rfl⟩
  obtain ⟨A1, hA1⟩ : ∃ A1, A1 = bsOf b := ⟨_, rfl⟩
  obtain ⟨A2, hA2⟩ : ∃ A2, A2 = bsOf c := ⟨_, rfl⟩
  obtain ⟨A3, hA3⟩ : ∃ A3, A3 = bsOf d := ⟨_, rfl⟩
  obtain ⟨A4, hA4⟩ : ∃ A4, A4 = bsOf f := ⟨_, rfl⟩
  obtain ⟨A5, hA5⟩ : ∃ A5, A5 = bsOf g := ⟨_, rfl⟩
  have z0 : A0.size ≤ 8192 := by rw [hA0, size_bsOf]; exact hlen a (by simp)
  have z1 : A1.size ≤ 8192 := by rw [hA1, size_bsOf]; exact hlen b (by simp)
  have z3 : A3.size ≤ 8192 := by rw [hA3, size_bsOf]; exact hlen d (by simp)
  have z4 : A4.size ≤ 8192 := by rw [hA4, size_bsOf]; exact hlen f (by simp)
  have z5 : A5.size ≤ 8192 := by rw [hA5, size_bsOf]; exact hlen g (by simp)
  have hA := fun w => Ref1A.All_ok w s (by unfold maxLen; omega)
  unfold AllPost at hA
  rw [ha] at hA
  obtain ⟨n, u, y, hg⟩ : ∃ n u y, getNum g = (n, u, y) := ⟨_, _, _, rfl⟩
  have hG := fun w => Ref1K.GetNum_at w A5 (by unfold maxLen; omega) (n := n) (u := u) (y := y) (by rw [hA5, bl_bsOf]; exact hg)
  obtain ⟨W0, hW0⟩ : ∃ W0, W0 = w.alloc (.cells evZero 66) := ⟨_, rfl⟩
  have hB0 : Below w.heap.size w W0 := by rw [hW0]; exact (Below.refl _ w).alloc (Nat.le_refl _) _
  have hx0 : W0.heap[w.heap.size]? = some (.cells evZero 66 (0, 0)) := by rw [hW0]; exact heap_new _ _
  have hl0 := lt_row hx0
  have HB0 := Lib.hid hB0
  have HW0 := Lib.hid hW0
  rw [hg] at hbad
  simp only at hbad
  have hcase : (y != 0) = true ∨ (y = 0 ∧ ((u : Int) != (A5.size : Int)) = true) := by
    rcases hbad with h | ⟨h0, h⟩
    · exact .inl (by simpa using h)
    · exact .inr ⟨h0, by rw [hA5, size_bsOf]; simp; omega⟩
  have HA0 := Lib.hid hA0
  have HA1 := Lib.hid hA1
  have HA2 := Lib.hid hA2
  have HA3 := Lib.hid hA3
  have HA4 := Lib.hid hA4
  have HA5 := Lib.hid hA5
  clear hA0 hA1 hA2 hA3 hA4 hA5
  have HA := Lib.hid hA
  have HG := Lib.hid hG
  have Hn := Lib.hid hn
  clear hA hB0 hW0 hn hs ha hbad hG hg hlen hfit
  rcases hcase with hy | ⟨rfl, hy⟩
  all_goals
    go_enter Tryz.func44, Tryz.ntmps44
    go_wp2_with fail
    rw [show (w.alloc (.cells #[.string ⟨#[]⟩, .string ⟨#[]⟩, .int .u8 0, .string ⟨#[]⟩, .string ⟨#[]⟩, .int .i64 0] 66)) = W0 from HW0.out.symm]
    refine (HA.out W0).mono ?_
    rintro e w1 ⟨v, rfl, hl, hb1⟩
    obtain ⟨B, cap, rfl, hBn, h0, h1, h2, h3, h4, h5⟩ := list6 hl
    rw [← HA0.out] at h0
    rw [← HA1.out] at h1
    rw [← HA2.out] at h2
    rw [← HA3.out] at h3
    rw [← HA4.out] at h4
    rw [← HA5.out] at h5
    have HB1 := Lib.hid (HB0.out.trans (hb1.mono HB0.out.size))
    have hx1 := (hb1.block _ hl0).trans hx0
    unfold evZero at hx1
    have hl1 := lt_row hx1
    obtain ⟨hc1, hf1⟩ := row_facts hx1
    clear hb1 hl
    go_wp2_with fail
    refine (HG.out w1).mono ?_
    rintro e w2 ⟨rfl, hb2⟩
    have HB2 := Lib.hid (HB1.out.trans (hb2.mono HB1.out.size))
    have hx2 := (hb2.block _ hl1).trans hx1
    have hl2 := lt_row hx2
    have h5' := below_cell hb2 h5
    obtain ⟨hc2, hf2⟩ := row_facts hx2
    clear hb2 hc1 hf1 hx1 h5
    go_wp2
    obtain ⟨W4, hW4⟩ : ∃ W4, W4 = set6 w2 w.heap.size (.string ByteArray.empty) (.string ByteArray.empty) (.int .u8 0) (.string ByteArray.empty) (.string ByteArray.empty) (.int .i64 0) := ⟨_, rfl⟩
    obtain ⟨hk, hp⟩ := fin_none Hn.out hx2 HB2.out W4 hW4
    have k0 := hk 0
    have k1 := hk 1
    have k2 := hk 2
    have k3 := hk 3
    have k4 := hk 4
    have k5 := hk 5
    unfold evZero at k0 k1 k2 k3 k4 k5
    change bodyPost _ _ _ _ _ (set6 w2 w.heap.size (.string ByteArray.empty) (.string ByteArray.empty) (.int .u8 0) (.string ByteArray.empty) (.string ByteArray.empty) (.int .i64 0))
    rw [← hW4]
    refine bodyPost_ret (v := .tuple #[.agg evZero, .int .i64 6]) (by simp [results, Tryz.results44, go_sem, evZero, k0, k1, k2, k3, k4, k5]) rfl hp

theorem parse_hit {l a b c d f g : List UInt8} {n u : Nat} (ha : all l = ([a, b, c, d, f, g], 0)) (hg : getNum g = (n, u, 0)) (hul : g.length ≤ u) {k : Nat} (h1 : 1 ≤ k) (h9 : k < 9) (he : wordN k = c) (hck : checkB ⟨a, b, k, d, f, n⟩ = true) :
    EventS.parse l = some ⟨a, b, k, d, f, n⟩ := by
  have hk : kindW c = (k : Int) := by
    rw [← he]
    have hkn : known (k : Int) = true := by simp [known]; omega
    have := kindW_word hkn
    unfold word at this
    simpa using this
  have : ofParts [a, b, c, d, f, g] = ⟨a, b, k, d, f, n⟩ := by simp [ofParts, hg, hk]
  unfold EventS.parse partsB
  rw [ha]
  simp only [List.getD_cons_zero, List.getD_cons_succ, hg]
  rw [this, hck]
  simp [hul]
theorem parse_miss {l a b c d f g : List UInt8} {n u : Nat} (ha : all l = ([a, b, c, d, f, g], 0)) (hg : getNum g = (n, u, 0)) (h : ∀ j : Nat, 1 ≤ j → j < 9 → ¬ (wordN j = c ∧ checkB ⟨a, b, j, d, f, n⟩ = true)) : EventS.parse l = none := by
  cases hp : EventS.parse l with
  | none => rfl
  | some x =>
    exfalso
    unfold EventS.parse at hp
    split at hp
    · rename_i hc
      simp only [Bool.and_eq_true, decide_eq_true_eq] at hc
      obtain ⟨_, _, hck⟩ := hc
      rw [ha] at hck
      have hr := check_iff.1 hck
      have hkn := hr.kind
      have e : ofParts [a, b, c, d, f, g] = ⟨a, b, kindW c, d, f, n⟩ := by simp [ofParts, hg]
      rw [e] at hck hkn
      simp only at hkn
      have hw := word_kindW hkn
      obtain ⟨k0, k9⟩ := known_spec hkn
      refine h (kindW c).toNat (by omega) (by omega) ⟨hw, ?_⟩
      rw [Int.toNat_of_nonneg (by omega)]
      exact hck
    · cases hp

set_option maxRecDepth 100000 in
set_option maxHeartbeats 8000000 in
theorem Parse_loop (w : World) (s : ByteArray) (hs : s.size ≤ 140737488351232) {a b c d f g : List UInt8} (ha : all (bl s) = ([a, b, c, d, f, g], 0)) {n u : Nat} (hgn : getNum g = (n, u, 0)) (hul : g.length ≤ u) :
    Calls Tryz.prog 44 #[.string s] w (EvPost (bl s) w) := by
  have hu : u = g.length := by
    obtain ⟨_, _, h3, _⟩ := getNum_ok hgn
    omega
  have hmax : n ≤ 281474976710656 := (getNum_ok hgn).2.2.2.2
  obtain ⟨hfit, _⟩ := all_ok ha
  obtain ⟨_, hlen⟩ := fits_iff.1 hfit
  obtain ⟨A0, hA0⟩ : ∃ A0, A0 = bsOf a := ⟨_, rfl⟩
  obtain ⟨A1, hA1⟩ : ∃ A1, A1 = bsOf b := ⟨_, rfl⟩
  obtain ⟨A2, hA2⟩ : ∃ A2, A2 = bsOf c := ⟨_, rfl⟩
  obtain ⟨A3, hA3⟩ : ∃ A3, A3 = bsOf d := ⟨_, rfl⟩
  obtain ⟨A4, hA4⟩ : ∃ A4, A4 = bsOf f := ⟨_, rfl⟩
  obtain ⟨A5, hA5⟩ : ∃ A5, A5 = bsOf g := ⟨_, rfl⟩
  have z0 : A0.size ≤ 8192 := by rw [hA0, size_bsOf]; exact hlen a (by simp)
  have z1 : A1.size ≤ 8192 := by rw [hA1, size_bsOf]; exact hlen b (by simp)
  have z3 : A3.size ≤ 8192 := by rw [hA3, size_bsOf]; exact hlen d (by simp)
  have z4 : A4.size ≤ 8192 := by rw [hA4, size_bsOf]; exact hlen f (by simp)
  have z5 : A5.size ≤ 8192 := by rw [hA5, size_bsOf]; exact hlen g (by simp)
  have hA := fun w => Ref1A.All_ok w s (by unfold maxLen; omega)
  unfold AllPost at hA
  rw [ha] at hA
  have hg := hgn
  have hG := fun w => Ref1K.GetNum_at w A5 (by unfold maxLen; omega) (n := n) (u := u) (y := 0) (by rw [hA5, bl_bsOf]; exact hg)
  obtain ⟨W0, hW0⟩ : ∃ W0, W0 = w.alloc (.cells evZero 66) := ⟨_, rfl⟩
  have hB0 : Below w.heap.size w W0 := by rw [hW0]; exact (Below.refl _ w).alloc (Nat.le_refl _) _
  have hx0 : W0.heap[w.heap.size]? = some (.cells evZero 66 (0, 0)) := by rw [hW0]; exact heap_new _ _
  have hl0 := lt_row hx0
  have HB0 := Lib.hid hB0
  have HW0 := Lib.hid hW0
  have hu' : u = A5.size := by rw [hA5, size_bsOf]; exact hu
  have hhit : ∀ k : Nat, 1 ≤ k → k < 9 → wordN k = c → checkB ⟨a, b, k, d, f, n⟩ = true → Ending.returned (readEV (EventS.parse (bl s))) = Ending.returned (.tuple #[.agg #[.string A0, .string A1, .int .u8 k, .string A3, .string A4, .int .i64 n], .int .i64 0]) := by
    intro k h1 h9 he hck
    rw [parse_hit ha hgn hul h1 h9 he hck, hA0, hA1, hA3, hA4]
    rfl
  have hmiss := fun h => parse_miss ha hgn h
  have hC := fun w (k : Nat) (h : k < 9) => EvRC.Check_ok w A0 A1 k A3 A4 n (by omega) (by omega) (by omega) (by omega) (by omega) (by unfold maxLen; omega)
  have hev : ∀ k : Nat, evOf A0 A1 k A3 A4 n = ⟨a, b, k, d, f, n⟩ := by intro k; unfold evOf; rw [hA0, hA1, hA3, hA4]; simp only [bl_bsOf]
  have hCk : ∀ (k : Nat) (y : Bool), k < 9 → checkB ⟨a, b, k, d, f, n⟩ = y → ∀ w, Calls Tryz.prog 59 #[.agg #[.string A0, .string A1, .int .u8 k, .string A3, .string A4, .int .i64 n]] w (RB (.int .i64 (whyOf y)) w) := by
    intro k y hk hy w
    have := hC w k hk
    rw [hev, hy] at this
    exact this
  have hWk : ∀ (k : Nat), k < 9 → ∀ w, Calls Tryz.prog 58 #[.int .u8 k] w (RB (.string (bsOf (wordN k))) w) := by
    intro k hk w
    have := EvRW.Word_ok w k (by omega) (by omega)
    unfold word at this
    rw [Int.toNat_natCast] at this
    exact this
  have hA2' : bl A2 = c := by rw [hA2, bl_bsOf]
  have HA0 := Lib.hid hA0
  have HA1 := Lib.hid hA1
  have HA2 := Lib.hid hA2
  have HA3 := Lib.hid hA3
  have HA4 := Lib.hid hA4
  have HA5 := Lib.hid hA5
  have HA2' := Lib.hid hA2'
  have Hhit := Lib.hid hhit
  have Hmiss := Lib.hid hmiss
  have HCk := Lib.hid hCk
  have HWk := Lib.hid hWk
  clear hA0 hA1 hA2 hA3 hA4 hA5 hA2' hhit hmiss hCk hWk hC hev
  have HA := Lib.hid hA
  have HG := Lib.hid hG
  subst hu'
  clear hA hB0 hW0 hs ha hG hg hlen hfit hgn hu hul
  go_enter Tryz.func44, Tryz.ntmps44
  go_wp2_with fail
  rw [show (w.alloc (.cells #[.string ⟨#[]⟩, .string ⟨#[]⟩, .int .u8 0, .string ⟨#[]⟩, .string ⟨#[]⟩, .int .i64 0] 66)) = W0 from HW0.out.symm]
  refine (HA.out W0).mono ?_
  rintro e w1 ⟨v, rfl, hl, hb1⟩
  obtain ⟨B, cap, rfl, hBn, h0, h1, h2, h3, h4, h5⟩ := list6 hl
  rw [← HA0.out] at h0
  rw [← HA1.out] at h1
  rw [← HA2.out] at h2
  rw [← HA3.out] at h3
  rw [← HA4.out] at h4
  rw [← HA5.out] at h5
  have HB1 := Lib.hid (HB0.out.trans (hb1.mono HB0.out.size))
  have hx1 := (hb1.block _ hl0).trans hx0
  clear hb1 hl
  go_wp2_with fail
  refine (HG.out w1).mono ?_
  rintro e w2 ⟨rfl, hb2⟩
  have HB2 := Lib.hid (HB1.out.trans (hb2.mono HB1.out.size))
  have hx2 := (hb2.block _ (lt_row hx1)).trans hx1
  have j0 := below_cell hb2 h0
  have j1 := below_cell hb2 h1
  have j2 := below_cell hb2 h2
  have j3 := below_cell hb2 h3
  have j4 := below_cell hb2 h4
  have j5 := below_cell hb2 h5
  clear hb2 hx1 h0 h1 h2 h3 h4 h5
  go_wp2
  go_loopw [9] (fun x wr => ∃ k : Nat, x = .int .u8 k ∧ 1 ≤ k ∧ k ≤ 9 ∧ Below w.heap.size w wr ∧ wr.cell? ⟨B, 0, none⟩ = some (.string A0) ∧ wr.cell? ⟨B, 1, none⟩ = some (.string A1) ∧ wr.cell? ⟨B, 2, none⟩ = some (.string A2) ∧ wr.cell? ⟨B, 3, none⟩ = some (.string A3) ∧ wr.cell? ⟨B, 4, none⟩ = some (.string A4) ∧
    wr.heap[w.heap.size]? = some (.cells evZero 66 (0, 0)) ∧ ∀ j : Nat, 1 ≤ j → j < k → ¬ (wordN j = c ∧ checkB ⟨a, b, j, d, f, n⟩ = true)) (fun x _ => 9 - (intOf x).toNat)
  case atStart => exact ⟨1, rfl, by omega, by omega, HB2.out, j0, j1, j2, j3, j4, hx2, fun j h1 h2 => by omega⟩
  case round =>
    obtain ⟨k, rfl, hk1, hk9, hbr, g0, g1, g2, g3, g4, gx, hall⟩ := hrel
    clear j0 j1 j2 j3 j4 j5 hx2
    have HBr := Lib.hid hbr
    have Hall := Lib.hid hall
    clear hbr hall
    by_cases hlt : k < 9
    · have HWd := Lib.hid (HWk.out k hlt)
      have hwr2 : IntKind.i64.wrap (n : Int) = n := IntWalk.i64_in _ (by omega)
      obtain ⟨T, hT⟩ : ∃ T, T = bsOf (wordN k) := ⟨_, rfl⟩
      rw [← hT] at HWd
      have HT := Lib.hid hT
      clear hT
      go_wp2_with fail
      refine wp_region_noPanic ?_
      refine wp_region_held (S := (fun W => W.cell? ⟨B, 0, none⟩ = some (.string A0) ∧ W.cell? ⟨B, 1, none⟩ = some (.string A1) ∧ W.cell? ⟨B, 2, none⟩ = some (.string A2) ∧ W.cell? ⟨B, 3, none⟩ = some (.string A3) ∧ W.cell? ⟨B, 4, none⟩ = some (.string A4) ∧ W.heap[w.heap.size]? = some (.cells evZero 66 (0, 0)))) (by kernel_rfl) ?_
      change wpAnyH _ _ _ _ _ _ _ _ (World.drew wr)
      have hS0 : (wr.drew).cell? ⟨B, 0, none⟩ = some (.string A0) ∧ (wr.drew).cell? ⟨B, 1, none⟩ = some (.string A1) ∧ (wr.drew).cell? ⟨B, 2, none⟩ = some (.string A2) ∧ (wr.drew).cell? ⟨B, 3, none⟩ = some (.string A3) ∧ (wr.drew).cell? ⟨B, 4, none⟩ = some (.string A4) ∧ (wr.drew).heap[w.heap.size]? = some (.cells evZero 66 (0, 0)) := ⟨g0, g1, g2, g3, g4, gx⟩
      refine wpAnyH_take (i := 0) (v := ?_) rfl (by kernel_rfl) (by kernel_rfl) (by kernel_rfl) (fun _ _ _ h => h) (Or.inl ⟨by rfl, ?_⟩) hS0 ?_
      rotate_left
      · intro wq hSw
        obtain ⟨q0, q1, q2, q3, q4, q5⟩ := hSw
        obtain ⟨qc5, qf5⟩ := row_facts q5
        go_simp
        rfl
      simp only [Act.put, List.getElem_toArray, List.getElem_cons_zero, List.getElem_cons_succ, List.setIfInBounds_toArray, List.set_cons_zero, List.set_cons_succ]
      refine wpAnyH_take (i := 1) (v := ?_) rfl (by kernel_rfl) (by kernel_rfl) (by kernel_rfl) (fun _ _ _ h => h) (Or.inl ⟨by rfl, ?_⟩) hS0 ?_
      rotate_left
      · intro wq hSw
        obtain ⟨q0, q1, q2, q3, q4, q5⟩ := hSw
        obtain ⟨qc5, qf5⟩ := row_facts q5
        go_simp
        rfl
      simp only [Act.put, List.getElem_toArray, List.getElem_cons_zero, List.getElem_cons_succ, List.setIfInBounds_toArray, List.set_cons_zero, List.set_cons_succ]
      refine wpAnyH_take (i := 2) (v := ?_) rfl (by kernel_rfl) (by kernel_rfl) (by kernel_rfl) (fun _ _ _ h => h) (Or.inl ⟨by rfl, ?_⟩) hS0 ?_
      rotate_left
      · intro wq hSw
        obtain ⟨q0, q1, q2, q3, q4, q5⟩ := hSw
        obtain ⟨qc5, qf5⟩ := row_facts q5
        go_simp
        rfl
      simp only [Act.put, List.getElem_toArray, List.getElem_cons_zero, List.getElem_cons_succ, List.setIfInBounds_toArray, List.set_cons_zero, List.set_cons_succ]
      refine wpAnyH_take (i := 3) (v := ?_) rfl (by kernel_rfl) (by kernel_rfl) (by kernel_rfl) (fun _ _ _ h => h) (Or.inl ⟨by rfl, ?_⟩) hS0 ?_
      rotate_left
      · intro wq hSw
        obtain ⟨q0, q1, q2, q3, q4, q5⟩ := hSw
        obtain ⟨qc5, qf5⟩ := row_facts q5
        go_simp
        rfl
      simp only [Act.put, List.getElem_toArray, List.getElem_cons_zero, List.getElem_cons_succ, List.setIfInBounds_toArray, List.set_cons_zero, List.set_cons_succ]
      refine wpAnyH_take (i := 4) (v := ?_) rfl (by kernel_rfl) (by kernel_rfl) (by kernel_rfl) (fun _ _ _ h => h) (Or.inl ⟨by rfl, ?_⟩) hS0 ?_
      rotate_left
      · intro wq hSw
        obtain ⟨q0, q1, q2, q3, q4, q5⟩ := hSw
        obtain ⟨qc5, qf5⟩ := row_facts q5
        go_simp
        rfl
      simp only [Act.put, List.getElem_toArray, List.getElem_cons_zero, List.getElem_cons_succ, List.setIfInBounds_toArray, List.set_cons_zero, List.set_cons_succ]
      refine wpAnyH_take (i := 5) (v := ?_) rfl (by kernel_rfl) (by kernel_rfl) (by kernel_rfl) (fun _ _ _ h => h) (Or.inl ⟨by rfl, ?_⟩) hS0 ?_
      rotate_left
      · intro wq hSw
        obtain ⟨q0, q1, q2, q3, q4, q5⟩ := hSw
        obtain ⟨qc5, qf5⟩ := row_facts q5
        go_simp
        rfl
      simp only [Act.put, List.getElem_toArray, List.getElem_cons_zero, List.getElem_cons_succ, List.setIfInBounds_toArray, List.set_cons_zero, List.set_cons_succ]
      refine wpAnyH_take (i := 6) (v := ?_) rfl (by kernel_rfl) (by kernel_rfl) (by kernel_rfl) (fun _ _ _ h => h) (Or.inl ⟨by rfl, ?_⟩) hS0 ?_
      rotate_left
      · intro wq hSw
        obtain ⟨q0, q1, q2, q3, q4, q5⟩ := hSw
        obtain ⟨qc5, qf5⟩ := row_facts q5
        go_simp
        rfl
      simp only [Act.put, List.getElem_toArray, List.getElem_cons_zero, List.getElem_cons_succ, List.setIfInBounds_toArray, List.set_cons_zero, List.set_cons_succ]
      refine wpAnyH_take (i := 7) (v := ?_) rfl (by kernel_rfl) (by kernel_rfl) (by kernel_rfl) (fun _ _ _ h => h) (Or.inl ⟨by rfl, ?_⟩) hS0 ?_
      rotate_left
      · intro wq hSw
        obtain ⟨q0, q1, q2, q3, q4, q5⟩ := hSw
        obtain ⟨qc5, qf5⟩ := row_facts q5
        go_simp
        rfl
      simp only [Act.put, List.getElem_toArray, List.getElem_cons_zero, List.getElem_cons_succ, List.setIfInBounds_toArray, List.set_cons_zero, List.set_cons_succ]
      refine wpAnyH_take (i := 8) (v := ?_) rfl (by kernel_rfl) (by kernel_rfl) (by kernel_rfl) (fun _ _ _ h => h) (Or.inl ⟨by rfl, ?_⟩) hS0 ?_
      rotate_left
      · intro wq hSw
        obtain ⟨q0, q1, q2, q3, q4, q5⟩ := hSw
        obtain ⟨qc5, qf5⟩ := row_facts q5
        go_simp
        rfl
      simp only [Act.put, List.getElem_toArray, List.getElem_cons_zero, List.getElem_cons_succ, List.setIfInBounds_toArray, List.set_cons_zero, List.set_cons_succ]
      refine wpAnyH_take (i := 9) (v := ?_) rfl (by kernel_rfl) (by kernel_rfl) (by kernel_rfl) (fun _ _ _ h => h) (Or.inl ⟨by rfl, ?_⟩) hS0 ?_
      rotate_left
      · intro wq hSw
        obtain ⟨q0, q1, q2, q3, q4, q5⟩ := hSw
        obtain ⟨qc5, qf5⟩ := row_facts q5
        go_simp
        rfl
      simp only [Act.put, List.getElem_toArray, List.getElem_cons_zero, List.getElem_cons_succ, List.setIfInBounds_toArray, List.set_cons_zero, List.set_cons_succ]
      refine wpAnyH_take (i := 10) (v := ?_) rfl (by kernel_rfl) (by kernel_rfl) (by kernel_rfl) (fun _ _ _ h => h) (Or.inl ⟨by rfl, ?_⟩) hS0 ?_
      rotate_left
      · intro wq hSw
        obtain ⟨q0, q1, q2, q3, q4, q5⟩ := hSw
        obtain ⟨qc5, qf5⟩ := row_facts q5
        go_simp
        rfl
      simp only [Act.put, List.getElem_toArray, List.getElem_cons_zero, List.getElem_cons_succ, List.setIfInBounds_toArray, List.set_cons_zero, List.set_cons_succ]
      refine wpAnyH_take (i := 11) (v := ?_) rfl (by kernel_rfl) (by kernel_rfl) (by kernel_rfl) (fun _ _ _ h => h) (Or.inl ⟨by rfl, ?_⟩) hS0 ?_
      rotate_left
      · intro wq hSw
        obtain ⟨q0, q1, q2, q3, q4, q5⟩ := hSw
        obtain ⟨qc5, qf5⟩ := row_facts q5
        go_simp
        rfl
      simp only [Act.put, List.getElem_toArray, List.getElem_cons_zero, List.getElem_cons_succ, List.setIfInBounds_toArray, List.set_cons_zero, List.set_cons_succ]
      refine wpAnyH_take (i := 12) (v := ?_) rfl (by kernel_rfl) (by kernel_rfl) (by kernel_rfl) (fun _ _ _ h => h) (Or.inl ⟨by rfl, ?_⟩) hS0 ?_
      rotate_left
      · intro wq hSw
        obtain ⟨q0, q1, q2, q3, q4, q5⟩ := hSw
        obtain ⟨qc5, qf5⟩ := row_facts q5
        go_simp
        rfl
      simp only [Act.put, List.getElem_toArray, List.getElem_cons_zero, List.getElem_cons_succ, List.setIfInBounds_toArray, List.set_cons_zero, List.set_cons_succ]
      refine wpAnyH_take (i := 13) (v := ?_) rfl (by kernel_rfl) (by kernel_rfl) (by kernel_rfl) (fun _ _ _ h => h) (Or.inl ⟨by rfl, ?_⟩) hS0 ?_
      rotate_left
      · intro wq hSw
        obtain ⟨q0, q1, q2, q3, q4, q5⟩ := hSw
        obtain ⟨qc5, qf5⟩ := row_facts q5
        go_simp
        rfl
      simp only [Act.put, List.getElem_toArray, List.getElem_cons_zero, List.getElem_cons_succ, List.setIfInBounds_toArray, List.set_cons_zero, List.set_cons_succ]
      refine wpAnyH_take (i := 14) (v := (.int .i64 n)) rfl (by kernel_rfl) (by kernel_rfl) (by kernel_rfl) (fun _ _ _ h => h) (Or.inl ⟨by rfl, ?_⟩) hS0 ?_
      · intro wq hSw
        obtain ⟨q0, q1, q2, q3, q4, q5⟩ := hSw
        obtain ⟨qc5, qf5⟩ := row_facts q5
        go_simp
      simp only [Act.put, List.getElem_toArray, List.getElem_cons_zero, List.getElem_cons_succ, List.setIfInBounds_toArray, List.set_cons_zero, List.set_cons_succ]
      refine wpAnyH_take (i := 15) (v := ?_) rfl (by kernel_rfl) (by kernel_rfl) (by kernel_rfl) (fun _ _ _ h => h) (Or.inl ⟨by rfl, ?_⟩) hS0 ?_
      rotate_left
      · intro wq hSw
        obtain ⟨q0, q1, q2, q3, q4, q5⟩ := hSw
        obtain ⟨qc5, qf5⟩ := row_facts q5
        go_simp
        rfl
      simp only [Act.put, List.getElem_toArray, List.getElem_cons_zero, List.getElem_cons_succ, List.setIfInBounds_toArray, List.set_cons_zero, List.set_cons_succ]
      refine wpAnyH_all (rs := [16]) (by kernel_rfl) (by simp) ?_
      intro i hi
      simp only [List.mem_cons, List.not_mem_nil, or_false] at hi
      subst hi
      refine wpOp_run rfl (by rfl) (w' := wr.drew.alloc (.cells #[.string ByteArray.empty, .string ByteArray.empty, .int .u8 0, .string ByteArray.empty, .string ByteArray.empty, .int .i64 0] 66)) (v := .pointer (some ⟨wr.heap.size, 0, none⟩)) (by go_simp; first | done | rfl) ⟨?_, ?_⟩
      · exact ⟨(below_cell ((Below.refl _ _).alloc (Nat.le_refl _) _) g0), (below_cell ((Below.refl _ _).alloc (Nat.le_refl _) _) g1), (below_cell ((Below.refl _ _).alloc (Nat.le_refl _) _) g2), (below_cell ((Below.refl _ _).alloc (Nat.le_refl _) _) g3), (below_cell ((Below.refl _ _).alloc (Nat.le_refl _) _) g4), (heap_at gx _)⟩
      simp only [Act.put, List.getElem_toArray, List.getElem_cons_zero, List.getElem_cons_succ, List.setIfInBounds_toArray, List.set_cons_zero, List.set_cons_succ]
      refine wpAnyH_all (rs := [17]) (by kernel_rfl) (by simp) ?_
      intro i hi
      simp only [List.mem_cons, List.not_mem_nil, or_false] at hi
      subst hi
      refine wpOp_skip rfl (by rfl) (w' := wr.drew.alloc (.cells #[.string A0, .string A1, .int .u8 k, .string A3, .string A4, .int .i64 n] 66)) (by go_simp; first | done | rfl) ?_
      obtain ⟨w4, hw_w4⟩ : ∃ w4, w4 = wr.drew.alloc (.cells #[.string A0, .string A1, .int .u8 k, .string A3, .string A4, .int .i64 n] 66) := ⟨_, rfl⟩
      rw [← hw_w4]
      have hb_w4 : Below wr.drew.heap.size wr.drew w4 := by rw [hw_w4]; exact (Below.refl _ _).alloc (Nat.le_refl _) _
      have HB_w4 := Lib.hid (((HBr.out).drew).trans (hb_w4.mono ((HBr.out).drew).size))
      have hn_w4 : w4.heap[wr.heap.size]? = some (.cells #[.string A0, .string A1, .int .u8 k, .string A3, .string A4, .int .i64 n] 66 (0, 0)) := by rw [hw_w4]; exact heap_new' _ rfl
      have p1_0 : (w4).cell? ⟨B, 0, none⟩ = some (.string A0) := below_cell hb_w4 g0
      have p1_1 : (w4).cell? ⟨B, 1, none⟩ = some (.string A1) := below_cell hb_w4 g1
      have p1_2 : (w4).cell? ⟨B, 2, none⟩ = some (.string A2) := below_cell hb_w4 g2
      have p1_3 : (w4).cell? ⟨B, 3, none⟩ = some (.string A3) := below_cell hb_w4 g3
      have p1_4 : (w4).cell? ⟨B, 4, none⟩ = some (.string A4) := below_cell hb_w4 g4
      have p1_5 : (w4).heap[w.heap.size]? = some (.cells evZero 66 (0, 0)) := (hb_w4.block _ (lt_row gx)).trans gx
      have hS1 : (w4).cell? ⟨B, 0, none⟩ = some (.string A0) ∧ (w4).cell? ⟨B, 1, none⟩ = some (.string A1) ∧ (w4).cell? ⟨B, 2, none⟩ = some (.string A2) ∧ (w4).cell? ⟨B, 3, none⟩ = some (.string A3) ∧ (w4).cell? ⟨B, 4, none⟩ = some (.string A4) ∧ (w4).heap[w.heap.size]? = some (.cells evZero 66 (0, 0)) := ⟨p1_0, p1_1, p1_2, p1_3, p1_4, p1_5⟩
      clear hb_w4 hw_w4
      refine ⟨hS1, ?_⟩
      simp only [Act.put, List.getElem_toArray, List.getElem_cons_zero, List.getElem_cons_succ, List.setIfInBounds_toArray, List.set_cons_zero, List.set_cons_succ]
      refine wpAnyH_done (by kernel_rfl) (NoPanic.normal ?_) _
      have x0 := p1_0
      have x1 := p1_1
      have x2 := p1_2
      have x3 := p1_3
      have x4 := p1_4
      have gx4 := p1_5
      clear g0 g1 g2 g3 g4 gx
      by_cases he : wordN k = c
      · have hTe : A2 = T := by rw [HT.out]; refine bl_inj ?_; rw [bl_bsOf, HA2'.out, he]
        subst hTe
        cases hck : checkB ⟨a, b, k, d, f, n⟩
        · have HC := Lib.hid (HCk.out k _ hlt hck)
          have hnx : ∀ j : Nat, 1 ≤ j → j < k + 1 → ¬ (wordN j = c ∧ checkB ⟨a, b, j, d, f, n⟩ = true) := fun j h1 h2 => by
            by_cases hj : j = k
            · rw [hj, hck]
              simp
            · exact Hall.out j h1 (by omega)
          have Hnx := Lib.hid hnx
          clear hnx hck he
          unfold whyOf at HC
          go_wp2_with fail
          refine wp_region_noPanic ?_
          refine wp_region_held (S := (fun W => W.cell? ⟨B, 0, none⟩ = some (.string A0) ∧ W.cell? ⟨B, 1, none⟩ = some (.string A1) ∧ W.cell? ⟨B, 2, none⟩ = some (.string A2) ∧ W.cell? ⟨B, 3, none⟩ = some (.string A3) ∧ W.cell? ⟨B, 4, none⟩ = some (.string A4) ∧ W.heap[w.heap.size]? = some (.cells evZero 66 (0, 0)) ∧ W.heap[wr.heap.size]? = some (.cells #[.string A0, .string A1, .int .u8 k, .string A3, .string A4, .int .i64 n] 66 (0, 0)))) (by kernel_rfl) ?_
          change wpAnyH _ _ _ _ _ _ _ _ (World.drew w4)
          have hS0 : (w4.drew).cell? ⟨B, 0, none⟩ = some (.string A0) ∧ (w4.drew).cell? ⟨B, 1, none⟩ = some (.string A1) ∧ (w4.drew).cell? ⟨B, 2, none⟩ = some (.string A2) ∧ (w4.drew).cell? ⟨B, 3, none⟩ = some (.string A3) ∧ (w4.drew).cell? ⟨B, 4, none⟩ = some (.string A4) ∧ (w4.drew).heap[w.heap.size]? = some (.cells evZero 66 (0, 0)) ∧ (w4.drew).heap[wr.heap.size]? = some (.cells #[.string A0, .string A1, .int .u8 k, .string A3, .string A4, .int .i64 n] 66 (0, 0)) := ⟨x0, x1, x2, x3, x4, gx4, hn_w4⟩
          refine wpAnyH_take (i := 0) (v := ?_) rfl (by kernel_rfl) (by kernel_rfl) (by kernel_rfl) (fun _ _ _ h => h) (Or.inl ⟨by rfl, ?_⟩) hS0 ?_
          rotate_left
          · intro wq hSw
            obtain ⟨q0, q1, q2, q3, q4, q5, q6⟩ := hSw
            obtain ⟨qc5, qf5⟩ := row_facts q5
            obtain ⟨qc6, qf6⟩ := row_facts q6
            go_simp
            rfl
          simp only [Act.put, List.getElem_toArray, List.getElem_cons_zero, List.getElem_cons_succ, List.setIfInBounds_toArray, List.set_cons_zero, List.set_cons_succ]
          refine wpAnyH_take (i := 2) (v := ?_) rfl (by kernel_rfl) (by kernel_rfl) (by kernel_rfl) (fun _ _ _ h => h) (Or.inl ⟨by rfl, ?_⟩) hS0 ?_
          rotate_left
          · intro wq hSw
            obtain ⟨q0, q1, q2, q3, q4, q5, q6⟩ := hSw
            obtain ⟨qc5, qf5⟩ := row_facts q5
            obtain ⟨qc6, qf6⟩ := row_facts q6
            go_simp
            rfl
          simp only [Act.put, List.getElem_toArray, List.getElem_cons_zero, List.getElem_cons_succ, List.setIfInBounds_toArray, List.set_cons_zero, List.set_cons_succ]
          refine wpAnyH_take (i := 3) (v := ?_) rfl (by kernel_rfl) (by kernel_rfl) (by kernel_rfl) (fun _ _ _ h => h) (Or.inl ⟨by rfl, ?_⟩) hS0 ?_
          rotate_left
          · intro wq hSw
            obtain ⟨q0, q1, q2, q3, q4, q5, q6⟩ := hSw
            obtain ⟨qc5, qf5⟩ := row_facts q5
            obtain ⟨qc6, qf6⟩ := row_facts q6
            go_simp
            rfl
          simp only [Act.put, List.getElem_toArray, List.getElem_cons_zero, List.getElem_cons_succ, List.setIfInBounds_toArray, List.set_cons_zero, List.set_cons_succ]
          refine wpAnyH_take (i := 4) (v := ?_) rfl (by kernel_rfl) (by kernel_rfl) (by kernel_rfl) (fun _ _ _ h => h) (Or.inl ⟨by rfl, ?_⟩) hS0 ?_
          rotate_left
          · intro wq hSw
            obtain ⟨q0, q1, q2, q3, q4, q5, q6⟩ := hSw
            obtain ⟨qc5, qf5⟩ := row_facts q5
            obtain ⟨qc6, qf6⟩ := row_facts q6
            go_simp
            rfl
          simp only [Act.put, List.getElem_toArray, List.getElem_cons_zero, List.getElem_cons_succ, List.setIfInBounds_toArray, List.set_cons_zero, List.set_cons_succ]
          refine wpAnyH_all (rs := [1]) (by kernel_rfl) (by simp) ?_
          intro i hi
          simp only [List.mem_cons, List.not_mem_nil, or_false] at hi
          subst hi
          refine wpOp_call rfl (by rfl) (by go_simp; first | rfl | exact ⟨⟨rfl, rfl⟩, rfl⟩ | exact ⟨rfl, rfl⟩) ?_
          refine (HWd.out (w4.drew)).mono ?_
          rintro e w5 ⟨rfl, hb_w5⟩
          have HB_w5 := Lib.hid (((HB_w4.out).drew).trans (hb_w5.mono ((HB_w4.out).drew).size))
          have p1_0 : (w5).cell? ⟨B, 0, none⟩ = some (.string A0) := below_cell hb_w5 x0
          have p1_1 : (w5).cell? ⟨B, 1, none⟩ = some (.string A1) := below_cell hb_w5 x1
          have p1_2 : (w5).cell? ⟨B, 2, none⟩ = some (.string A2) := below_cell hb_w5 x2
          have p1_3 : (w5).cell? ⟨B, 3, none⟩ = some (.string A3) := below_cell hb_w5 x3
          have p1_4 : (w5).cell? ⟨B, 4, none⟩ = some (.string A4) := below_cell hb_w5 x4
          have p1_5 : (w5).heap[w.heap.size]? = some (.cells evZero 66 (0, 0)) := (hb_w5.block _ (lt_row gx4)).trans gx4
          have p1_6 : (w5).heap[wr.heap.size]? = some (.cells #[.string A0, .string A1, .int .u8 k, .string A3, .string A4, .int .i64 n] 66 (0, 0)) := (hb_w5.block _ (lt_row hn_w4)).trans hn_w4
          have hS1 : (w5).cell? ⟨B, 0, none⟩ = some (.string A0) ∧ (w5).cell? ⟨B, 1, none⟩ = some (.string A1) ∧ (w5).cell? ⟨B, 2, none⟩ = some (.string A2) ∧ (w5).cell? ⟨B, 3, none⟩ = some (.string A3) ∧ (w5).cell? ⟨B, 4, none⟩ = some (.string A4) ∧ (w5).heap[w.heap.size]? = some (.cells evZero 66 (0, 0)) ∧ (w5).heap[wr.heap.size]? = some (.cells #[.string A0, .string A1, .int .u8 k, .string A3, .string A4, .int .i64 n] 66 (0, 0)) := ⟨p1_0, p1_1, p1_2, p1_3, p1_4, p1_5, p1_6⟩
          clear hb_w5
          refine ⟨_, rfl, ?_, ?_⟩
          · exact hS1
          simp only [Act.put, List.getElem_toArray, List.getElem_cons_zero, List.getElem_cons_succ, List.setIfInBounds_toArray, List.set_cons_zero, List.set_cons_succ]
          refine wpAnyH_take (i := 5) (v := ?_) rfl (by kernel_rfl) (by kernel_rfl) (by kernel_rfl) (fun _ _ _ h => h) (Or.inl ⟨by rfl, ?_⟩) hS1 ?_
          rotate_left
          · intro wq hSw
            obtain ⟨q0, q1, q2, q3, q4, q5, q6⟩ := hSw
            obtain ⟨qc5, qf5⟩ := row_facts q5
            obtain ⟨qc6, qf6⟩ := row_facts q6
            go_simp
            rfl
          simp only [Act.put, List.getElem_toArray, List.getElem_cons_zero, List.getElem_cons_succ, List.setIfInBounds_toArray, List.set_cons_zero, List.set_cons_succ]
          refine wpAnyH_take (i := 6) (v := ?_) rfl (by kernel_rfl) (by kernel_rfl) (by kernel_rfl) (fun _ _ _ h => h) (Or.inl ⟨by rfl, ?_⟩) hS1 ?_
          rotate_left
          · intro wq hSw
            obtain ⟨q0, q1, q2, q3, q4, q5, q6⟩ := hSw
            obtain ⟨qc5, qf5⟩ := row_facts q5
            obtain ⟨qc6, qf6⟩ := row_facts q6
            go_simp
            rfl
          simp only [Act.put, List.getElem_toArray, List.getElem_cons_zero, List.getElem_cons_succ, List.setIfInBounds_toArray, List.set_cons_zero, List.set_cons_succ]
          refine wpAnyH_take (i := 7) (v := ?_) rfl (by kernel_rfl) (by kernel_rfl) (by kernel_rfl) (fun _ _ _ h => h) (Or.inl ⟨by rfl, ?_⟩) hS1 ?_
          rotate_left
          · intro wq hSw
            obtain ⟨q0, q1, q2, q3, q4, q5, q6⟩ := hSw
            obtain ⟨qc5, qf5⟩ := row_facts q5
            obtain ⟨qc6, qf6⟩ := row_facts q6
            go_simp
            rfl
          simp only [Act.put, List.getElem_toArray, List.getElem_cons_zero, List.getElem_cons_succ, List.setIfInBounds_toArray, List.set_cons_zero, List.set_cons_succ]
          refine wpAnyH_all (rs := [8]) (by kernel_rfl) (by simp) ?_
          intro i hi
          simp only [List.mem_cons, List.not_mem_nil, or_false] at hi
          subst hi
          refine wpOp_call rfl (by rfl) (by go_simp; first | rfl | exact ⟨⟨rfl, rfl⟩, rfl⟩ | exact ⟨rfl, rfl⟩) ?_
          refine (HC.out (w5)).mono ?_
          rintro e w6 ⟨rfl, hb_w6⟩
          have HB_w6 := Lib.hid ((HB_w5.out).trans (hb_w6.mono (HB_w5.out).size))
          have p2_0 : (w6).cell? ⟨B, 0, none⟩ = some (.string A0) := below_cell hb_w6 p1_0
          have p2_1 : (w6).cell? ⟨B, 1, none⟩ = some (.string A1) := below_cell hb_w6 p1_1
          have p2_2 : (w6).cell? ⟨B, 2, none⟩ = some (.string A2) := below_cell hb_w6 p1_2
          have p2_3 : (w6).cell? ⟨B, 3, none⟩ = some (.string A3) := below_cell hb_w6 p1_3
          have p2_4 : (w6).cell? ⟨B, 4, none⟩ = some (.string A4) := below_cell hb_w6 p1_4
          have p2_5 : (w6).heap[w.heap.size]? = some (.cells evZero 66 (0, 0)) := (hb_w6.block _ (lt_row p1_5)).trans p1_5
          have p2_6 : (w6).heap[wr.heap.size]? = some (.cells #[.string A0, .string A1, .int .u8 k, .string A3, .string A4, .int .i64 n] 66 (0, 0)) := (hb_w6.block _ (lt_row p1_6)).trans p1_6
          have hS2 : (w6).cell? ⟨B, 0, none⟩ = some (.string A0) ∧ (w6).cell? ⟨B, 1, none⟩ = some (.string A1) ∧ (w6).cell? ⟨B, 2, none⟩ = some (.string A2) ∧ (w6).cell? ⟨B, 3, none⟩ = some (.string A3) ∧ (w6).cell? ⟨B, 4, none⟩ = some (.string A4) ∧ (w6).heap[w.heap.size]? = some (.cells evZero 66 (0, 0)) ∧ (w6).heap[wr.heap.size]? = some (.cells #[.string A0, .string A1, .int .u8 k, .string A3, .string A4, .int .i64 n] 66 (0, 0)) := ⟨p2_0, p2_1, p2_2, p2_3, p2_4, p2_5, p2_6⟩
          clear hb_w6
          refine ⟨_, rfl, ?_, ?_⟩
          · exact hS2
          simp only [Act.put, List.getElem_toArray, List.getElem_cons_zero, List.getElem_cons_succ, List.setIfInBounds_toArray, List.set_cons_zero, List.set_cons_succ]
          skip
          refine wpAnyH_take (i := 9) (v := ?_) rfl (by kernel_rfl) (by kernel_rfl) (by kernel_rfl) (fun _ _ _ h => h) (Or.inl ⟨by rfl, ?_⟩) hS2 ?_
          rotate_left
          · intro wq hSw
            obtain ⟨q0, q1, q2, q3, q4, q5, q6⟩ := hSw
            obtain ⟨qc5, qf5⟩ := row_facts q5
            obtain ⟨qc6, qf6⟩ := row_facts q6
            go_simp
            rfl
          simp only [Act.put, List.getElem_toArray, List.getElem_cons_zero, List.getElem_cons_succ, List.setIfInBounds_toArray, List.set_cons_zero, List.set_cons_succ]
          refine wpAnyH_take (i := 10) (v := ?_) rfl (by kernel_rfl) (by kernel_rfl) (by kernel_rfl) (fun _ _ _ h => h) (Or.inl ⟨by rfl, ?_⟩) hS2 ?_
          rotate_left
          · intro wq hSw
            obtain ⟨q0, q1, q2, q3, q4, q5, q6⟩ := hSw
            obtain ⟨qc5, qf5⟩ := row_facts q5
            obtain ⟨qc6, qf6⟩ := row_facts q6
            go_simp
            rfl
          simp only [Act.put, List.getElem_toArray, List.getElem_cons_zero, List.getElem_cons_succ, List.setIfInBounds_toArray, List.set_cons_zero, List.set_cons_succ]
          refine wpAnyH_done (by kernel_rfl) (NoPanic.normal ?_) _
          have P0 := p2_0
          have P1 := p2_1
          have P2 := p2_2
          have P3 := p2_3
          have P4 := p2_4
          have PX := p2_5
          go_wp2
          go_roundw
          case rel => exact ⟨k + 1, by go_num, by omega, by omega, HB_w6.out, P0, P1, P2, P3, P4, PX, Hnx.out⟩
          case measure => simp [intOf]; omega
        · have HC := Lib.hid (HCk.out k _ hlt hck)
          have Hres := Lib.hid (Hhit.out k hk1 hlt he hck)
          clear hck he
          unfold whyOf at HC
          go_wp2_with fail
          refine wp_region_noPanic ?_
          refine wp_region_held (S := (fun W => W.cell? ⟨B, 0, none⟩ = some (.string A0) ∧ W.cell? ⟨B, 1, none⟩ = some (.string A1) ∧ W.cell? ⟨B, 2, none⟩ = some (.string A2) ∧ W.cell? ⟨B, 3, none⟩ = some (.string A3) ∧ W.cell? ⟨B, 4, none⟩ = some (.string A4) ∧ W.heap[w.heap.size]? = some (.cells evZero 66 (0, 0)) ∧ W.heap[wr.heap.size]? = some (.cells #[.string A0, .string A1, .int .u8 k, .string A3, .string A4, .int .i64 n] 66 (0, 0)))) (by kernel_rfl) ?_
          change wpAnyH _ _ _ _ _ _ _ _ (World.drew w4)
          have hS0 : (w4.drew).cell? ⟨B, 0, none⟩ = some (.string A0) ∧ (w4.drew).cell? ⟨B, 1, none⟩ = some (.string A1) ∧ (w4.drew).cell? ⟨B, 2, none⟩ = some (.string A2) ∧ (w4.drew).cell? ⟨B, 3, none⟩ = some (.string A3) ∧ (w4.drew).cell? ⟨B, 4, none⟩ = some (.string A4) ∧ (w4.drew).heap[w.heap.size]? = some (.cells evZero 66 (0, 0)) ∧ (w4.drew).heap[wr.heap.size]? = some (.cells #[.string A0, .string A1, .int .u8 k, .string A3, .string A4, .int .i64 n] 66 (0, 0)) := ⟨x0, x1, x2, x3, x4, gx4, hn_w4⟩
          refine wpAnyH_take (i := 0) (v := ?_) rfl (by kernel_rfl) (by kernel_rfl) (by kernel_rfl) (fun _ _ _ h => h) (Or.inl ⟨by rfl, ?_⟩) hS0 ?_
          rotate_left
          · intro wq hSw
            obtain ⟨q0, q1, q2, q3, q4, q5, q6⟩ := hSw
            obtain ⟨qc5, qf5⟩ := row_facts q5
            obtain ⟨qc6, qf6⟩ := row_facts q6
            go_simp
            rfl
          simp only [Act.put, List.getElem_toArray, List.getElem_cons_zero, List.getElem_cons_succ, List.setIfInBounds_toArray, List.set_cons_zero, List.set_cons_succ]
          refine wpAnyH_take (i := 2) (v := ?_) rfl (by kernel_rfl) (by kernel_rfl) (by kernel_rfl) (fun _ _ _ h => h) (Or.inl ⟨by rfl, ?_⟩) hS0 ?_
          rotate_left
          · intro wq hSw
            obtain ⟨q0, q1, q2, q3, q4, q5, q6⟩ := hSw
            obtain ⟨qc5, qf5⟩ := row_facts q5
            obtain ⟨qc6, qf6⟩ := row_facts q6
            go_simp
            rfl
          simp only [Act.put, List.getElem_toArray, List.getElem_cons_zero, List.getElem_cons_succ, List.setIfInBounds_toArray, List.set_cons_zero, List.set_cons_succ]
          refine wpAnyH_take (i := 3) (v := ?_) rfl (by kernel_rfl) (by kernel_rfl) (by kernel_rfl) (fun _ _ _ h => h) (Or.inl ⟨by rfl, ?_⟩) hS0 ?_
          rotate_left
          · intro wq hSw
            obtain ⟨q0, q1, q2, q3, q4, q5, q6⟩ := hSw
            obtain ⟨qc5, qf5⟩ := row_facts q5
            obtain ⟨qc6, qf6⟩ := row_facts q6
            go_simp
            rfl
          simp only [Act.put, List.getElem_toArray, List.getElem_cons_zero, List.getElem_cons_succ, List.setIfInBounds_toArray, List.set_cons_zero, List.set_cons_succ]
          refine wpAnyH_take (i := 4) (v := ?_) rfl (by kernel_rfl) (by kernel_rfl) (by kernel_rfl) (fun _ _ _ h => h) (Or.inl ⟨by rfl, ?_⟩) hS0 ?_
          rotate_left
          · intro wq hSw
            obtain ⟨q0, q1, q2, q3, q4, q5, q6⟩ := hSw
            obtain ⟨qc5, qf5⟩ := row_facts q5
            obtain ⟨qc6, qf6⟩ := row_facts q6
            go_simp
            rfl
          simp only [Act.put, List.getElem_toArray, List.getElem_cons_zero, List.getElem_cons_succ, List.setIfInBounds_toArray, List.set_cons_zero, List.set_cons_succ]
          refine wpAnyH_all (rs := [1]) (by kernel_rfl) (by simp) ?_
          intro i hi
          simp only [List.mem_cons, List.not_mem_nil, or_false] at hi
          subst hi
          refine wpOp_call rfl (by rfl) (by go_simp; first | rfl | exact ⟨⟨rfl, rfl⟩, rfl⟩ | exact ⟨rfl, rfl⟩) ?_
          refine (HWd.out (w4.drew)).mono ?_
          rintro e w5 ⟨rfl, hb_w5⟩
          have HB_w5 := Lib.hid (((HB_w4.out).drew).trans (hb_w5.mono ((HB_w4.out).drew).size))
          have p1_0 : (w5).cell? ⟨B, 0, none⟩ = some (.string A0) := below_cell hb_w5 x0
          have p1_1 : (w5).cell? ⟨B, 1, none⟩ = some (.string A1) := below_cell hb_w5 x1
          have p1_2 : (w5).cell? ⟨B, 2, none⟩ = some (.string A2) := below_cell hb_w5 x2
          have p1_3 : (w5).cell? ⟨B, 3, none⟩ = some (.string A3) := below_cell hb_w5 x3
          have p1_4 : (w5).cell? ⟨B, 4, none⟩ = some (.string A4) := below_cell hb_w5 x4
          have p1_5 : (w5).heap[w.heap.size]? = some (.cells evZero 66 (0, 0)) := (hb_w5.block _ (lt_row gx4)).trans gx4
          have p1_6 : (w5).heap[wr.heap.size]? = some (.cells #[.string A0, .string A1, .int .u8 k, .string A3, .string A4, .int .i64 n] 66 (0, 0)) := (hb_w5.block _ (lt_row hn_w4)).trans hn_w4
          have hS1 : (w5).cell? ⟨B, 0, none⟩ = some (.string A0) ∧ (w5).cell? ⟨B, 1, none⟩ = some (.string A1) ∧ (w5).cell? ⟨B, 2, none⟩ = some (.string A2) ∧ (w5).cell? ⟨B, 3, none⟩ = some (.string A3) ∧ (w5).cell? ⟨B, 4, none⟩ = some (.string A4) ∧ (w5).heap[w.heap.size]? = some (.cells evZero 66 (0, 0)) ∧ (w5).heap[wr.heap.size]? = some (.cells #[.string A0, .string A1, .int .u8 k, .string A3, .string A4, .int .i64 n] 66 (0, 0)) := ⟨p1_0, p1_1, p1_2, p1_3, p1_4, p1_5, p1_6⟩
          clear hb_w5
          refine ⟨_, rfl, ?_, ?_⟩
          · exact hS1
          simp only [Act.put, List.getElem_toArray, List.getElem_cons_zero, List.getElem_cons_succ, List.setIfInBounds_toArray, List.set_cons_zero, List.set_cons_succ]
          refine wpAnyH_take (i := 5) (v := ?_) rfl (by kernel_rfl) (by kernel_rfl) (by kernel_rfl) (fun _ _ _ h => h) (Or.inl ⟨by rfl, ?_⟩) hS1 ?_
          rotate_left
          · intro wq hSw
            obtain ⟨q0, q1, q2, q3, q4, q5, q6⟩ := hSw
            obtain ⟨qc5, qf5⟩ := row_facts q5
            obtain ⟨qc6, qf6⟩ := row_facts q6
            go_simp
            rfl
          simp only [Act.put, List.getElem_toArray, List.getElem_cons_zero, List.getElem_cons_succ, List.setIfInBounds_toArray, List.set_cons_zero, List.set_cons_succ]
          refine wpAnyH_take (i := 6) (v := ?_) rfl (by kernel_rfl) (by kernel_rfl) (by kernel_rfl) (fun _ _ _ h => h) (Or.inl ⟨by rfl, ?_⟩) hS1 ?_
          rotate_left
          · intro wq hSw
            obtain ⟨q0, q1, q2, q3, q4, q5, q6⟩ := hSw
            obtain ⟨qc5, qf5⟩ := row_facts q5
            obtain ⟨qc6, qf6⟩ := row_facts q6
            go_simp
            rfl
          simp only [Act.put, List.getElem_toArray, List.getElem_cons_zero, List.getElem_cons_succ, List.setIfInBounds_toArray, List.set_cons_zero, List.set_cons_succ]
          refine wpAnyH_take (i := 7) (v := ?_) rfl (by kernel_rfl) (by kernel_rfl) (by kernel_rfl) (fun _ _ _ h => h) (Or.inl ⟨by rfl, ?_⟩) hS1 ?_
          rotate_left
          · intro wq hSw
            obtain ⟨q0, q1, q2, q3, q4, q5, q6⟩ := hSw
            obtain ⟨qc5, qf5⟩ := row_facts q5
            obtain ⟨qc6, qf6⟩ := row_facts q6
            go_simp
            rfl
          simp only [Act.put, List.getElem_toArray, List.getElem_cons_zero, List.getElem_cons_succ, List.setIfInBounds_toArray, List.set_cons_zero, List.set_cons_succ]
          refine wpAnyH_all (rs := [8]) (by kernel_rfl) (by simp) ?_
          intro i hi
          simp only [List.mem_cons, List.not_mem_nil, or_false] at hi
          subst hi
          refine wpOp_call rfl (by rfl) (by go_simp; first | rfl | exact ⟨⟨rfl, rfl⟩, rfl⟩ | exact ⟨rfl, rfl⟩) ?_
          refine (HC.out (w5)).mono ?_
          rintro e w6 ⟨rfl, hb_w6⟩
          have HB_w6 := Lib.hid ((HB_w5.out).trans (hb_w6.mono (HB_w5.out).size))
          have p2_0 : (w6).cell? ⟨B, 0, none⟩ = some (.string A0) := below_cell hb_w6 p1_0
          have p2_1 : (w6).cell? ⟨B, 1, none⟩ = some (.string A1) := below_cell hb_w6 p1_1
          have p2_2 : (w6).cell? ⟨B, 2, none⟩ = some (.string A2) := below_cell hb_w6 p1_2
          have p2_3 : (w6).cell? ⟨B, 3, none⟩ = some (.string A3) := below_cell hb_w6 p1_3
          have p2_4 : (w6).cell? ⟨B, 4, none⟩ = some (.string A4) := below_cell hb_w6 p1_4
          have p2_5 : (w6).heap[w.heap.size]? = some (.cells evZero 66 (0, 0)) := (hb_w6.block _ (lt_row p1_5)).trans p1_5
          have p2_6 : (w6).heap[wr.heap.size]? = some (.cells #[.string A0, .string A1, .int .u8 k, .string A3, .string A4, .int .i64 n] 66 (0, 0)) := (hb_w6.block _ (lt_row p1_6)).trans p1_6
          have hS2 : (w6).cell? ⟨B, 0, none⟩ = some (.string A0) ∧ (w6).cell? ⟨B, 1, none⟩ = some (.string A1) ∧ (w6).cell? ⟨B, 2, none⟩ = some (.string A2) ∧ (w6).cell? ⟨B, 3, none⟩ = some (.string A3) ∧ (w6).cell? ⟨B, 4, none⟩ = some (.string A4) ∧ (w6).heap[w.heap.size]? = some (.cells evZero 66 (0, 0)) ∧ (w6).heap[wr.heap.size]? = some (.cells #[.string A0, .string A1, .int .u8 k, .string A3, .string A4, .int .i64 n] 66 (0, 0)) := ⟨p2_0, p2_1, p2_2, p2_3, p2_4, p2_5, p2_6⟩
          clear hb_w6
          refine ⟨_, rfl, ?_, ?_⟩
          · exact hS2
          simp only [Act.put, List.getElem_toArray, List.getElem_cons_zero, List.getElem_cons_succ, List.setIfInBounds_toArray, List.set_cons_zero, List.set_cons_succ]
          skip
          refine wpAnyH_take (i := 9) (v := ?_) rfl (by kernel_rfl) (by kernel_rfl) (by kernel_rfl) (fun _ _ _ h => h) (Or.inl ⟨by rfl, ?_⟩) hS2 ?_
          rotate_left
          · intro wq hSw
            obtain ⟨q0, q1, q2, q3, q4, q5, q6⟩ := hSw
            obtain ⟨qc5, qf5⟩ := row_facts q5
            obtain ⟨qc6, qf6⟩ := row_facts q6
            go_simp
            rfl
          simp only [Act.put, List.getElem_toArray, List.getElem_cons_zero, List.getElem_cons_succ, List.setIfInBounds_toArray, List.set_cons_zero, List.set_cons_succ]
          refine wpAnyH_take (i := 10) (v := ?_) rfl (by kernel_rfl) (by kernel_rfl) (by kernel_rfl) (fun _ _ _ h => h) (Or.inl ⟨by rfl, ?_⟩) hS2 ?_
          rotate_left
          · intro wq hSw
            obtain ⟨q0, q1, q2, q3, q4, q5, q6⟩ := hSw
            obtain ⟨qc5, qf5⟩ := row_facts q5
            obtain ⟨qc6, qf6⟩ := row_facts q6
            go_simp
            rfl
          simp only [Act.put, List.getElem_toArray, List.getElem_cons_zero, List.getElem_cons_succ, List.setIfInBounds_toArray, List.set_cons_zero, List.set_cons_succ]
          refine wpAnyH_done (by kernel_rfl) (NoPanic.normal ?_) _
          have P0 := p2_0
          have P1 := p2_1
          have P2 := p2_2
          have P3 := p2_3
          have P4 := p2_4
          have PX := p2_5
          have QX := p2_6
          unfold evZero at PX
          obtain ⟨c1, f1⟩ := row_facts PX
          obtain ⟨c2, f2⟩ := row_facts QX
          have l1 := lt_row PX
          have l2 := lt_row QX
          go_wp2
          obtain ⟨W4, hW4⟩ : ∃ W4, W4 = set6 w6 w.heap.size (.string A0) (.string A1) (.int .u8 k) (.string A3) (.string A4) (.int .i64 n) := ⟨_, rfl⟩
          have hrow : W4.heap[w.heap.size]? = some (.cells #[.string A0, .string A1, .int .u8 k, .string A3, .string A4, .int .i64 n] 66 (0, 0)) := by rw [hW4]; exact set6_row PX ..
          have HB5 : Below w.heap.size w W4 := by rw [hW4]; exact set6_below HB_w6.out (Nat.le_refl _) ..
          have k0 : W4.cell? ⟨w.heap.size, 0, none⟩ = _ := cell_row hrow
          have k1 : W4.cell? ⟨w.heap.size, 1, none⟩ = _ := cell_row hrow
          have k2 : W4.cell? ⟨w.heap.size, 2, none⟩ = _ := cell_row hrow
          have k3 : W4.cell? ⟨w.heap.size, 3, none⟩ = _ := cell_row hrow
          have k4 : W4.cell? ⟨w.heap.size, 4, none⟩ = _ := cell_row hrow
          have k5 : W4.cell? ⟨w.heap.size, 5, none⟩ = _ := cell_row hrow
          change bodyPost _ _ _ _ _ (set6 w6 w.heap.size (.string A0) (.string A1) (.int .u8 k) (.string A3) (.string A4) (.int .i64 n))
          rw [← hW4]
          refine bodyPost_ret (v := .tuple #[.agg #[.string A0, .string A1, .int .u8 k, .string A3, .string A4, .int .i64 n], .int .i64 0]) (by simp [results, Tryz.results44, go_sem, k0, k1, k2, k3, k4, k5]) rfl ⟨Hres.out.symm, HB5⟩
      · have hTe : (T.toList == A2.toList) = false := str_ne (fun h => he (by rw [← HA2'.out, ← h, HT.out, bl_bsOf]))
        have hnx : ∀ j : Nat, 1 ≤ j → j < k + 1 → ¬ (wordN j = c ∧ checkB ⟨a, b, j, d, f, n⟩ = true) := fun j h1 h2 => by
          by_cases hj : j = k
          · rw [hj]
            exact fun h => he h.1
          · exact Hall.out j h1 (by omega)
        have Hnx := Lib.hid hnx
        clear hnx he
        go_wp2_with fail
        refine wp_region_noPanic ?_
        refine wp_region_held (S := (fun W => W.cell? ⟨B, 0, none⟩ = some (.string A0) ∧ W.cell? ⟨B, 1, none⟩ = some (.string A1) ∧ W.cell? ⟨B, 2, none⟩ = some (.string A2) ∧ W.cell? ⟨B, 3, none⟩ = some (.string A3) ∧ W.cell? ⟨B, 4, none⟩ = some (.string A4) ∧ W.heap[w.heap.size]? = some (.cells evZero 66 (0, 0)) ∧ W.heap[wr.heap.size]? = some (.cells #[.string A0, .string A1, .int .u8 k, .string A3, .string A4, .int .i64 n] 66 (0, 0)))) (by kernel_rfl) ?_
        change wpAnyH _ _ _ _ _ _ _ _ (World.drew w4)
        have hS0 : (w4.drew).cell? ⟨B, 0, none⟩ = some (.string A0) ∧ (w4.drew).cell? ⟨B, 1, none⟩ = some (.string A1) ∧ (w4.drew).cell? ⟨B, 2, none⟩ = some (.string A2) ∧ (w4.drew).cell? ⟨B, 3, none⟩ = some (.string A3) ∧ (w4.drew).cell? ⟨B, 4, none⟩ = some (.string A4) ∧ (w4.drew).heap[w.heap.size]? = some (.cells evZero 66 (0, 0)) ∧ (w4.drew).heap[wr.heap.size]? = some (.cells #[.string A0, .string A1, .int .u8 k, .string A3, .string A4, .int .i64 n] 66 (0, 0)) := ⟨x0, x1, x2, x3, x4, gx4, hn_w4⟩
        refine wpAnyH_take (i := 0) (v := ?_) rfl (by kernel_rfl) (by kernel_rfl) (by kernel_rfl) (fun _ _ _ h => h) (Or.inl ⟨by rfl, ?_⟩) hS0 ?_
        rotate_left
        · intro wq hSw
          obtain ⟨q0, q1, q2, q3, q4, q5, q6⟩ := hSw
          obtain ⟨qc5, qf5⟩ := row_facts q5
          obtain ⟨qc6, qf6⟩ := row_facts q6
          go_simp
          rfl
        simp only [Act.put, List.getElem_toArray, List.getElem_cons_zero, List.getElem_cons_succ, List.setIfInBounds_toArray, List.set_cons_zero, List.set_cons_succ]
        refine wpAnyH_take (i := 2) (v := ?_) rfl (by kernel_rfl) (by kernel_rfl) (by kernel_rfl) (fun _ _ _ h => h) (Or.inl ⟨by rfl, ?_⟩) hS0 ?_
        rotate_left
        · intro wq hSw
          obtain ⟨q0, q1, q2, q3, q4, q5, q6⟩ := hSw
          obtain ⟨qc5, qf5⟩ := row_facts q5
          obtain ⟨qc6, qf6⟩ := row_facts q6
          go_simp
          rfl
        simp only [Act.put, List.getElem_toArray, List.getElem_cons_zero, List.getElem_cons_succ, List.setIfInBounds_toArray, List.set_cons_zero, List.set_cons_succ]
        refine wpAnyH_take (i := 3) (v := ?_) rfl (by kernel_rfl) (by kernel_rfl) (by kernel_rfl) (fun _ _ _ h => h) (Or.inl ⟨by rfl, ?_⟩) hS0 ?_
        rotate_left
        · intro wq hSw
          obtain ⟨q0, q1, q2, q3, q4, q5, q6⟩ := hSw
          obtain ⟨qc5, qf5⟩ := row_facts q5
          obtain ⟨qc6, qf6⟩ := row_facts q6
          go_simp
          rfl
        simp only [Act.put, List.getElem_toArray, List.getElem_cons_zero, List.getElem_cons_succ, List.setIfInBounds_toArray, List.set_cons_zero, List.set_cons_succ]
        refine wpAnyH_take (i := 4) (v := ?_) rfl (by kernel_rfl) (by kernel_rfl) (by kernel_rfl) (fun _ _ _ h => h) (Or.inl ⟨by rfl, ?_⟩) hS0 ?_
        rotate_left
        · intro wq hSw
          obtain ⟨q0, q1, q2, q3, q4, q5, q6⟩ := hSw
          obtain ⟨qc5, qf5⟩ := row_facts q5
          obtain ⟨qc6, qf6⟩ := row_facts q6
          go_simp
          rfl
        simp only [Act.put, List.getElem_toArray, List.getElem_cons_zero, List.getElem_cons_succ, List.setIfInBounds_toArray, List.set_cons_zero, List.set_cons_succ]
        refine wpAnyH_all (rs := [1]) (by kernel_rfl) (by simp) ?_
        intro i hi
        simp only [List.mem_cons, List.not_mem_nil, or_false] at hi
        subst hi
        refine wpOp_call rfl (by rfl) (by go_simp; first | rfl | exact ⟨⟨rfl, rfl⟩, rfl⟩ | exact ⟨rfl, rfl⟩) ?_
        refine (HWd.out (w4.drew)).mono ?_
        rintro e w5 ⟨rfl, hb_w5⟩
        have HB_w5 := Lib.hid (((HB_w4.out).drew).trans (hb_w5.mono ((HB_w4.out).drew).size))
        have p1_0 : (w5).cell? ⟨B, 0, none⟩ = some (.string A0) := below_cell hb_w5 x0
        have p1_1 : (w5).cell? ⟨B, 1, none⟩ = some (.string A1) := below_cell hb_w5 x1
        have p1_2 : (w5).cell? ⟨B, 2, none⟩ = some (.string A2) := below_cell hb_w5 x2
        have p1_3 : (w5).cell? ⟨B, 3, none⟩ = some (.string A3) := below_cell hb_w5 x3
        have p1_4 : (w5).cell? ⟨B, 4, none⟩ = some (.string A4) := below_cell hb_w5 x4
        have p1_5 : (w5).heap[w.heap.size]? = some (.cells evZero 66 (0, 0)) := (hb_w5.block _ (lt_row gx4)).trans gx4
        have p1_6 : (w5).heap[wr.heap.size]? = some (.cells #[.string A0, .string A1, .int .u8 k, .string A3, .string A4, .int .i64 n] 66 (0, 0)) := (hb_w5.block _ (lt_row hn_w4)).trans hn_w4
        have hS1 : (w5).cell? ⟨B, 0, none⟩ = some (.string A0) ∧ (w5).cell? ⟨B, 1, none⟩ = some (.string A1) ∧ (w5).cell? ⟨B, 2, none⟩ = some (.string A2) ∧ (w5).cell? ⟨B, 3, none⟩ = some (.string A3) ∧ (w5).cell? ⟨B, 4, none⟩ = some (.string A4) ∧ (w5).heap[w.heap.size]? = some (.cells evZero 66 (0, 0)) ∧ (w5).heap[wr.heap.size]? = some (.cells #[.string A0, .string A1, .int .u8 k, .string A3, .string A4, .int .i64 n] 66 (0, 0)) := ⟨p1_0, p1_1, p1_2, p1_3, p1_4, p1_5, p1_6⟩
        clear hb_w5
        refine ⟨_, rfl, ?_, ?_⟩
        · exact hS1
        simp only [Act.put, List.getElem_toArray, List.getElem_cons_zero, List.getElem_cons_succ, List.setIfInBounds_toArray, List.set_cons_zero, List.set_cons_succ]
        refine wpAnyH_take (i := 5) (v := ?_) rfl (by kernel_rfl) (by kernel_rfl) (by kernel_rfl) (fun _ _ _ h => h) (Or.inl ⟨by rfl, ?_⟩) hS1 ?_
        rotate_left
        · intro wq hSw
          obtain ⟨q0, q1, q2, q3, q4, q5, q6⟩ := hSw
          obtain ⟨qc5, qf5⟩ := row_facts q5
          obtain ⟨qc6, qf6⟩ := row_facts q6
          go_simp
          rfl
        simp only [Act.put, List.getElem_toArray, List.getElem_cons_zero, List.getElem_cons_succ, List.setIfInBounds_toArray, List.set_cons_zero, List.set_cons_succ]
        refine wpAnyH_take (i := 6) (v := ?_) rfl (by kernel_rfl) (by kernel_rfl) (by kernel_rfl) (fun _ _ _ h => h) (Or.inl ⟨by rfl, ?_⟩) hS1 ?_
        rotate_left
        · intro wq hSw
          obtain ⟨q0, q1, q2, q3, q4, q5, q6⟩ := hSw
          obtain ⟨qc5, qf5⟩ := row_facts q5
          obtain ⟨qc6, qf6⟩ := row_facts q6
          go_simp
          rfl
        simp only [Act.put, List.getElem_toArray, List.getElem_cons_zero, List.getElem_cons_succ, List.setIfInBounds_toArray, List.set_cons_zero, List.set_cons_succ]
        refine wpAnyH_take (i := 7) (v := undef) rfl (by kernel_rfl) (by kernel_rfl) (by kernel_rfl) (fun _ _ _ h => h) (Or.inr ⟨by rfl, rfl⟩) hS1 ?_
        simp only [Act.put, List.getElem_toArray, List.getElem_cons_zero, List.getElem_cons_succ, List.setIfInBounds_toArray, List.set_cons_zero, List.set_cons_succ]
        refine wpAnyH_all (rs := [8]) (by kernel_rfl) (by simp) ?_
        intro i hi
        simp only [List.mem_cons, List.not_mem_nil, or_false] at hi
        subst hi
        refine wpOp_off rfl (by rfl) ⟨hS1, ?_⟩
        simp only [Act.put, List.getElem_toArray, List.getElem_cons_zero, List.getElem_cons_succ, List.setIfInBounds_toArray, List.set_cons_zero, List.set_cons_succ]
        refine wpAnyH_take (i := 9) (v := undef) rfl (by kernel_rfl) (by kernel_rfl) (by kernel_rfl) (fun _ _ _ h => h) (Or.inr ⟨by rfl, rfl⟩) hS1 ?_
        simp only [Act.put, List.getElem_toArray, List.getElem_cons_zero, List.getElem_cons_succ, List.setIfInBounds_toArray, List.set_cons_zero, List.set_cons_succ]
        refine wpAnyH_take (i := 10) (v := ?_) rfl (by kernel_rfl) (by kernel_rfl) (by kernel_rfl) (fun _ _ _ h => h) (Or.inl ⟨by rfl, ?_⟩) hS1 ?_
        rotate_left
        · intro wq hSw
          obtain ⟨q0, q1, q2, q3, q4, q5, q6⟩ := hSw
          obtain ⟨qc5, qf5⟩ := row_facts q5
          obtain ⟨qc6, qf6⟩ := row_facts q6
          go_simp
          rfl
        simp only [Act.put, List.getElem_toArray, List.getElem_cons_zero, List.getElem_cons_succ, List.setIfInBounds_toArray, List.set_cons_zero, List.set_cons_succ]
        refine wpAnyH_done (by kernel_rfl) (NoPanic.normal ?_) _
        have P0 := p1_0
        have P1 := p1_1
        have P2 := p1_2
        have P3 := p1_3
        have P4 := p1_4
        have PX := p1_5
        go_wp2
        go_roundw
        case rel => exact ⟨k + 1, by go_num, by omega, by omega, HB_w5.out, P0, P1, P2, P3, P4, PX, Hnx.out⟩
        case measure => simp [intOf]; omega
    · obtain rfl : k = 9 := by omega
      have hn := Hmiss.out Hall.out
      have Hn := Lib.hid hn
      clear hn
      unfold evZero at gx
      obtain ⟨c1, f1⟩ := row_facts gx
      have l1 := lt_row gx
      go_wp2
      obtain ⟨W4, hW4⟩ : ∃ W4, W4 = set6 wr w.heap.size (.string ByteArray.empty) (.string ByteArray.empty) (.int .u8 0) (.string ByteArray.empty) (.string ByteArray.empty) (.int .i64 0) := ⟨_, rfl⟩
      obtain ⟨hk, hp⟩ := fin_none Hn.out gx HBr.out W4 hW4
      have k0 := hk 0
      have k1 := hk 1
      have k2 := hk 2
      have k3 := hk 3
      have k4 := hk 4
      have k5 := hk 5
      unfold evZero at k0 k1 k2 k3 k4 k5
      change bodyPost _ _ _ _ _ (set6 wr w.heap.size (.string ByteArray.empty) (.string ByteArray.empty) (.int .u8 0) (.string ByteArray.empty) (.string ByteArray.empty) (.int .i64 0))
      rw [← hW4]
      refine bodyPost_ret (v := .tuple #[.agg evZero, .int .i64 6]) (by simp [results, Tryz.results44, go_sem, evZero, k0, k1, k2, k3, k4, k5]) rfl hp

theorem Parse_ok (w : World) (s : ByteArray) (hs : s.size ≤ 140737488351232) : Calls Tryz.prog 44 #[.string s] w (EvPost (bl s) w) := by
  obtain ⟨l, y, ha⟩ : ∃ l y, all (bl s) = (l, y) := ⟨_, _, rfl⟩
  by_cases hy : y = 0
  · subst hy
    by_cases h6 : l.length = 6
    · match l, h6 with
      | [a, b, c, d, f, g], _ =>
        obtain ⟨n, u, z, hg⟩ : ∃ n u z, getNum g = (n, u, z) := ⟨_, _, _, rfl⟩
        by_cases hz : z = 0
        · subst hz
          by_cases hu : u < g.length
          · exact Parse_num w s hs ha (.inr ⟨by rw [hg], by rw [hg]; exact hu⟩)
          · exact Parse_loop w s hs ha hg (by omega)
        · exact Parse_num w s hs ha (.inl (by rw [hg]; exact hz))
    · exact Parse_bad w s hs ha (.inr ⟨rfl, h6⟩)
  · exact Parse_bad w s hs ha (.inl hy)

end Go.Proofs.YtlincoeldehkfaaGreatDoor.EvRP
