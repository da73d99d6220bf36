/-
  WHAT IS PROVED: the reference's deal of bytes, or none. Condition: what each theorem names.
-/
import Derived.Test.YtdmonfimdinkeaaGreatDoorWireJ
namespace Go.Proofs.YtdmonfimdinkeaaGreatDoor.WireK
open Go Go.RowKit Go.Shelf Go.Proofs.YtdmonfimdinkeaaGreatDoor Go.Proofs.YtdmonfimdinkeaaGreatDoor.OctetS Go.Proofs.YtdmonfimdinkeaaGreatDoor.IdentS Go.Proofs.YtdmonfimdinkeaaGreatDoor.EntS Go.Proofs.YtdmonfimdinkeaaGreatDoor.WireS Go.Proofs.YtdmonfimdinkeaaGreatDoor.OctG Go.Proofs.YtdmonfimdinkeaaGreatDoor.OctP Go.Proofs.YtdmonfimdinkeaaGreatDoor.OctQ Go.Proofs.YtdmonfimdinkeaaGreatDoor.OctA Go.Proofs.YtdmonfimdinkeaaGreatDoor.EventP Go.Proofs.YtdmonfimdinkeaaGreatDoor.EventC Go.Proofs.YtdmonfimdinkeaaGreatDoor.EntP Go.Proofs.YtdmonfimdinkeaaGreatDoor.WireT Go.Proofs.YtdmonfimdinkeaaGreatDoor.Steps Go.Proofs.YtdmonfimdinkeaaGreatDoor.Wr Go.Proofs.YtdmonfimdinkeaaGreatDoor.WireG Go.Proofs.YtdmonfimdinkeaaGreatDoor.WireJ
open Go.Proofs.YtdmonfimdinkeaaGreatDoor.WireE (gnI gnI_eq gnI_small)
open Go.Proofs.YtdmonfimdinkeaaGreatDoor.WireA (kindD_le)
set_option linter.unusedVariables false
set_option linter.unusedSimpArgs false

theorem badAt_none {r a b h n k : List UInt8} {s : List UInt8} (ha : all s = ([k, r, a, b, h, n], 0)) {f : Nat} (hf : f < 4) (hb : badAt [bsOf a, bsOf b, bsOf h, bsOf n] f) : readD s = none := by
  obtain ⟨T, hT, hs⟩ := hb
  unfold readD
  rw [ha]
  simp only [if_true, readDL]
  have : f = 0 ∨ f = 1 ∨ f = 2 ∨ f = 3 := by omega
  rcases this with rfl | rfl | rfl | rfl
  · obtain rfl : bsOf a = T := by simpa using hT
    rw [bl_bsOf] at hs
    rw [hs]
    rfl
  · obtain rfl : bsOf b = T := by simpa using hT
    rw [bl_bsOf] at hs
    rw [hs]
    cases small 4096 a <;> rfl
  · obtain rfl : bsOf h = T := by simpa using hT
    rw [bl_bsOf] at hs
    rw [hs]
    cases small 4096 a <;> cases small 4096 b <;> rfl
  · obtain rfl : bsOf n = T := by simpa using hT
    rw [bl_bsOf] at hs
    rw [hs]
    cases small 4096 a <;> cases small 4096 b <;> cases small 4096 h <;> rfl
theorem kindD_zero {k : List UInt8} (h : kindD k = 0) : ∀ j : Int, 1 ≤ j → j < 3 → wordD j ≠ k := by
  intro j h1 h3 e
  have : j = 1 ∨ j = 2 := by omega
  subst e
  rcases this with rfl | rfl <;> revert h <;> decide
theorem kindD_one {k : List UInt8} (h : kindD k = 1) : k = wordD 1 := by
  unfold kindD at h
  split at h
  · rename_i e; rw [e]; rfl
  · split at h <;> omega
theorem kindD_two {k : List UInt8} (h : kindD k = 2) : k = wordD 2 := by
  unfold kindD at h
  split at h
  · omega
  · split at h
    · rename_i e; rw [e]; rfl
    · omega
theorem numI_gn {t : List UInt8} {n : Nat} (h : small 4096 t = some n) : numI 4096 t = gnI t := by rw [numI_some h, gnI_small h]
/-- What the reading of a text answers. -/
structure RdD (s : ByteArray) (X : Array Value) (b : Bool) : Prop where
  size : X.size = 7
  one : X.all (·.oneCell') = true
  isOk : b = (readD (bl s)).isSome
  row : ∀ d, readD (bl s) = some d → X = dlA d.kind (bsOf d.room) d.ep d.ix d.hub d.next ⟨#[]⟩ ∧ d.sig = []
  call : ∀ w, Calls Tryz.prog 57 #[.string s] w (RB (.tuple #[.agg X, .bool b]) w)
theorem rdD_none {s : ByteArray} (h : readD (bl s) = none) (hc : ∀ w, Calls Tryz.prog 57 #[.string s] w (RB (.tuple #[.agg dlZ, .bool false]) w)) : RdD s dlZ false :=
  ⟨rfl, by simp [dlZ, dlA, Value.oneCell'], by rw [h]; rfl, fun d hd => (by rw [h] at hd; cases hd), hc⟩
theorem read_any (s : ByteArray) (hs : s.size ≤ 140737488351232) : ∃ X b, RdD s X b := by
  obtain ⟨l, y, ha⟩ : ∃ l y, all (bl s) = (l, y) := ⟨_, _, rfl⟩
  by_cases h0 : y = 0
  · subst h0
    by_cases h6 : l.length = 6
    · match l, h6, ha with
      | [k, r, a, b, h, n], _, ha =>
        rcases bad_or [bsOf a, bsOf b, bsOf h, bsOf n] 4 with ⟨f, hf, hb, hfirst⟩ | hgood
        · exact ⟨_, _, rdD_none (badAt_none ha hf hb) (fun w => read_no w s hs ha (fun L hL => by subst hL; exact ⟨f, hf, hb, hfirst⟩))⟩
        · have hg : ∀ L, L = [bsOf a, bsOf b, bsOf h, bsOf n] → ∀ j, j < 4 → ¬ badAt L j := fun L hL => by subst hL; exact hgood
          obtain ⟨n1, e1⟩ := not_bad (hgood 0 (by omega)) (by rfl)
          obtain ⟨n2, e2⟩ := not_bad (hgood 1 (by omega)) (by rfl)
          obtain ⟨n3, e3⟩ := not_bad (hgood 2 (by omega)) (by rfl)
          obtain ⟨n4, e4⟩ := not_bad (hgood 3 (by omega)) (by rfl)
          rw [bl_bsOf] at e1 e2 e3 e4
          have h6 := readD_six ha
          rw [numI_gn e1, numI_gn e2, numI_gn e3, numI_gn e4] at h6
          rcases kindD_le k with hk | hk | hk
          · rw [hk] at h6
            exact ⟨_, _, rdD_none (by rw [h6]; exact if_neg (fun h => by simp [checkD] at h)) (fun w => read_miss w s hs ha hg (kindD_zero hk))⟩
          · rw [hk] at h6
            refine ⟨_, _, ⟨rfl, by simp [dlA, Value.oneCell'], ?_, ?_, fun w => read_hit1 w s hs ha hg (kindD_one hk)⟩⟩
            · rw [h6]; split <;> simp_all
            · intro d hd
              rw [h6] at hd
              split at hd
              · cases hd; exact ⟨rfl, rfl⟩
              · cases hd
          · rw [hk] at h6
            refine ⟨_, _, ⟨rfl, by simp [dlA, Value.oneCell'], ?_, ?_, fun w => read_hit2 w s hs ha hg (kindD_two hk)⟩⟩
            · rw [h6]; split <;> simp_all
            · intro d hd
              rw [h6] at hd
              split at hd
              · cases hd; exact ⟨rfl, rfl⟩
              · cases hd
    · exact ⟨_, _, rdD_none (readD_bad ha (.inr h6)) (fun w => read_bad w s hs ha (.inr ⟨rfl, h6⟩))⟩
  · exact ⟨_, _, rdD_none (readD_bad ha (.inl h0)) (fun w => read_bad w s hs ha (.inl h0))⟩

set_option maxRecDepth 100000 in
set_option maxHeartbeats 4000000 in
theorem Parse_bad (w : World) (s : ByteArray) (hs : s.size ≤ 140737488351232) {l : List (List UInt8)} {y : Int} (ha : all (bl s) = (l, y)) (hbad : y ≠ 0 ∨ (y = 0 ∧ l.length ≠ 2)) :
    Calls Tryz.prog 26 #[.string s] w (RB (dlV (parseD (bl s))) w) := by
  have hA := fun w => Ref1A.All_ok w s (by unfold maxLen; omega)
  unfold AllPost at hA
  rw [ha] at hA
  have HALL := Lib.hid hA
  clear hA
  rw [parseD_bad ha (by omega)]
  show Calls _ _ _ w (RB (.tuple #[.agg dlZ, .int .i64 6]) w)
  obtain ⟨Z, hZ⟩ : ∃ Z, Z = dlZ := ⟨_, rfl⟩
  have HLIT : Hid ((#[.int .u8 0, .string ⟨#[]⟩, .int .i64 0, .int .i64 0, .int .i64 0, .int .i64 0, .string ⟨#[]⟩] : Array Value) = Z) := Lib.hid (by rw [hZ]; kernel_rfl)
  have HZN : Hid (Z.size = 7) := Lib.hid (by rw [hZ]; kernel_rfl)
  have HZS : Hid ((Tryz.prog.info? 39).map (·.size) = some Z.size) := Lib.hid (by rw [hZ]; kernel_rfl)
  have HZO : Hid (Z.all (·.oneCell') = true) := Lib.hid (by rw [hZ]; exact by simp [dlZ, pfZ, msZ, dlA, pfA, msA, byV, zero32, Value.oneCell'])
  rw [← hZ]
  obtain ⟨w0, hw0⟩ : ∃ w0, w0 = w.alloc (.cells Z 39) := ⟨_, rfl⟩
  have hb0 : Below w.heap.size w w0 := by rw [hw0]; exact (Below.refl _ _).alloc (Nat.le_refl _) _
  have HX0 : Hid (w0.heap[w.heap.size]? = some (.cells Z 39 (0, 0))) := Lib.hid (by rw [hw0]; exact heap_new _ _)
  have lX0 := lt_row HX0.out
  have HBL0 := Lib.hid hb0
  have HW0 := Lib.hid hw0
  clear hw0 hb0 hZ
  have hcase : (y != 0) = true ∨ (y = 0 ∧ ((l.length : Int) != 2) = true) := by
    rcases hbad with h | ⟨h0, h⟩
    · exact .inl (by simpa using h)
    · exact .inr ⟨h0, by simp; omega⟩
  clear hbad ha
  rcases hcase with hy | ⟨rfl, hy⟩
  all_goals
    go_enter Tryz.func26, Tryz.ntmps26
    go_wp2_with fail
    rw [HLIT.out, ← HW0.out]
    refine (HALL.out w0).mono ?_
    rintro e w1 ⟨v, rfl, hl, hb⟩
    obtain ⟨av, cap, rfl, _, _⟩ := (Sl.ofOwn hl).form
    clear hl
    have HX1 := Lib.hid ((hb.block _ lX0).trans HX0.out)
    have lX1 := lt_row HX1.out
    have HBL1 := Lib.hid (HBL0.out.trans (hb.mono HBL0.out.size))
    clear hb 
    clear lX0
    go_wp2_with (first | (refine wpList_store_rowA rfl _ _ _ rfl w.heap.size Z rfl (by rw [← HLIT.out]; rfl) _ _ HX1.out HZS.out rfl HZO.out ?_) | fail)
    intro wf hwf
    go_wp2
    refine bodyPost_ret (v := .tuple #[.agg Z, .int .i64 6]) (results_cell_slot rfl _ _ w.heap.size 39 Z (0, 0) _ rfl (by rw [hwf.out]; exact setRow_at HX1.out) Tryz.underlying39 rfl HZS.out rfl) rfl ⟨rfl, by rw [hwf.out]; exact below_row HBL1.out (Nat.le_refl _) _⟩

set_option maxRecDepth 100000 in
set_option maxHeartbeats 4000000 in
theorem Parse_two (w : World) (s : ByteArray) (hs : s.size ≤ 140737488351232) {t g : List UInt8} (ha : all (bl s) = ([t, g], 0)) :
    Calls Tryz.prog 26 #[.string s] w (RB (dlV (parseD (bl s))) w) := by
  have hA := fun w => Ref1A.All_ok w s (by unfold maxLen; omega)
  unfold AllPost at hA
  rw [ha] at hA
  have HALL := Lib.hid hA
  clear hA
  rw [parseD_two ha]
  obtain ⟨T, hT⟩ : ∃ bb, bb = bsOf t := ⟨_, rfl⟩
  have bT : bl T = t := by rw [hT, bl_bsOf]
  have zT : T.size ≤ 8192 := by rw [hT]; exact parts_len ha _ (by simp)
  have HT := Lib.hid hT
  obtain ⟨G, hG⟩ : ∃ bb, bb = bsOf g := ⟨_, rfl⟩
  have bG : bl G = g := by rw [hG, bl_bsOf]
  have zG : G.size ≤ 8192 := by rw [hG]; exact parts_len ha _ (by simp)
  have HG := Lib.hid hG
  obtain ⟨E0, b, hrd⟩ := read_any T (by omega)
  have hR := hrd.call
  have hE0n := hrd.size
  have HE0O : Hid (E0.all (·.oneCell') = true) := Lib.hid hrd.one
  have hb := hrd.isOk
  have hrow := hrd.row
  rw [bT] at hb hrow
  clear hrd
  have HR := Lib.hid hR
  clear hR
  cases hread : readD t with
  | none =>
    obtain rfl : b = false := by rw [hb, hread]; rfl
    show Calls _ _ _ w (RB (.tuple #[.agg dlZ, .int .i64 6]) w)
    clear hb hrow hread
    obtain ⟨Z, hZ⟩ : ∃ Z, Z = dlZ := ⟨_, rfl⟩
    have HLIT : Hid ((#[.int .u8 0, .string ⟨#[]⟩, .int .i64 0, .int .i64 0, .int .i64 0, .int .i64 0, .string ⟨#[]⟩] : Array Value) = Z) := Lib.hid (by rw [hZ]; kernel_rfl)
    have HZN : Hid (Z.size = 7) := Lib.hid (by rw [hZ]; kernel_rfl)
    have HZS : Hid ((Tryz.prog.info? 39).map (·.size) = some Z.size) := Lib.hid (by rw [hZ]; kernel_rfl)
    have HZO : Hid (Z.all (·.oneCell') = true) := Lib.hid (by rw [hZ]; exact by simp [dlZ, pfZ, msZ, dlA, pfA, msA, byV, zero32, Value.oneCell'])
    rw [← hZ]
    obtain ⟨w0, hw0⟩ : ∃ w0, w0 = w.alloc (.cells Z 39) := ⟨_, rfl⟩
    have hb0 : Below w.heap.size w w0 := by rw [hw0]; exact (Below.refl _ _).alloc (Nat.le_refl _) _
    have HX0 : Hid (w0.heap[w.heap.size]? = some (.cells Z 39 (0, 0))) := Lib.hid (by rw [hw0]; exact heap_new _ _)
    have lX0 := lt_row HX0.out
    have HBL0 := Lib.hid hb0
    have HW0 := Lib.hid hw0
    clear hw0 hb0 hZ
    have HE0S : Hid ((Tryz.prog.info? 39).map (·.size) = some E0.size) := Lib.hid (by rw [hE0n, ← HZN.out]; exact HZS.out)
    have HE0N : Hid (7 = E0.size) := Lib.hid hE0n.symm
    have HE0Z : Hid (Z.size = E0.size) := Lib.hid (by rw [hE0n, HZN.out])
    clear ha hT hG bT bG hE0n
    go_enter Tryz.func26, Tryz.ntmps26
    go_wp2_with fail
    rw [HLIT.out, ← HW0.out]
    refine (HALL.out w0).mono ?_
    rintro e w1 ⟨v, rfl, hl, hb⟩
    obtain ⟨B, cap, rfl, hB, hc⟩ := list_n 2 hl rfl (by omega)
    clear hl
    have hc0_1 : w1.cell? ⟨B, 0, none⟩ = some (.string T) := by rw [HT.out]; exact hc 0 _ rfl
    have hc1_1 : w1.cell? ⟨B, 1, none⟩ = some (.string G) := by rw [HG.out]; exact hc 1 _ rfl
    have hBX : ¬ w.heap.size = B := by omega
    clear hc hB
    have HX1 := Lib.hid ((hb.block _ lX0).trans HX0.out)
    have lX1 := lt_row HX1.out
    have HBL1 := Lib.hid (HBL0.out.trans (hb.mono HBL0.out.size))
    clear hb 
    clear lX0
    have hc0x1 := hc0_1
    clear hc0_1
    have hc1x1 := hc1_1
    clear hc1_1
    go_wp2_with fail
    refine (HR.out w1).mono ?_
    rintro e w2 ⟨rfl, hb⟩
    have HX2 := Lib.hid ((hb.block _ lX1).trans HX1.out)
    have lX2 := lt_row HX2.out
    have HBL2 := Lib.hid (HBL1.out.trans (hb.mono HBL1.out.size))
    have hc0x2 := below_cell hb hc0x1
    have hc1x2 := below_cell hb hc1x1
    clear hb hc0x1 hc1x1
    clear lX1
    go_wp2_with (first | (refine wpList_store_rowA rfl _ _ _ rfl w2.heap.size E0 rfl rfl _ _ (heap_new _ _) HE0S.out HE0N.out HE0O.out ?_) | fail)
    intro u1 hu1
    have hb : Below w2.heap.size w2 u1 := by rw [hu1.out]; exact below_row ((Below.refl _ _).alloc (Nat.le_refl _) _) (Nat.le_refl _) _
    have hy1 : u1.heap[w2.heap.size]? = some (.cells E0 39 (0, 0)) := by rw [hu1.out]; exact setRow_at (heap_new _ _)
    clear hu1
    have HY1 := Lib.hid hy1
    clear hy1
    obtain ⟨w3, hww⟩ : ∃ w', w' = u1 := ⟨_, rfl⟩
    rw [← hww] at hb HY1 ⊢
    clear hww
    have HX3 := Lib.hid ((hb.block _ lX2).trans HX2.out)
    have lX3 := lt_row HX3.out
    have HBL3 := Lib.hid (HBL2.out.trans (hb.mono HBL2.out.size))
    have hc0x3 := below_cell hb hc0x2
    have hc1x3 := below_cell hb hc1x2
    clear hb hc0x2 hc1x2
    clear lX2
    go_wp2_with (first | (refine wpList_store_rowA rfl _ _ _ rfl w.heap.size Z rfl (by rw [← HLIT.out]; rfl) _ _ HX3.out HZS.out rfl HZO.out ?_) | fail)
    intro wf hwf
    go_wp2
    refine bodyPost_ret (v := .tuple #[.agg Z, .int .i64 6]) (results_cell_slot rfl _ _ w.heap.size 39 Z (0, 0) _ rfl (by rw [hwf.out]; exact setRow_at HX3.out) Tryz.underlying39 rfl HZS.out rfl) rfl ⟨rfl, by rw [hwf.out]; exact below_row HBL3.out (Nat.le_refl _) _⟩
  | some x =>
    obtain rfl : b = true := by rw [hb, hread]; rfl
    obtain ⟨hE0, hsg⟩ := hrow x hread
    clear hb hrow
    show Calls _ _ _ w (RB (.tuple #[.agg (dlA x.kind (bsOf x.room) x.ep x.ix x.hub x.next (bsOf g)), .int .i64 0]) w)
    rw [← hG]
    obtain ⟨Z, hZ⟩ : ∃ Z, Z = dlZ := ⟨_, rfl⟩
    have HLIT : Hid ((#[.int .u8 0, .string ⟨#[]⟩, .int .i64 0, .int .i64 0, .int .i64 0, .int .i64 0, .string ⟨#[]⟩] : Array Value) = Z) := Lib.hid (by rw [hZ]; kernel_rfl)
    have HZN : Hid (Z.size = 7) := Lib.hid (by rw [hZ]; kernel_rfl)
    have HZS : Hid ((Tryz.prog.info? 39).map (·.size) = some Z.size) := Lib.hid (by rw [hZ]; kernel_rfl)
    have HZO : Hid (Z.all (·.oneCell') = true) := Lib.hid (by rw [hZ]; exact by simp [dlZ, pfZ, msZ, dlA, pfA, msA, byV, zero32, Value.oneCell'])
    obtain ⟨w0, hw0⟩ : ∃ w0, w0 = w.alloc (.cells Z 39) := ⟨_, rfl⟩
    have hb0 : Below w.heap.size w w0 := by rw [hw0]; exact (Below.refl _ _).alloc (Nat.le_refl _) _
    have HX0 : Hid (w0.heap[w.heap.size]? = some (.cells Z 39 (0, 0))) := Lib.hid (by rw [hw0]; exact heap_new _ _)
    have lX0 := lt_row HX0.out
    have HBL0 := Lib.hid hb0
    have HW0 := Lib.hid hw0
    clear hw0 hb0 hZ
    have HE0S : Hid ((Tryz.prog.info? 39).map (·.size) = some E0.size) := Lib.hid (by rw [hE0n, ← HZN.out]; exact HZS.out)
    have HE0N : Hid (7 = E0.size) := Lib.hid hE0n.symm
    have HE0Z : Hid (Z.size = E0.size) := Lib.hid (by rw [hE0n, HZN.out])
    obtain ⟨E1, hE1⟩ : ∃ E, E = dlA x.kind (bsOf x.room) x.ep x.ix x.hub x.next G := ⟨_, rfl⟩
    have hE1n : E1.size = 7 := by rw [hE1]; rfl
    have HE1S : Hid ((Tryz.prog.info? 39).map (·.size) = some E1.size) := Lib.hid (by rw [hE1n, ← HZN.out]; exact HZS.out)
    have HE1Z : Hid (Z.size = E1.size) := Lib.hid (by rw [hE1n, HZN.out])
    have HE1N : Hid (7 = E1.size) := Lib.hid hE1n.symm
    have HE1O : Hid (E1.all (·.oneCell') = true) := Lib.hid (by rw [hE1]; simp [dlA, Value.oneCell'])
    have HE1 := Lib.hid hE1
    clear hE1n
    have hsig : E0.setIfInBounds 6 (.string G) = E1 := by rw [hE0, hE1]; rfl
    have hc36 : E0[6]? = some (.string ⟨#[]⟩) := by rw [hE0]; rfl
    rw [← hE1]
    have Hsig := Lib.hid hsig
    have Hc36 := Lib.hid hc36
    clear hsig hc36 ha hread hT hG bT bG hE0 hE1 hsg hE0n
    go_enter Tryz.func26, Tryz.ntmps26
    go_wp2_with fail
    rw [HLIT.out, ← HW0.out]
    refine (HALL.out w0).mono ?_
    rintro e w1 ⟨v, rfl, hl, hb⟩
    obtain ⟨B, cap, rfl, hB, hc⟩ := list_n 2 hl rfl (by omega)
    clear hl
    have hc0_1 : w1.cell? ⟨B, 0, none⟩ = some (.string T) := by rw [HT.out]; exact hc 0 _ rfl
    have hc1_1 : w1.cell? ⟨B, 1, none⟩ = some (.string G) := by rw [HG.out]; exact hc 1 _ rfl
    have hBX : ¬ w.heap.size = B := by omega
    clear hc hB
    have HX1 := Lib.hid ((hb.block _ lX0).trans HX0.out)
    have lX1 := lt_row HX1.out
    have HBL1 := Lib.hid (HBL0.out.trans (hb.mono HBL0.out.size))
    clear hb 
    clear lX0
    have hc0x1 := hc0_1
    clear hc0_1
    have hc1x1 := hc1_1
    clear hc1_1
    go_wp2_with fail
    refine (HR.out w1).mono ?_
    rintro e w2 ⟨rfl, hb⟩
    have HX2 := Lib.hid ((hb.block _ lX1).trans HX1.out)
    have lX2 := lt_row HX2.out
    have HBL2 := Lib.hid (HBL1.out.trans (hb.mono HBL1.out.size))
    have hc0x2 := below_cell hb hc0x1
    have hc1x2 := below_cell hb hc1x1
    clear hb hc0x1 hc1x1
    clear lX1
    go_wp2_with (first | (refine wpList_store_rowA rfl _ _ _ rfl w2.heap.size E0 rfl rfl _ _ (heap_new _ _) HE0S.out HE0N.out HE0O.out ?_) | fail)
    intro u1 hu1
    have hb : Below w2.heap.size w2 u1 := by rw [hu1.out]; exact below_row ((Below.refl _ _).alloc (Nat.le_refl _) _) (Nat.le_refl _) _
    have hy1 : u1.heap[w2.heap.size]? = some (.cells E0 39 (0, 0)) := by rw [hu1.out]; exact setRow_at (heap_new _ _)
    clear hu1
    have HY1 := Lib.hid hy1
    clear hy1
    obtain ⟨w3, hww⟩ : ∃ w', w' = u1 := ⟨_, rfl⟩
    rw [← hww] at hb HY1 ⊢
    clear hww
    have hj2 := HBL2
    have hgl : w.heap.size < w2.heap.size := lX2
    have HX3 := Lib.hid ((hb.block _ lX2).trans HX2.out)
    have lX3 := lt_row HX3.out
    have HBL3 := Lib.hid (HBL2.out.trans (hb.mono HBL2.out.size))
    have hc0x3 := below_cell hb hc0x2
    have hc1x3 := below_cell hb hc1x2
    clear hb hc0x2 hc1x2
    clear lX2
    have HYa := HY1
    have lYa := lt_row HYa.out
    obtain ⟨cy, fy⟩ := row_facts HYa.out
    have k36 : w3.cell? ⟨w2.heap.size, 6, none⟩ = some (.string ⟨#[]⟩) := (cy 6).trans Hc36.out
    have f36 := fy 6
    clear cy fy
    have hy5 : (w3.setCell ⟨w2.heap.size, 6, none⟩ (.string G)).heap[w2.heap.size]? = some (.cells E1 39 (0, 0)) := by rw [← Hsig.out]; exact heap_setCell_same HYa.out _
    have hx5 : (w3.setCell ⟨w2.heap.size, 6, none⟩ (.string G)).heap[w.heap.size]? = some (.cells Z 39 (0, 0)) := by rw [heap_setCell_far _ (by omega)]; exact HX3.out
    have hbl5 : Below w.heap.size w (w3.setCell ⟨w2.heap.size, 6, none⟩ (.string G)) := HBL3.out.setCell (p := ⟨w2.heap.size, 6, none⟩) (by show w.heap.size ≤ w2.heap.size; omega) _
    have HX4 := Lib.hid hx5
    have HBL4 := Lib.hid hbl5
    have HY4 := Lib.hid hy5
    clear hx5 hbl5 hy5 HYa lYa HX3 HBL3
    go_wp2_with (first | (refine wpList_load_row rfl _ _ rfl w2.heap.size rfl _ E1 (0, 0) _ HY4.out Tryz.underlying39 rfl HE1S.out ?_) | (refine wpList_store_rowA rfl _ _ _ rfl w.heap.size E1 rfl rfl _ _ HX4.out HE1S.out HE1Z.out HE1O.out ?_) | fail)
    intro wf hwf
    go_wp2
    refine bodyPost_ret (v := .tuple #[.agg E1, .int .i64 0]) (results_cell_slot rfl _ _ w.heap.size 39 E1 (0, 0) _ rfl (by rw [hwf.out]; exact setRow_at HX4.out) Tryz.underlying39 rfl HE1S.out rfl) rfl ⟨rfl, by rw [hwf.out]; exact below_row HBL4.out (Nat.le_refl _) _⟩

theorem Parse_ok (w : World) (s : ByteArray) (hs : s.size ≤ 140737488351232) :
    Calls Tryz.prog 26 #[.string s] w (RB (dlV (parseD (bl s))) w) := by
  obtain ⟨l, y, ha⟩ : ∃ l y, all (bl s) = (l, y) := ⟨_, _, rfl⟩
  by_cases h0 : y = 0
  · subst h0
    by_cases h2 : l.length = 2
    · match l, h2, ha with
      | [t, g], _, ha => exact Parse_two w s hs ha
    · exact Parse_bad w s hs ha (.inr ⟨rfl, h2⟩)
  · exact Parse_bad w s hs ha (.inl h0)

end Go.Proofs.YtdmonfimdinkeaaGreatDoor.WireK
