/-
  WHAT IS PROVED: a mail of the document's box is done. Condition: what the theorem names.
-/
import Derived.Test.YtadnldnmefhlcaaPoB
import Derived.Deep.CutRange
namespace Go.Proofs.Ytadnldnmefhlcaa.PoC
open Go Go.RowKit Go.Shelf Go.Conc Go.Proofs.Ytadnldnmefhlcaa Go.Proofs.Ytadnldnmefhlcaa.PostA Go.Proofs.Ytadnldnmefhlcaa.PostF Go.Proofs.Ytadnldnmefhlcaa.PostP Go.Proofs.Ytadnldnmefhlcaa.PostQ Go.Proofs.Ytadnldnmefhlcaa.RowsX Go.Proofs.Ytadnldnmefhlcaa.Lift Go.Proofs.Ytadnldnmefhlcaa.Steps Go.Proofs.Ytadnldnmefhlcaa.PoA Go.Proofs.Ytadnldnmefhlcaa.PoB
set_option linter.unusedVariables false
set_option linter.unusedSimpArgs false
attribute [-go_sem] Builtin.append_

theorem endOf_cons_yes {id : Int} {L : List Lt} {k : Nat} {x : Lt} (hx : L[k]? = some x) (h : (x.id != id) = true) : endOf (L.take (k + 1)) id = endOf (L.take k) id ++ [x] := by
  have hsn : L.take (k + 1) = L.take k ++ [x] := by rw [List.take_add_one, hx]; rfl
  unfold endOf
  rw [hsn, List.filter_append, List.filter_cons, if_pos h]
  rfl
theorem endOf_cons_no {id : Int} {L : List Lt} {k : Nat} {x : Lt} (hx : L[k]? = some x) (h : (x.id != id) = false) : endOf (L.take (k + 1)) id = endOf (L.take k) id := by
  have hsn : L.take (k + 1) = L.take k ++ [x] := by rw [List.take_add_one, hx]; rfl
  unfold endOf
  rw [hsn, List.filter_append, List.filter_cons, if_neg (by simp [h])]
  simp

/-- What the document's Done answers. -/
def RefDone (w : World) (room gap last lost id : Int) (s : Value) (L : List Lt) (e : Ending) (w' : World) : Prop :=
  ∃ s', e = .returned (.tuple #[PV room gap s' last lost, .int .i64 (if (endOf L id).length = L.length then 3 else 0)]) ∧ Below w.heap.size w w' ∧
    ((s' = s ∧ (endOf L id).length = L.length) ∨ ((endOf L id).length ≠ L.length ∧ Ow w' w.heap.size 62 4 s' (endOf L id).length ((endOf L id).flatMap oc)))
set_option maxRecDepth 100000 in
set_option maxHeartbeats 4000000 in
theorem refDone_ok (w : World) (room gap last lost id : Int) (s : Value) (L : List Lt) (hs : Sl w s 4 L.length (L.flatMap oc)) (hL : L.length ≤ 256) :
    Calls Try.prog 13 #[PV room gap s last lost, .int .i64 id] w (RefDone w room gap last lost id s L) := by
  unfold PV
  obtain ⟨a, cap, rfl, hcap, hm⟩ := hs.form
  obtain ⟨w1, hw1⟩ : ∃ w1, w1 = (w.alloc (.cells #[.int .i64 room, .int .i64 gap, .slice a L.length cap, .int .i64 last, .int .i64 lost] 30)).alloc (.cells #[.int .i64 0, .int .i64 0, .slice none 0 0, .int .i64 0, .int .i64 0] 30) := ⟨_, rfl⟩
  have hb1 : Below w.heap.size w w1 := by rw [hw1]; exact ((Below.refl _ _).alloc (Nat.le_refl _) _).alloc (by simp) _
  have HX1 := Lib.hid (show w1.heap[w.heap.size]? = some (.cells #[.int .i64 room, .int .i64 gap, .slice a L.length cap, .int .i64 last, .int .i64 lost] 30 (0, 0)) by rw [hw1]; exact heap_at (heap_new _ _) _)
  have HY1 := Lib.hid (show w1.heap[w.heap.size + 1]? = some (.cells #[.int .i64 0, .int .i64 0, .slice none 0 0, .int .i64 0, .int .i64 0] 30 (0, 0)) by rw [hw1]; exact heap_new' _ (by simp))
  have hz1 : w1.heap.size = w.heap.size + 2 := by rw [hw1]; simp
  have HS := Lib.hid (hs.below hb1)
  have HB1 := Lib.hid hb1
  have HW1 := Lib.hid hw1
  clear hs hb1 hw1
  go_enter Try.func13, Try.ntmps13
  go_wp2
  rw [← HW1.out]
  go_loopw [6, 12] (fun b i wr => ∃ (v : Value) (k : Nat), b = v ∧ i = .int .i64 k ∧ k ≤ L.length ∧ AccR 62 4 oc w1 wr v (endOf (L.take k) id)) (fun _ i _ => L.length - (intOf i).toNat)
  case atStart => exact ⟨_, 0, rfl, rfl, by omega, AccR.nil w1⟩
  case round =>
    obtain ⟨v, k, rfl, rfl, hk, hA⟩ := hrel
    have hlB := hA.bel.size
    by_cases hlt : k < L.length
    · obtain ⟨x, hx⟩ : ∃ x, L[k]? = some x := ⟨_, List.getElem?_eq_getElem hlt⟩
      obtain ⟨ab, ao, rfl, hab, hc⟩ := row_cells ocF (by omega) HS.out hx
      have hc' : ∀ (j : Nat) (u : Value), (#[.int .i64 x.id, .int .i64 x.to, .string x.text, .int .i64 (atOf x)] : Array Value).toList[j]? = some u → wr.cell? ⟨ab, ao + k * 4 + j, none⟩ = some u := fun j u hu => (hA.bel.cell (p := ⟨ab, ao + k * 4 + j, none⟩) hab).trans (hc j u hu)
      have hln : (endOf (L.take k) id).length ≤ k := by unfold endOf; exact Nat.le_trans (List.length_filter_le _ _) (by rw [List.length_take]; omega)
      have Hln := Lib.hid hln
      have Hc := Lib.hid hc'
      obtain ⟨w2, hw2⟩ : ∃ w2, w2 = wr.alloc (.cells #[.int .i64 x.id, .int .i64 x.to, .string x.text, .int .i64 (atOf x)] 62) := ⟨_, rfl⟩
      have HX2 := Lib.hid (show w2.heap[wr.heap.size]? = some (.cells #[.int .i64 x.id, .int .i64 x.to, .string x.text, .int .i64 (atOf x)] 62 (0, 0)) by rw [hw2]; exact heap_new _ _)
      have HA2 := Lib.hid (show AccR 62 4 oc w1 w2 _ (endOf (L.take k) id) by rw [hw2]; exact hA.alloc _)
      have hz2 : w2.heap.size = wr.heap.size + 1 := by rw [hw2]; simp
      have HW2 := Lib.hid hw2
      clear hc hc' hA hln hw2
      by_cases hid : x.id = id
      · have hsn := endOf_cons_no hx (show (x.id != id) = false by simp [hid])
        have Hsn := Lib.hid hsn
        clear hsn hx
        subst hid
        go_wp2_with (refine wpList_load_rowO rfl _ _ rfl ab (ao + k * 4) rfl #[.int .i64 x.id, .int .i64 x.to, .string x.text, .int .i64 (atOf x)] Hc.out Try.underlying62 rfl (by kernel_rfl) ?_)
        rw [← HW2.out]
        go_roundw
        case rel => exact ⟨_, k + 1, rfl, by go_num, by omega, by rw [Hsn.out]; exact HA2.out⟩
        case measure => simp [intOf]; omega
      · have hsn := endOf_cons_yes hx (show (x.id != id) = true by simpa using hid)
        have Hsn := Lib.hid hsn
        have d1 : decide (x.id = id) = false := decide_eq_false hid
        clear hsn hx
        go_wp2_with (first | (refine wpList_load_rowO rfl _ _ rfl ab (ao + k * 4) rfl #[.int .i64 x.id, .int .i64 x.to, .string x.text, .int .i64 (atOf x)] Hc.out Try.underlying62 rfl (by kernel_rfl) ?_) | (at_builtin; rw [← HW2.out]; go_must (refine wpList_accR tyOne ocF HA2.out x rfl _ _ rfl rfl #[.int .i64 x.id, .int .i64 x.to, .string x.text, .int .i64 (atOf x)] rfl _ rfl (by first | rfl | omega | simp) ?hl ?hb ?go)))
        case hl => have := Hln.out; unfold maxLen; omega
        case hb => have := Hln.out; omega
        case go =>
        intro v3 w3 hA3
        have HA3 := Lib.hid hA3
        clear hA3
        go_wp2
        go_roundw
        case rel => exact ⟨_, k + 1, rfl, by go_num, by omega, by rw [Hsn.out]; exact HA3.out⟩
        case measure => simp [intOf]; omega
    · obtain rfl : k = L.length := by omega
      have hA' := hA
      rw [List.take_length] at hA'
      obtain ⟨va, vc, rfl, _, _⟩ := hA'.own.form
      obtain ⟨E, hE⟩ : ∃ E, E = endOf L id := ⟨_, rfl⟩
      rw [← hE] at hA'
      have hEn : E.length ≤ L.length := by rw [hE]; unfold endOf; exact List.length_filter_le _ _
      have hx3 := (hA.bel.block _ (by omega)).trans HX1.out
      have hy3 := (hA.bel.block _ (by omega)).trans HY1.out
      rw [← hE]
      have HA := Lib.hid hA'
      have HE := Lib.hid hE
      have HX3 := Lib.hid hx3
      have HY3 := Lib.hid hy3
      have HB3 := Lib.hid (HB1.out.trans (hA.bel.mono HB1.out.size))
      obtain ⟨c3, f3⟩ := row_facts hx3
      obtain ⟨c4, f4⟩ := row_facts hy3
      clear hA hA' hE hx3 hy3
      by_cases hq : E.length = L.length
      · have d1 : decide ((E.length : Int) = (L.length : Int)) = true := decide_eq_true (by omega)
        go_wp2
        change bodyPost _ _ _ _ _ (set5 wr (w.heap.size + 1) (.int .i64 room) (.int .i64 gap) (.slice a L.length cap) (.int .i64 last) (.int .i64 lost))
        obtain ⟨wF, hwF⟩ : ∃ x, x = set5 wr (w.heap.size + 1) (.int .i64 room) (.int .i64 gap) (.slice a L.length cap) (.int .i64 last) (.int .i64 lost) := ⟨_, rfl⟩
        rw [← hwF]
        have hF : wF.heap[w.heap.size + 1]? = some (.cells #[.int .i64 room, .int .i64 gap, .slice a L.length cap, .int .i64 last, .int .i64 lost] 30 (0, 0)) := by rw [hwF]; exact set5_row HY3.out _ _ _ _ _
        have hEF : Ext (fun k => k = w.heap.size ∨ k = w.heap.size + 1) wr wF := by rw [hwF]; exact set5_ext (S := fun k => k = w.heap.size ∨ k = w.heap.size + 1) (Ext.refl _ wr) (.inl (.inr rfl)) _ _ _ _ _
        have HEF := Lib.hid hEF
        obtain ⟨cF, fF⟩ := row_facts hF
        clear hwF hEF c3 f3 c4 f4 d1
        have hBF := Bl.ext HB3.out HEF.out (fun k hk e => by omega)
        refine bodyPost_ret (v := .tuple #[.agg #[.int .i64 room, .int .i64 gap, .slice a L.length cap, .int .i64 last, .int .i64 lost], .int .i64 3]) (by simp [results, Try.results13, go_sem, *]; done) rfl ⟨.slice a L.length cap, by rw [← HE.out, if_pos hq]; rfl, hBF, ?_⟩
        exact .inl ⟨rfl, by rw [← HE.out]; exact hq⟩
      · have d1 : decide ((E.length : Int) = (L.length : Int)) = false := decide_eq_false (by omega)
        go_wp2
        change bodyPost _ _ _ _ _ (set5 (wr.setCell ⟨w.heap.size, 2, none⟩ (.slice va E.length vc)) (w.heap.size + 1) (.int .i64 room) (.int .i64 gap) (.slice va E.length vc) (.int .i64 last) (.int .i64 lost))
        obtain ⟨wF, hwF⟩ : ∃ x, x = set5 (wr.setCell ⟨w.heap.size, 2, none⟩ (.slice va E.length vc)) (w.heap.size + 1) (.int .i64 room) (.int .i64 gap) (.slice va E.length vc) (.int .i64 last) (.int .i64 lost) := ⟨_, rfl⟩
        rw [← hwF]
        have hF : wF.heap[w.heap.size + 1]? = some (.cells #[.int .i64 room, .int .i64 gap, .slice va E.length vc, .int .i64 last, .int .i64 lost] 30 (0, 0)) := by rw [hwF]; exact set5_row ((heap_setCell_far _ (by omega)).trans HY3.out) _ _ _ _ _
        have hEF : Ext (fun k => k = w.heap.size ∨ k = w.heap.size + 1) wr wF := by rw [hwF]; exact set5_ext (S := fun k => k = w.heap.size ∨ k = w.heap.size + 1) (Ext.setCell (Ext.refl _ wr) (p := ⟨w.heap.size, 2, none⟩) (.inl (.inl rfl)) _) (.inl (.inr rfl)) _ _ _ _ _
        have HEF := Lib.hid hEF
        obtain ⟨cF, fF⟩ := row_facts hF
        clear hwF hEF c3 f3 c4 f4 d1
        have hBF := Bl.ext HB3.out HEF.out (fun k hk e => by omega)
        refine bodyPost_ret (v := .tuple #[.agg #[.int .i64 room, .int .i64 gap, .slice va E.length vc, .int .i64 last, .int .i64 lost], .int .i64 0]) (by simp [results, Try.results13, go_sem, *]; done) rfl ⟨.slice va E.length vc, by rw [← HE.out, if_neg hq]; rfl, hBF, ?_⟩
        refine .inr ⟨by rw [← HE.out]; exact hq, ?_⟩
        rw [← HE.out]
        exact (Ow.ext HA.out.own HEF.out (fun j hj e => by have := (Ow.lt HA.out.own j hj).1; omega)).rebase (fun j hj => by have := (Ow.lt HA.out.own j hj).1; omega)

end Go.Proofs.Ytadnldnmefhlcaa.PoC
