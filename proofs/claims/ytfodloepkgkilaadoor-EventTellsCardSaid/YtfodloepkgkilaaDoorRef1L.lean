/-
  WHAT IS PROVED: what the document's own answer on a list's bytes is. Condition: the list has bytes.
-/
import Derived.Test.YtfodloepkgkilaaDoorRef1T
namespace Go.Proofs.YtfodloepkgkilaaDoor.Ref1L
open Go Go.RowKit Go.Proofs.YtfodloepkgkilaaDoor Go.Proofs.YtfodloepkgkilaaDoor.OctetS Go.Proofs.YtfodloepkgkilaaDoor.OctP Go.Proofs.YtfodloepkgkilaaDoor.OctQ Go.Proofs.YtfodloepkgkilaaDoor.Ref1N
set_option linter.unusedVariables false

theorem flat_length (l : List ByteArray) (h : ∀ s ∈ l, s.size ≤ 8192) : ((l.map bl).flatMap text).length ≤ l.length * 8194 := by
  induction l with
  | nil => simp
  | cons s l ih =>
    have := ih (fun t ht => h t (List.mem_cons_of_mem _ ht))
    have h1 := h s (List.mem_cons_self ..)
    have h2 := num_length2 (n := (bl s).length) (by rw [bl_length]; omega)
    simp only [List.map_cons, List.flatMap_cons, List.length_append, text, List.length_cons, bl_length] at *
    omega

set_option maxRecDepth 100000 in
set_option maxHeartbeats 1000000 in
theorem List_ok (w : World) (v : Value) (l : List ByteArray) (h : Rd w v l) (hf : fits (l.map bl) = true) :
    Calls Tryd.prog 74 #[v] w fun e w' => e = .returned (.tuple #[.string (bsOf (OctetS.list (l.map bl))), .int .i64 0]) ∧ Below w.heap.size w w' := by
  obtain ⟨hf1, hf2⟩ := fits_iff.1 hf
  rw [List.length_map] at hf1
  have hN := Ref1N.Num_ok w l.length (by unfold maxNum; omega)
  obtain ⟨a, cap, rfl, hcap, hm⟩ := h.form
  have Hf2 := Lib.hid hf2
  have H := Lib.hid h
  have HN := Lib.hid hN
  clear h hf hf2 hN
  go_enter Tryd.func74, Tryd.ntmps74
  go_wp2_with fail
  refine HN.out.mono ?_
  rintro e w1 ⟨rfl, hb⟩
  have HB := Lib.hid hb
  clear hb
  go_wp2
  go_loopw [4, 22] (fun y i wr => ∃ (lb : List UInt8) (k : Nat), y = .string (bsOf lb) ∧ i = .int .i64 k ∧ k ≤ l.length ∧ Below w.heap.size w wr ∧ lb = num l.length ++ ((l.map bl).take k).flatMap text ∧ lb.length ≤ 7 + k * 8200) (fun _ i _ => l.length - (intOf i).toNat)
  case atStart => exact ⟨num l.length, 0, rfl, rfl, by omega, HB.out, by simp, by have := num_length (n := l.length) (by unfold maxNum; omega); omega⟩
  case round =>
    obtain ⟨lb, k, rfl, rfl, hk, hb, hlb, hlen⟩ := hrel
    obtain ⟨A, hA⟩ : ∃ A, A = bsOf lb := ⟨_, rfl⟩
    have hAz : A.size ≤ 7 + k * 8200 := by rw [hA, size_bsOf]; omega
    rw [← hA]
    have HA := Lib.hid hA
    have HB2 := Lib.hid hb
    have Hlb := Lib.hid hlb
    clear hA hb hlb
    by_cases hlt : k < l.length
    · obtain ⟨b, off, rfl, hbl, hcell⟩ := H.out.plain (by rw [strV_length]; omega)
      have hc : wr.cell? ⟨b, off + k, none⟩ = some (.string l[k]) := by
        rw [HB2.out.cell (p := ⟨b, off + k, none⟩) hbl]
        exact hcell k _ (by simp [strV, hlt])
      have hl8 : l[k].size ≤ 8192 := by
        have := Hf2.out (bl l[k]) (List.mem_map.2 ⟨l[k], List.getElem_mem hlt, rfl⟩)
        rwa [bl_length] at this
      have Hcell := Lib.hid hcell
      clear hcell
      have hT := Ref1T.Text_ok wr l[k] hl8
      obtain ⟨T, hTT⟩ : ∃ T, T = bsOf (text (bl l[k])) := ⟨_, rfl⟩
      have hTz : T.size ≤ 8194 := by
        have hn1 : (num l[k].size).length ≤ 2 := num_length2 hl8
        rw [hTT, size_bsOf, text, List.length_append, bl_length]
        omega
      rw [← hTT] at hT
      have HT := Lib.hid hT
      have HTT := Lib.hid hTT
      clear hT hTT
      go_wp2_with fail
      refine HT.out.mono ?_
      rintro e w2 ⟨rfl, hb⟩
      have HB3 := Lib.hid (HB2.out.trans (hb.mono HB2.out.size))
      clear hb
      go_wp2
      go_roundw
      case rel =>
        refine ⟨lb ++ text (bl l[k]), k + 1, by rw [HA.out, HTT.out, bsOf_append], by go_num, by omega, HB3.out, ?_, ?_⟩
        · rw [Hlb.out, List.take_succ_eq_append_getElem (by simpa using hlt)]
          simp [List.append_assoc]
        · have : (text (bl l[k])).length = T.size := by rw [HTT.out, size_bsOf]
          rw [List.length_append]
          omega
      case measure => simp [intOf]; omega
    · obtain rfl : k = l.length := by omega
      go_wp2
      go_ret2
      refine ⟨?_, HB2.out⟩
      rw [HA.out, Hlb.out, OctetS.list, List.length_map, List.take_of_length_le (by simp)]
      rfl

end Go.Proofs.YtfodloepkgkilaaDoor.Ref1L
