/-
  WHAT IS PROVED: what the program's octet package reads: texts and lists; and the bytes of lists. No condition beside those that each theorem names.
-/
import Derived.Test.YtfodloepkgkilaaDoorOctP
namespace Go.Proofs.YtfodloepkgkilaaDoor.OctQ
open Go Go.RowKit Go.Proofs.YtfodloepkgkilaaDoor Go.Proofs.YtfodloepkgkilaaDoor.OctetS Go.Proofs.YtfodloepkgkilaaDoor.OctP
set_option linter.unusedVariables false
set_option linter.unusedSimpArgs false

theorem GetNum_at (w : World) (s : ByteArray) (hs : s.size ≤ maxLen) {n u : Nat} {y : Int} (hg : getNum (bl s) = (n, u, y)) :
    Calls Tryd.prog 75 #[.string s] w fun e w' => e = .returned (.tuple #[.int .u64 n, .int .i64 u, .int .i64 y]) ∧ w = w' := by
  have := GetNum_ok w s hs
  rw [hg] at this
  exact this

/-- A text that bytes begin with, as the functions hand it back. -/
def textV (t : List UInt8 × Nat × Int) : Value := .tuple #[.string (bsOf t.1), .int .i64 t.2.1, .int .i64 t.2.2]

set_option maxRecDepth 100000 in
set_option maxHeartbeats 1000000 in
theorem GetText_ok (w : World) (s : ByteArray) (hs : s.size ≤ maxLen) :
    Calls Tryd.prog 132 #[.string s] w fun e w' => e = .returned (textV (getText (bl s))) ∧ w = w' := by
  have hs' := hs
  unfold maxLen at hs
  rcases getNum_why (bl s) with h0 | hg | hg
  · obtain ⟨n, u, y, hg⟩ : ∃ n u y, getNum (bl s) = (n, u, y) := ⟨_, _, _, rfl⟩
    rw [hg] at h0
    simp only at h0
    subst h0
    obtain ⟨hu1, hu7, hul, _, hmax⟩ := getNum_ok hg
    rw [bl_length] at hul
    unfold maxNum at hmax
    have Hg := Lib.hid hg
    clear hg
    by_cases h1 : 8192 < n
    · have hfin : getText (bl s) = ([], 0, 7) := by
        unfold getText
        rw [Hg.out]
        simp [h1]
      have Hfin := Lib.hid hfin
      clear hfin
      go_enter Tryd.func132, Tryd.ntmps132
      go_wp2_with fail
      refine (GetNum_at w s hs' Hg.out).mono ?_
      rintro e w' ⟨rfl, rfl⟩
      go_wp2
      go_ret3
      exact ⟨by rw [Hfin.out]; rfl, rfl⟩
    · by_cases h2 : s.size - u < n
      · have hfin : getText (bl s) = ([], 0, 5) := by
          unfold getText
          rw [Hg.out]
          simp only [ne_eq, not_true_eq_false, if_false]
          rw [if_neg h1, if_pos (by rw [bl_length]; exact h2)]
        have Hfin := Lib.hid hfin
        clear hfin
        go_enter Tryd.func132, Tryd.ntmps132
        go_wp2_with fail
        refine (GetNum_at w s hs' Hg.out).mono ?_
        rintro e w' ⟨rfl, rfl⟩
        go_wp2
        go_ret3
        exact ⟨by rw [Hfin.out]; rfl, rfl⟩
      · have hfin : getText (bl s) = (bl (s.extract u (u + n)), u + n, 0) := by
          unfold getText
          rw [Hg.out]
          simp only [ne_eq, not_true_eq_false, if_false]
          rw [if_neg h1, if_neg (by rw [bl_length]; exact h2), bl_extract, Nat.add_sub_cancel_left]
        have Hfin := Lib.hid hfin
        clear hfin
        go_enter Tryd.func132, Tryd.ntmps132
        go_wp2_with fail
        refine (GetNum_at w s hs' Hg.out).mono ?_
        rintro e w' ⟨rfl, rfl⟩
        have h3 : u + n ≤ s.size := by omega
        go_wp2
        go_ret3
        exact ⟨by rw [Hfin.out, textV, bsOf_bl]; rfl, rfl⟩
  all_goals
    have hfin : getText (bl s) = ([], 0, (getNum (bl s)).2.2) := by
      unfold getText
      rw [hg]
      simp
    rw [hg] at hfin
    have Hfin := Lib.hid hfin
    have Hg := Lib.hid hg
    clear hg hfin
    go_enter Tryd.func132, Tryd.ntmps132
    go_wp2_with fail
    refine (GetNum_at w s hs' Hg.out).mono ?_
    rintro e w' ⟨rfl, rfl⟩
    go_wp2
    go_ret3
    exact ⟨by rw [Hfin.out]; rfl, rfl⟩

theorem tyStrs : SliceTy Tryd.prog 93 9 1 16 (.string ByteArray.empty) :=
  SliceTy.mk' (by kernel_rfl) (by kernel_rfl) rfl (by omega)

/-- A list of texts that is only read. -/
abbrev Rd (w : World) (v : Value) (l : List ByteArray) : Prop := Sl w v 1 l.length (strV l)

set_option maxRecDepth 100000 in
set_option maxHeartbeats 1000000 in
theorem List_ok (w : World) (v : Value) (l : List ByteArray) (h : Rd w v l) (hf : fits (l.map bl) = true) :
    Calls Tryd.prog 72 #[v] w fun e w' => e = .returned (.tuple #[.string (bsOf (list (l.map bl))), .int .i64 0]) ∧ Below w.heap.size w w' := by
  obtain ⟨hf1, hf2⟩ := fits_iff.1 hf
  rw [List.length_map] at hf1
  obtain ⟨a, cap, rfl, hcap, hm⟩ := h.form
  have Hf2 := Lib.hid hf2
  have H := Lib.hid h
  clear h hf hf2
  go_enter Tryd.func72, Tryd.ntmps72
  go_wp2_with fail
  refine (put_ok w w.heap.size (.slice none 0 0) [] l.length (Ow.nil _ _ _ _) (by omega) (by simp) (Nat.le_refl _)).mono ?_
  rintro e w1 ⟨v1, rfl, hG⟩
  have HG := Lib.hid hG
  clear hG
  go_wp2
  go_loopw [4, 16] (fun b i wr => ∃ (vb : Value) (lb : List UInt8) (k : Nat), b = vb ∧ i = .int .i64 k ∧ k ≤ l.length ∧ GrB w.heap.size w (.slice none 0 0) wr vb lb ∧ lb = num l.length ++ ((l.map bl).take k).flatMap text ∧ lb.length ≤ 7 + k * 8200) (fun _ i _ => l.length - (intOf i).toNat)
  case atStart => exact ⟨v1, num l.length, 0, rfl, rfl, by omega, HG.out, by simp, by have := num_length (n := l.length) (by unfold maxNum; omega); omega⟩
  case round =>
    obtain ⟨vb, lb, k, rfl, rfl, hk, hG, hlb, hlen⟩ := hrel
    obtain ⟨a4, c4, rfl, _, _⟩ := hG.own.form
    have HG2 := Lib.hid hG
    have Hlb := Lib.hid hlb
    have hsz := hG.ext.size
    clear hG hlb
    by_cases hlt : k < l.length
    · obtain ⟨b, off, rfl, hbl, hcell⟩ := H.out.plain (by rw [strV_length]; omega)
      have hc : wr.cell? ⟨b, off + k, none⟩ = some (.string l[k]) := by
        rw [HG2.out.ofNil.cell (p := ⟨b, off + k, none⟩) hbl]
        exact hcell k _ (by simp [strV, hlt])
      have hl8 : l[k].size ≤ 8192 := by
        have := Hf2.out (bl l[k]) (List.mem_map.2 ⟨l[k], List.getElem_mem hlt, rfl⟩)
        rwa [bl_length] at this
      have Hcell := Lib.hid hcell
      clear hcell
      have hn1 : (num l[k].size).length ≤ 2 := num_length2 hl8
      go_wp2_with fail
      refine (put_ok wr w.heap.size (.slice a4 lb.length c4) lb l[k].size HG2.out.own (by omega) (by omega) hsz).mono ?_
      rintro e w2 ⟨v2, rfl, hG3⟩
      have HG3 := Lib.hid (HG2.out.trans hG3)
      clear hG3
      obtain ⟨L3, hL3⟩ : ∃ L3, L3 = (lb ++ num l[k].size) ++ bl l[k] := ⟨_, rfl⟩
      have hL4 : L3.length ≤ lb.length + 8194 := by rw [hL3]; simp only [List.length_append, bl_length]; omega
      have HL3 := Lib.hid hL3
      clear hL3
      go_wp2_with (at_builtin; go_must (refine wpList_appG rfl _ _ _ _ rfl tyBytes HG3.out rfl (.string l[k]) l[k].size (byV (bl l[k])) rfl (Ext.refl _ _) ?src L3.length ?hN (byV L3) ?hz ?h63 ?hby (Nat.le_refl _) ?go))
      case src => exact Src.ofString _ Tryd.underlying9 _
      case hN => rw [HL3.out, @List.length_append _ (lb ++ num l[k].size), bl_length]
      case hz => rw [HL3.out, byV_append (lb ++ num l[k].size)]
      case h63 => unfold maxLen; omega
      case hby => omega
      case go =>
        intro a' c' w3 hG4 _
        have HG4 := Lib.hid hG4
        clear hG4
        go_wp2
        go_roundw
        case rel =>
          refine ⟨_, L3, k + 1, rfl, by go_num, by omega, HG4.out, ?_, by omega⟩
          rw [HL3.out, Hlb.out, List.take_succ_eq_append_getElem (by simpa using hlt)]
          simp [text, bl_length, List.append_assoc]
        case measure => simp [intOf]; omega
    · obtain rfl : k = l.length := by omega
      have hcv := run_text' wr 69 9 5 Tryd.underlying69 Tryd.underlying5 Tryd.underlying9 (.slice a4 lb.length c4) lb HG2.out.own.sl
      obtain ⟨s, hs⟩ : ∃ s, s = bsOf lb := ⟨_, rfl⟩
      rw [← hs] at hcv
      have Hs := Lib.hid hs
      clear hs
      go_wp2
      go_ret2
      refine ⟨?_, HG2.out.ofNil⟩
      rw [Hs.out, Hlb.out, list, List.length_map, List.take_of_length_le (by simp)]
      rfl

end Go.Proofs.YtfodloepkgkilaaDoor.OctQ
