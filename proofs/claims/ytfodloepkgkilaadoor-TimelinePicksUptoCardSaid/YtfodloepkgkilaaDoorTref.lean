/-
  WHAT IS PROVED: what the document's text of a room's lines is. Condition: the lines' bytes are not more than the theorem says.
-/
import Derived.Test.YtfodloepkgkilaaDoorTline
namespace Go.Proofs.YtfodloepkgkilaaDoor.Tref
open Go Go.RowKit Go.Proofs.YtfodloepkgkilaaDoor Go.Proofs.YtfodloepkgkilaaDoor.OctetS Go.Proofs.YtfodloepkgkilaaDoor.OctP Go.Proofs.YtfodloepkgkilaaDoor.IdentP Go.Proofs.YtfodloepkgkilaaDoor.EventP Go.Proofs.YtfodloepkgkilaaDoor.TimelineS Go.Proofs.YtfodloepkgkilaaDoor.Tline
set_option linter.unusedVariables false
set_option linter.unusedSimpArgs false

def pl (c : UInt8) : UInt8 := if c.toNat < 32 then 32 else c
theorem plain_snoc (s : ByteArray) (j : Nat) (h : j < s.size) : TimelineS.plain ((bl s).take (j + 1)) = TimelineS.plain ((bl s).take j) ++ [pl s[j]] := by
  have hg := bl_get s j h
  obtain ⟨hj, hx⟩ := List.getElem?_eq_some_iff.1 hg
  rw [List.take_succ_eq_append_getElem hj, hx]
  unfold TimelineS.plain
  rw [List.map_append]
  rfl

set_option maxRecDepth 100000 in
set_option maxHeartbeats 4000000 in
theorem Text_ok (w : World) (v : Value) (l : List Ln) (hv : Sl w v 4 l.length (lnV l)) (hT : (textsOf (l.map Ln.p)).length ≤ 140737488351232) :
    Calls Tryd.prog 49 #[v] w (RB (.string (bsOf (textsOf (l.map Ln.p)))) w) := by
  obtain ⟨a, cap, rfl, hcap, hm⟩ := hv.form
  have hlen : l.length ≤ 9223372036854775807 := by unfold maxLen at hm; omega
  have HC := Lib.hid (ln_cells hv)
  clear hv hcap hm
  go_enter Tryd.func49, Tryd.ntmps49
  go_wp2
  go_loopw [3, 9] (fun b i wr => ∃ (v : Value) (k : Nat), b = v ∧ i = .int .i64 k ∧ k ≤ l.length ∧ Acc w wr v (textsOf ((l.take k).map Ln.p))) (fun _ i _ => l.length - (intOf i).toNat)
  case atStart => exact ⟨_, 0, rfl, rfl, by omega, Acc.nil w⟩
  case round =>
    obtain ⟨v, k, rfl, rfl, hk, hA⟩ := hrel
    by_cases hlt : k < l.length
    · obtain ⟨⟨ix, sd, bd, gone⟩, hx⟩ : ∃ x, l[k]? = some x := ⟨_, List.getElem?_eq_getElem hlt⟩
      have hle := texts_le l (k + 1)
      have hsn := texts_snoc l k _ hx
      obtain ⟨ab, ao, rfl, hab, g0, g1, g2, g3⟩ := HC.out k _ hx
      obtain ⟨T, hTT⟩ : ∃ T, T = textsOf ((l.take k).map Ln.p) := ⟨_, rfl⟩
      rw [← hTT] at hA hsn
      have q0 := (hA.bel.cell (p := ⟨ab, ao + k * 4, none⟩) hab).trans g0
      have q1 := (hA.bel.cell (p := ⟨ab, ao + k * 4 + 1, none⟩) hab).trans g1
      have q2 := (hA.bel.cell (p := ⟨ab, ao + k * 4 + 2, none⟩) hab).trans g2
      have q3 := (hA.bel.cell (p := ⟨ab, ao + k * 4 + 3, none⟩) hab).trans g3
      simp only at q0 q1 q2 q3
      have HA := Lib.hid (hA.box (.cells #[.int .i64 ix, .string sd, .string bd, .bool gone] 63))
      have e1 : bl (sd ++ ⟨#[58, 32]⟩) = bl sd ++ [58, 32] := by rw [bl_append]; rfl
      have E1 := Lib.hid e1
      have s2 : (⟨#[58, 32]⟩ : ByteArray).size = 2 := rfl
      have s3 : (sd ++ (⟨#[58, 32]⟩ : ByteArray)).size = sd.size + 2 := by rw [ByteArray.size_append]; rfl
      clear g0 g1 g2 g3 hA hTT hx e1
      cases gone
      · rw [text_here rfl] at hsn
        have hlens : T.length + sd.size + bd.size + 3 ≤ 140737488351232 := by
          rw [hsn] at hle
          simp only [List.length_append, bl_length, plain_length, List.length_cons, List.length_nil] at hle
          omega
        have hn1 : ¬ 9223372036854775807 < sd.size + 2 := by omega
        have Hsn := Lib.hid hsn
        clear hsn hle
        go_wp2_with (at_builtin; go_must (refine wpList_accX HA.out rfl _ _ _ rfl rfl (.string (sd ++ ⟨#[58, 32]⟩)) (bl (sd ++ ⟨#[58, 32]⟩)) rfl (src_str _ _) ?hl ?go))
        case hl => rw [bl_length]; omega
        case go =>
        intro v2 w2 A2
        rw [E1.out] at A2
        obtain ⟨T1, hT1⟩ : ∃ T1, T1 = T ++ (bl sd ++ [58, 32]) := ⟨_, rfl⟩
        rw [← hT1] at A2
        have hT1l : T1.length + bd.size + 1 ≤ 140737488351232 := by rw [hT1]; simp only [List.length_append, bl_length, List.length_cons, List.length_nil]; omega
        have HA2 := Lib.hid A2
        have HT1 := Lib.hid hT1
        obtain ⟨hc2, hf2⟩ := row_facts A2.at'
        have hl2 := lt_row A2.at'
        clear A2 q0 q1 q2 q3 HA hT1
        go_wp2
        clear hc2 hf2
        obtain ⟨wo, rfl⟩ : ∃ wo : World, wo = wr := ⟨_, rfl⟩
        go_loopw [3, 6] (fun b i wq => ∃ (v : Value) (j : Nat), b = v ∧ i = .int .i64 j ∧ j ≤ bd.size ∧ AccX w wq v (T1 ++ TimelineS.plain ((bl bd).take j)) wo.heap.size (.cells #[.int .i64 ix, .string sd, .string bd, .bool false] 63 (0, 0))) (fun _ i _ => bd.size - (intOf i).toNat)
        case atStart => exact ⟨_, 0, rfl, rfl, by omega, by simpa [TimelineS.plain] using HA2.out⟩
        case round =>
          obtain ⟨v, j, rfl, rfl, hj, hB⟩ := hrel
          obtain ⟨hc, hf⟩ := row_facts hB.at'
          have hlb := lt_row hB.at'
          have hpl : (TimelineS.plain ((bl bd).take j)).length ≤ j := by rw [plain_length]; exact List.length_take_le _ _
          have HB := Lib.hid hB
          clear hB HA2
          by_cases hjl : j < bd.size
          · have hps := plain_snoc bd j hjl
            have Hps := Lib.hid hps
            clear hps
            by_cases hc32 : bd[j].toNat < 32
            · have hpv : pl bd[j] = 32 := if_pos hc32
              have Hpv := Lib.hid hpv
              clear hpv
              go_wp2_with (at_builtin; go_must (refine wpList_accX (HB.out.alloc _) rfl _ _ _ rfl rfl (.slice (some ⟨wr.heap.size, 0, none⟩) 1 1) [32] rfl (src_one Tryd.underlying69 rfl) ?hl ?go))
              case hl => simp only [List.length_append, List.length_cons, List.length_nil]; omega
              case go =>
              intro v5 w5 A5
              have HA5 := Lib.hid A5
              clear A5 HB hc hf
              go_wp2
              go_roundw
              case rel => exact ⟨_, j + 1, rfl, by go_num, by omega, by
                rw [Hps.out, Hpv.out, ← List.append_assoc]
                have := HA5.out
                simp only [List.append_assoc] at this ⊢
                exact this⟩
              case measure => simp [intOf]; omega
            · have hpv : pl bd[j] = bd[j] := if_neg hc32
              have hc33 : 32 ≤ bd[j].toNat := by omega
              have Hpv := Lib.hid hpv
              clear hpv
              go_wp2_with (at_builtin; go_must (refine wpList_accX (HB.out.alloc _) rfl _ _ _ rfl rfl (.slice (some ⟨wr.heap.size, 0, none⟩) 1 1) [bd[j]] rfl (src_one Tryd.underlying69 rfl) ?hl ?go))
              case hl => simp only [List.length_append, List.length_cons, List.length_nil]; omega
              case go =>
              intro v5 w5 A5
              have HA5 := Lib.hid A5
              clear A5 HB hc hf
              go_wp2
              go_roundw
              case rel => exact ⟨_, j + 1, rfl, by go_num, by omega, by
                rw [Hps.out, Hpv.out, ← List.append_assoc]
                have := HA5.out
                simp only [List.append_assoc] at this ⊢
                exact this⟩
              case measure => simp [intOf]; omega
          · obtain rfl : j = bd.size := by omega
            have hfull : (bl bd).take bd.size = bl bd := List.take_of_length_le (by rw [bl_length]; omega)
            rw [hfull] at HB
            clear hfull hpl
            go_wp2_with (at_builtin; go_must (refine wpList_accX (HB.out.alloc _) rfl _ _ _ rfl rfl (.slice (some ⟨wr.heap.size, 0, none⟩) 1 1) [10] rfl (src_one Tryd.underlying69 rfl) ?hl ?go))
            case hl => simp only [List.length_append, plain_length, bl_length, List.length_cons, List.length_nil]; omega
            case go =>
            intro v5 w5 A5
            have HA5 := Lib.hid A5
            clear A5 HB hc hf
            go_wp2
            go_roundw
            case rel => exact ⟨_, k + 1, rfl, by go_num, by omega, by
              rw [Hsn.out]
              have := HA5.out.acc
              rw [HT1.out] at this
              simp only [List.append_assoc, List.cons_append, List.nil_append] at this ⊢
              exact this⟩
            case measure => simp [intOf]; omega
      · rw [text_gone rfl] at hsn
        have hlens : T.length + sd.size + 4 ≤ 140737488351232 := by
          rw [hsn] at hle
          simp only [List.length_append, bl_length, List.length_cons, List.length_nil] at hle
          omega
        have hn1 : ¬ 9223372036854775807 < sd.size + 2 := by omega
        have Hsn := Lib.hid hsn
        clear hsn hle
        go_wp2_with (at_builtin; go_must (refine wpList_accX HA.out rfl _ _ _ rfl rfl (.string (sd ++ ⟨#[58, 32]⟩)) (bl (sd ++ ⟨#[58, 32]⟩)) rfl (src_str _ _) ?hl ?go))
        case hl => rw [bl_length]; omega
        case go =>
        intro v2 w2 A2
        rw [E1.out] at A2
        have HA2 := Lib.hid A2
        obtain ⟨hc2, hf2⟩ := row_facts A2.at'
        have hl2 := lt_row A2.at'
        clear A2 q0 q1 q2 q3 HA
        go_wp2_with (at_builtin; go_must (refine wpList_accX (HA2.out.alloc _) rfl _ _ _ rfl rfl (.slice (some ⟨w2.heap.size, 0, none⟩) 1 1) [45] rfl (src_one Tryd.underlying69 rfl) ?hl ?go))
        case hl => simp only [List.length_append, bl_length, List.length_cons, List.length_nil]; omega
        case go =>
        intro v4 w4 A4
        have HA4 := Lib.hid A4
        clear A4 HA2 hc2 hf2
        go_wp2
        obtain ⟨wo, rfl⟩ : ∃ wo : World, wo = wr := ⟨_, rfl⟩
        go_loopw [3, 6] (fun b i wq => b = v4 ∧ i = .int .i64 0 ∧ wq = w4) (fun _ _ _ => 0)
        case atStart => exact ⟨rfl, rfl, rfl⟩
        case round =>
          obtain ⟨rfl, rfl, rfl⟩ := hrel
          obtain ⟨hc, hf⟩ := row_facts HA4.out.at'
          have hlb := lt_row HA4.out.at'
          by_cases hz : 0 < bd.size
          all_goals
            go_wp2_with (at_builtin; go_must (refine wpList_accX (HA4.out.alloc _) rfl _ _ _ rfl rfl (.slice (some ⟨wr.heap.size, 0, none⟩) 1 1) [10] rfl (src_one Tryd.underlying69 rfl) ?hl ?go))
            case hl => simp only [List.length_append, bl_length, List.length_cons, List.length_nil]; omega
            case go =>
            intro v5 w5 A5
            have HA5 := Lib.hid A5
            clear A5 HA4 hc hf
            go_wp2
            go_roundw
            case rel => exact ⟨_, k + 1, rfl, by go_num, by omega, by
              rw [Hsn.out]
              have := HA5.out.acc
              simp only [List.append_assoc, List.cons_append, List.nil_append] at this ⊢
              exact this⟩
            case measure => simp [intOf]; omega
    · obtain rfl : k = l.length := by omega
      rw [List.take_length] at hA
      have hcv := run_text' wr 69 9 5 Tryd.underlying69 Tryd.underlying5 Tryd.underlying9 _ _ hA.own.sl
      have HA := Lib.hid hA
      clear hA
      go_wp2
      go_ret
      exact ⟨rfl, HA.out.bel⟩

end Go.Proofs.YtfodloepkgkilaaDoor.Tref
