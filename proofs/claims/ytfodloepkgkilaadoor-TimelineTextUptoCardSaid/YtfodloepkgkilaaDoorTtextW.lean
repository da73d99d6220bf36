/-
  WHAT IS PROVED: the statement's function that asks whether the text has a line for each line, and none of what was taken back, answers true. Condition: the variables hold what 'VarsR' says, and the lines' bytes are not more than the theorem says.
-/
import Derived.Test.YtfodloepkgkilaaDoorTlives
namespace Go.Proofs.YtfodloepkgkilaaDoor.TtextW
open Go Go.RowKit Go.Shelf Go.Proofs.YtfodloepkgkilaaDoor Go.Proofs.YtfodloepkgkilaaDoor.OctP Go.Proofs.YtfodloepkgkilaaDoor.IdentP Go.Proofs.YtfodloepkgkilaaDoor.EventP Go.Proofs.YtfodloepkgkilaaDoor.RedA Go.Proofs.YtfodloepkgkilaaDoor.RowsX Go.Proofs.YtfodloepkgkilaaDoor.TimelineS Go.Proofs.YtfodloepkgkilaaDoor.Tline Go.Proofs.YtfodloepkgkilaaDoor.Tlist Go.Proofs.YtfodloepkgkilaaDoor.Tlives
set_option linter.unusedVariables false
set_option linter.unusedSimpArgs false

theorem feeds_le (s : List UInt8) : feeds s ≤ s.length := List.countP_le_length
theorem feeds_take (s : ByteArray) (j : Nat) (h : j < s.size) : feeds ((bl s).take (j + 1)) = feeds ((bl s).take j) + if s[j].toNat = 10 then 1 else 0 := by
  obtain ⟨hj, hx⟩ := List.getElem?_eq_some_iff.1 (bl_get s j h)
  rw [List.take_succ_eq_append_getElem hj, hx, feeds_append]
  have : feeds [s[j]] = if s[j].toNat = 10 then 1 else 0 := by
    generalize s[j] = y
    unfold feeds
    rw [List.countP_cons, List.countP_nil]
    by_cases e : y.toNat = 10
    · obtain rfl : y = 10 := UInt8.toNat_inj.1 e
      rfl
    · have : ¬ y = 10 := fun h => e (by rw [h]; rfl)
      rw [if_neg e]
      simp [this]
  omega
/-- The line that the statement makes of a line. -/
def cut (x : Ln) : Ln := ⟨x.ix, x.sd, if x.gone then ⟨#[]⟩ else x.bd, x.gone⟩
theorem text_cut (x : Ln) : textsOf ([cut x].map Ln.p) = textOf x.p := by
  unfold textsOf textOf cut Ln.p
  cases x.gone <;> simp

theorem sender_le (x : Ln) : x.sd.size ≤ (textOf x.p).length := by
  unfold textOf Ln.p
  simp only [List.length_append, bl_length]
  omega

set_option maxRecDepth 100000 in
set_option maxHeartbeats 8000000 in
theorem text_ok (w : World) (hv : VarsR w) (v : Value) (l : List Ln) (hs : Sl w v 4 l.length (lnV l)) (hT : l.length ≤ 200 → (textsOf (l.map Ln.p)).length ≤ 140737488351232) :
    Calls Tryd.prog 12 #[v] w (RB (.bool true) w) := by
  obtain ⟨a, cap, rfl, hcap, hm⟩ := hs.form
  have hlen : l.length ≤ 9223372036854775807 := by unfold maxLen at hm; omega
  have HS := Lib.hid hs
  have HV := Lib.hid hv
  have HT := Lib.hid hT
  clear hs hv hcap hm hT
  by_cases h200 : 200 < (l.length : Int)
  · go_enter Tryd.func12, Tryd.ntmps12
    go_wp2_with fail
    refine (lives_ok w HV.out).mono ?_
    rintro e w1 ⟨rfl, hb⟩
    have HB1 := Lib.hid hb
    clear hb
    go_wp2
    go_ret
    exact ⟨rfl, HB1.out⟩
  · have h2 : l.length ≤ 200 := by omega
    have hTT := HT.out h2
    go_enter Tryd.func12, Tryd.ntmps12
    go_wp2_with fail
    refine (lives_ok w HV.out).mono ?_
    rintro e w1 ⟨rfl, hb⟩
    have HB1 := Lib.hid hb
    have HS1 := Lib.hid (HS.out.below hb)
    clear hb
    go_wp2
    go_loopw [3, 4, 17] (fun s f i wr => ∃ (k n : Nat) (S : ByteArray), s = .string S ∧ f = .int .i64 n ∧ i = .int .i64 k ∧ k ≤ l.length ∧ S = bsOf (textsOf ((l.take k).map Ln.p)) ∧ n + k = feeds (textsOf ((l.take k).map Ln.p)) ∧ Below w1.heap.size w1 wr) (fun _ _ i _ => l.length - (intOf i).toNat)
    case atStart => exact ⟨0, 0, _, rfl, rfl, rfl, by omega, rfl, rfl, Below.refl _ _⟩
    case round =>
      obtain ⟨k, n, S, rfl, rfl, rfl, hk, hS, hn, hbr⟩ := hrel
      by_cases hlt : k < l.length
      · obtain ⟨⟨ix, sd, bd, gone⟩, hx⟩ : ∃ x, l[k]? = some x := ⟨_, List.getElem?_eq_getElem hlt⟩
        have hle := texts_le l (k + 1)
        have hsn := texts_snoc l k _ hx
        have hcut := text_cut ⟨ix, sd, bd, gone⟩
        have hfd := feeds_text (Ln.p ⟨ix, sd, bd, gone⟩)
        rw [show (Ln.p ⟨ix, sd, bd, gone⟩).sender = bl sd from rfl] at hfd
        obtain ⟨ab, ao, rfl, hab, g0, g1, g2, g3⟩ := ln_cells HS1.out k _ hx
        obtain ⟨T0, hT0⟩ : ∃ T, T = textsOf ((l.take k).map Ln.p) := ⟨_, rfl⟩
        obtain ⟨T1, hT1⟩ : ∃ T, T = textOf (Ln.p ⟨ix, sd, bd, gone⟩) := ⟨_, rfl⟩
        rw [← hT0] at hS hn hsn
        rw [← hT1] at hsn hcut hfd
        have hlens : T0.length + T1.length ≤ 140737488351232 := by rw [hsn, List.length_append] at hle; omega
        have hsdb : sd.size ≤ T1.length := by rw [hT1]; exact sender_le ⟨ix, sd, bd, gone⟩
        have hsd2 : sd.size ≤ 140737488351232 := by omega
        clear hsdb
        have hfl1 := feeds_le T0
        have hfl2 := feeds_le T1
        have hSs : S.size = T0.length := by rw [hS, size_bsOf]
        have hs1 : S.size ≤ T0.length := by omega
        have hs2 : T0.length ≤ S.size := by omega
        obtain ⟨X, hX⟩ : ∃ X, X = bsOf T1 := ⟨_, rfl⟩
        have hXs : X.size = T1.length := by rw [hX, size_bsOf]
        have hs3 : X.size ≤ T1.length := by omega
        have hnx : ¬ 9223372036854775807 < S.size + X.size := by omega
        have hSX : S ++ X = bsOf (textsOf ((l.take (k + 1)).map Ln.p)) := by
          rw [hsn, hS, hX]
          apply bl_inj
          rw [bl_append, bl_bsOf, bl_bsOf, bl_bsOf]
        have hnn : n + feeds (bl sd) + (k + 1) = feeds (textsOf ((l.take (k + 1)).map Ln.p)) := by
          rw [hsn, feeds_append, hfd, ← hn]
          omega
        have hnb : n + feeds (bl sd) ≤ 140737488351232 := by omega
        have q0 := (hbr.cell (p := ⟨ab, ao + k * 4, none⟩) hab).trans g0
        have q1 := (hbr.cell (p := ⟨ab, ao + k * 4 + 1, none⟩) hab).trans g1
        have q2 := (hbr.cell (p := ⟨ab, ao + k * 4 + 2, none⟩) hab).trans g2
        have q3 := (hbr.cell (p := ⟨ab, ao + k * 4 + 3, none⟩) hab).trans g3
        simp only at q0 q1 q2 q3
        have hTx := fun w v hs => Tline.Text_ok w v [cut ⟨ix, sd, bd, gone⟩] hs (by rw [hcut]; omega)
        rw [hcut, ← hX] at hTx
        have HTx := Lib.hid hTx
        have HSX := Lib.hid hSX
        have Hnn := Lib.hid hnn
        have HBr := Lib.hid hbr
        clear g0 g1 g2 g3 hS hn hsn hcut hfd hle hSs hX hXs hSX hnn hbr hx hTx hT0 hT1
        unfold cut at HTx
        cases gone
        · have hsl : Sl ((wr.alloc (.cells #[.int .i64 ix, .string sd, .string bd, .bool false] 63)).alloc (.cells #[.int .i64 ix, .string sd, .string bd, .bool false] 63)) (.slice (some ⟨wr.heap.size + 1, 0, none⟩) 1 1) 4 1 (lnV [⟨ix, sd, bd, false⟩]) := by
            have := Sl.ofOwn (own_new (w := wr.alloc (.cells #[.int .i64 ix, .string sd, .string bd, .bool false] 63)) (base := wr.heap.size) (e := 63) (size := 4) (n := 1) (cs := #[.int .i64 ix, .string sd, .string bd, .bool false]) rfl (by simp) (by unfold maxLen; omega) rfl)
            rw [World.size_alloc] at this
            exact this
          have hbb : Below wr.heap.size wr ((wr.alloc (.cells #[.int .i64 ix, .string sd, .string bd, .bool false] 63)).alloc (.cells #[.int .i64 ix, .string sd, .string bd, .bool false] 63)) := ((Below.refl _ _).alloc (Nat.le_refl _) _).alloc (by simp) _
          have hxb : ((wr.alloc (.cells #[.int .i64 ix, .string sd, .string bd, .bool false] 63)).alloc (.cells #[.int .i64 ix, .string sd, .string bd, .bool false] 63)).heap[wr.heap.size]? = some (.cells #[.int .i64 ix, .string sd, .string bd, .bool false] 63 (0, 0)) := heap_at (heap_new _ _) _
          go_wp2_with fail
          refine (HTx.out _ _ hsl).mono ?_
          rintro e w4 ⟨rfl, hb⟩
          have hx4 := (hb.block _ (lt_row hxb)).trans hxb
          have HB4 := Lib.hid (HBr.out.trans ((hbb.trans (hb.mono hbb.size)).mono HBr.out.size))
          obtain ⟨c4, f4⟩ := row_facts hx4
          have hl4 := lt_row hx4
          clear hb hbb hxb hsl q0 q1 q2 q3
          go_wp2
          go_loopw [4, 32] (fun f i wq => ∃ j : Nat, i = .int .i64 j ∧ f = .int .i64 ((n + feeds ((bl sd).take j) : Nat) : Int) ∧ j ≤ sd.size ∧ wq = w4) (fun _ i _ => sd.size - (intOf i).toNat)
          case atStart => exact ⟨0, rfl, rfl, by omega, rfl⟩
          case round =>
            obtain ⟨j, rfl, rfl, hj, rfl⟩ := hrel
            by_cases hjl : j < sd.size
            · have hft := feeds_take sd j hjl
              have hfl := feeds_le ((bl sd).take j)
              have hlj : ((bl sd).take j).length ≤ j := List.length_take_le _ _
              have hsdl : sd.size ≤ 9223372036854775807 := by omega
              obtain ⟨c, hc⟩ : ∃ c, c = feeds ((bl sd).take j) := ⟨_, rfl⟩
              have hcb : c ≤ feeds (bl sd) := by
                rw [hc]
                have : bl sd = (bl sd).take j ++ (bl sd).drop j := (List.take_append_drop _ _).symm
                rw [this, feeds_append]
                rw [← this]
                omega
              rw [← hc] at hft hfl ⊢
              clear hc
              by_cases h10 : sd[j].toNat = 10
              · rw [if_pos h10] at hft
                have hc10 : ((sd[j].toNat : Int) == 10) = true := by simpa using (by omega : (sd[j].toNat : Int) = 10)
                have Hft := Lib.hid hft
                clear hft
                go_wp2
                go_roundw
                case rel => exact ⟨j + 1, by go_num, by rw [Hft.out]; exact congrArg (Value.int .i64) (by omega), by omega, by trivial⟩
                case measure => simp [intOf]; omega
              · rw [if_neg h10] at hft
                have hc10 : ((sd[j].toNat : Int) == 10) = false := by simpa using (by omega : ¬ (sd[j].toNat : Int) = 10)
                have Hft := Lib.hid hft
                clear hft
                go_wp2
                go_roundw
                case rel => exact ⟨j + 1, by go_num, by rw [Hft.out]; rfl, by omega, by trivial⟩
                case measure => simp [intOf]; omega
            · obtain rfl : j = sd.size := by omega
              have hfull : (bl sd).take sd.size = bl sd := List.take_of_length_le (by rw [bl_length]; omega)
              rw [hfull]
              clear hfull
              go_wp2
              go_roundw
              case rel => exact ⟨k + 1, n + feeds (bl sd), S ++ X, rfl, rfl, by go_num, by omega, HSX.out, Hnn.out, HB4.out⟩
              case measure => simp [intOf]; omega
        · have hsl : Sl ((wr.alloc (.cells #[.int .i64 ix, .string sd, .string ⟨#[]⟩, .bool true] 63)).alloc (.cells #[.int .i64 ix, .string sd, .string ⟨#[]⟩, .bool true] 63)) (.slice (some ⟨wr.heap.size + 1, 0, none⟩) 1 1) 4 1 (lnV [⟨ix, sd, ⟨#[]⟩, true⟩]) := by
            have := Sl.ofOwn (own_new (w := wr.alloc (.cells #[.int .i64 ix, .string sd, .string ⟨#[]⟩, .bool true] 63)) (base := wr.heap.size) (e := 63) (size := 4) (n := 1) (cs := #[.int .i64 ix, .string sd, .string ⟨#[]⟩, .bool true]) rfl (by simp) (by unfold maxLen; omega) rfl)
            rw [World.size_alloc] at this
            exact this
          have hbb : Below wr.heap.size wr ((wr.alloc (.cells #[.int .i64 ix, .string sd, .string ⟨#[]⟩, .bool true] 63)).alloc (.cells #[.int .i64 ix, .string sd, .string ⟨#[]⟩, .bool true] 63)) := ((Below.refl _ _).alloc (Nat.le_refl _) _).alloc (by simp) _
          have hxb : ((wr.alloc (.cells #[.int .i64 ix, .string sd, .string ⟨#[]⟩, .bool true] 63)).alloc (.cells #[.int .i64 ix, .string sd, .string ⟨#[]⟩, .bool true] 63)).heap[wr.heap.size]? = some (.cells #[.int .i64 ix, .string sd, .string ⟨#[]⟩, .bool true] 63 (0, 0)) := heap_at (heap_new _ _) _
          go_wp2_with fail
          refine (HTx.out _ _ hsl).mono ?_
          rintro e w4 ⟨rfl, hb⟩
          have hx4 := (hb.block _ (lt_row hxb)).trans hxb
          have HB4 := Lib.hid (HBr.out.trans ((hbb.trans (hb.mono hbb.size)).mono HBr.out.size))
          obtain ⟨c4, f4⟩ := row_facts hx4
          have hl4 := lt_row hx4
          clear hb hbb hxb hsl q0 q1 q2 q3
          go_wp2
          go_loopw [4, 32] (fun f i wq => ∃ j : Nat, i = .int .i64 j ∧ f = .int .i64 ((n + feeds ((bl sd).take j) : Nat) : Int) ∧ j ≤ sd.size ∧ wq = w4) (fun _ i _ => sd.size - (intOf i).toNat)
          case atStart => exact ⟨0, rfl, rfl, by omega, rfl⟩
          case round =>
            obtain ⟨j, rfl, rfl, hj, rfl⟩ := hrel
            by_cases hjl : j < sd.size
            · have hft := feeds_take sd j hjl
              have hfl := feeds_le ((bl sd).take j)
              have hlj : ((bl sd).take j).length ≤ j := List.length_take_le _ _
              have hsdl : sd.size ≤ 9223372036854775807 := by omega
              obtain ⟨c, hc⟩ : ∃ c, c = feeds ((bl sd).take j) := ⟨_, rfl⟩
              have hcb : c ≤ feeds (bl sd) := by
                rw [hc]
                have : bl sd = (bl sd).take j ++ (bl sd).drop j := (List.take_append_drop _ _).symm
                rw [this, feeds_append]
                rw [← this]
                omega
              rw [← hc] at hft hfl ⊢
              clear hc
              by_cases h10 : sd[j].toNat = 10
              · rw [if_pos h10] at hft
                have hc10 : ((sd[j].toNat : Int) == 10) = true := by simpa using (by omega : (sd[j].toNat : Int) = 10)
                have Hft := Lib.hid hft
                clear hft
                go_wp2
                go_roundw
                case rel => exact ⟨j + 1, by go_num, by rw [Hft.out]; exact congrArg (Value.int .i64) (by omega), by omega, by trivial⟩
                case measure => simp [intOf]; omega
              · rw [if_neg h10] at hft
                have hc10 : ((sd[j].toNat : Int) == 10) = false := by simpa using (by omega : ¬ (sd[j].toNat : Int) = 10)
                have Hft := Lib.hid hft
                clear hft
                go_wp2
                go_roundw
                case rel => exact ⟨j + 1, by go_num, by rw [Hft.out]; rfl, by omega, by trivial⟩
                case measure => simp [intOf]; omega
            · obtain rfl : j = sd.size := by omega
              have hfull : (bl sd).take sd.size = bl sd := List.take_of_length_le (by rw [bl_length]; omega)
              rw [hfull]
              clear hfull
              go_wp2
              go_roundw
              case rel => exact ⟨k + 1, n + feeds (bl sd), S ++ X, rfl, rfl, by go_num, by omega, HSX.out, Hnn.out, HB4.out⟩
              case measure => simp [intOf]; omega
      · obtain rfl : k = l.length := by omega
        rw [List.take_length] at hS hn
        have hTx := Tline.Text_ok wr _ l (HS1.out.below hbr) hTT
        rw [← hS] at hTx
        have hfS : feeds (bl S) = n + l.length := by rw [hS, bl_bsOf]; exact hn.symm
        have hSs : S.size ≤ 140737488351232 := by rw [hS, size_bsOf]; exact hTT
        have hnb : n ≤ 140737488351232 := by have := feeds_le (bl S); rw [bl_length] at this; omega
        have HTx := Lib.hid hTx
        have HfS := Lib.hid hfS
        have HBr := Lib.hid (HB1.out.trans (hbr.mono HB1.out.size))
        clear hS hn hTx hfS hbr
        go_wp2_with fail
        refine HTx.out.mono ?_
        rintro e w4 ⟨rfl, hb⟩
        have HB4 := Lib.hid (HBr.out.trans (hb.mono HBr.out.size))
        clear hb
        go_wp2
        go_loopw [4, 48] (fun f i wq => ∃ j : Nat, i = .int .i64 j ∧ f = .int .i64 ((n : Int) - (feeds ((bl S).take j) : Nat)) ∧ j ≤ S.size ∧ wq = w4) (fun _ i _ => S.size - (intOf i).toNat)
        case atStart => exact ⟨0, rfl, by simp [feeds], by omega, rfl⟩
        case round =>
          obtain ⟨j, rfl, rfl, hj, rfl⟩ := hrel
          by_cases hjl : j < S.size
          · have hft := feeds_take S j hjl
            have hfl := feeds_le ((bl S).take j)
            have hlj : ((bl S).take j).length ≤ j := List.length_take_le _ _
            obtain ⟨c, hc⟩ : ∃ c, c = feeds ((bl S).take j) := ⟨_, rfl⟩
            rw [← hc] at hft hfl ⊢
            clear hc
            have d1 : (-140737488351232 : Int) ≤ (n : Int) - (c : Int) := by omega
            have d2 : (n : Int) - (c : Int) ≤ 140737488351232 := by omega
            by_cases h10 : S[j].toNat = 10
            · rw [if_pos h10] at hft
              have hc10 : ((S[j].toNat : Int) == 10) = true := by simpa using (by omega : (S[j].toNat : Int) = 10)
              have Hft := Lib.hid hft
              clear hft
              go_wp2
              go_roundw
              case rel => exact ⟨j + 1, by go_num, by rw [Hft.out]; exact congrArg (Value.int .i64) (by omega), by omega, by trivial⟩
              case measure => simp [intOf]; omega
            · rw [if_neg h10] at hft
              have hc10 : ((S[j].toNat : Int) == 10) = false := by simpa using (by omega : ¬ (S[j].toNat : Int) = 10)
              have Hft := Lib.hid hft
              clear hft
              go_wp2
              go_roundw
              case rel => exact ⟨j + 1, by go_num, by rw [Hft.out]; rfl, by omega, by trivial⟩
              case measure => simp [intOf]; omega
          · obtain rfl : j = S.size := by omega
            have hfull : (bl S).take S.size = bl S := List.take_of_length_le (by rw [bl_length]; omega)
            rw [hfull, HfS.out]
            clear hfull
            have he : (n : Int) - ((n + l.length : Nat) : Int) = -(l.length : Int) := by omega
            rw [he]
            clear he
            go_wp2
            go_ret
            exact ⟨rfl, HB4.out⟩

end Go.Proofs.YtfodloepkgkilaaDoor.TtextW
