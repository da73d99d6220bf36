/-
  WHAT IS PROVED: what the document's own answers on reading an identifier do. Condition: the text is not longer than each theorem says.
-/
import Derived.Test.YtfodloepkgkilaaDoorRefT
import Derived.Test.YtfodloepkgkilaaDoorIdentR
namespace Go.Proofs.YtfodloepkgkilaaDoor.RefP
open Go Go.RowKit Go.Proofs.YtfodloepkgkilaaDoor Go.Proofs.YtfodloepkgkilaaDoor.IdentS Go.Proofs.YtfodloepkgkilaaDoor.IdentP Go.Proofs.YtfodloepkgkilaaDoor.IdentQ Go.Proofs.YtfodloepkgkilaaDoor.RefI Go.Proofs.YtfodloepkgkilaaDoor.RefC
set_option linter.unusedVariables false

def kd (c : UInt8) : Int := if c = 33 then 2 else 1
theorem parse_colon {s : List UInt8} (h : ∀ c ∈ s.drop 1, c ≠ 58) : IdentS.parse s = none := by
  cases he : IdentS.parse s with
  | none => rfl
  | some x =>
    obtain ⟨_, hs⟩ := parse_iff.1 he
    rw [hs] at h
    exact absurd rfl (h 58 (by simp [textOf]))
theorem parse_split {c : UInt8} {a b : List UInt8} {x : Idn} (ha : ∀ d ∈ a, d ≠ 58) (h : IdentS.parse (c :: (a ++ 58 :: b)) = some x) : ∃ n, cnt b = some n ∧ x = ⟨kd c, a, n⟩ := by
  obtain ⟨ox, hs⟩ := parse_iff.1 h
  obtain ⟨kx, nx, s0, s1⟩ := ok_spec ox
  unfold textOf at hs
  simp only [List.cons.injEq] at hs
  obtain ⟨hc, hs⟩ := hs
  obtain ⟨h1, h2⟩ := split_colon ha (fun d hd => letter_ne ((name_spec nx).1 d hd)) hs
  refine ⟨x.server.toNat, ?_, ?_⟩
  · rw [h2]
    exact cnt_digits (by omega)
  · obtain ⟨xk, xn, xs⟩ := x
    simp only at *
    rw [h1, hc]
    have : kd (sign xk) = xk := by rcases kx with rfl | rfl <;> rfl
    rw [this]
    simp only [Idn.mk.injEq, true_and]
    omega
theorem parse_none_cnt {c : UInt8} {a b : List UInt8} (ha : ∀ d ∈ a, d ≠ 58) (h : cnt b = none) : IdentS.parse (c :: (a ++ 58 :: b)) = none := by
  cases he : IdentS.parse (c :: (a ++ 58 :: b)) with
  | none => rfl
  | some x =>
    obtain ⟨n, h1, _⟩ := parse_split ha he
    rw [h] at h1
    cases h1
theorem parse_some_cnt {c : UInt8} {a b : List UInt8} {n : Nat} (ha : ∀ d ∈ a, d ≠ 58) (h : cnt b = some n) :
    IdentS.parse (c :: (a ++ 58 :: b)) = if okB ⟨kd c, a, n⟩ = true ∧ textOf ⟨kd c, a, n⟩ = c :: (a ++ 58 :: b) then some ⟨kd c, a, n⟩ else none := by
  split
  · rename_i hc
    exact parse_iff.2 ⟨hc.1, hc.2.symm⟩
  · rename_i hc
    cases he : IdentS.parse (c :: (a ++ 58 :: b)) with
    | none => rfl
    | some x =>
      obtain ⟨m, h1, h2⟩ := parse_split ha he
      rw [h] at h1
      cases h1
      subst h2
      obtain ⟨ox, hs⟩ := parse_iff.1 he
      exact absurd ⟨ox, hs.symm⟩ hc

/-- A block of an identifier's three cells, written anew. -/
def set3 (w : World) (B : Nat) (v0 v1 v2 : Value) : World := ((w.setCell ⟨B, 0, none⟩ v0).setCell ⟨B, 1, none⟩ v1).setCell ⟨B, 2, none⟩ v2
theorem fin3 {w w3 : World} {x0 x1 x2 : Value} {t : TypeId} (h : w3.heap[w.heap.size]? = some (.cells #[x0, x1, x2] t (0, 0))) (hb : Below w.heap.size w w3) (v0 v1 v2 : Value) (W4 : World) (hW : W4 = set3 w3 w.heap.size v0 v1 v2) :
    (W4.cell? ⟨w.heap.size, 0, none⟩ = some v0 ∧ W4.cell? ⟨w.heap.size, 1, none⟩ = some v1 ∧ W4.cell? ⟨w.heap.size, 2, none⟩ = some v2) ∧ Below w.heap.size w W4 := by
  have hr : W4.heap[w.heap.size]? = some (.cells #[v0, v1, v2] t (0, 0)) := by
    rw [hW]
    exact heap_setCell_same (heap_setCell_same (heap_setCell_same h _) _) _
  refine ⟨⟨cell_row hr, cell_row hr, cell_row hr⟩, ?_⟩
  rw [hW]
  exact ((hb.setCell (p := ⟨w.heap.size, 0, none⟩) (Nat.le_refl _) _).setCell (p := ⟨w.heap.size, 1, none⟩) (Nat.le_refl _) _).setCell (p := ⟨w.heap.size, 2, none⟩) (Nat.le_refl _) _

theorem Text_any (w : World) (k : Int) (nm : ByteArray) (sv : Int) (hn : nm.size ≤ maxLen) : Calls Tryd.prog 15 #[.agg #[.int .u8 k, .string nm, .int .i64 sv]] w (IdentR.AnyText w) := by
  cases h : okB (idOf k nm sv)
  · exact (RefT.Text_no w k nm sv hn h).mono fun e w' ⟨h1, h2⟩ => ⟨⟨_, _, h1⟩, h2⟩
  · exact (RefT.Text_ok w k nm sv h).mono fun e w' ⟨h1, h2⟩ => ⟨⟨_, _, h1⟩, h2⟩

/-- The byte at k, and what stands ahead of it and behind. -/
theorem split_at (s : ByteArray) (k : Nat) (h1 : 1 ≤ k) (hk : k < s.size) : bl s = s[0] :: (bl (s.extract 1 k) ++ s[k] :: bl (s.extract (k + 1) s.size)) := by
  have h0 := bl_drop s 0 (by omega)
  have hd := bl_drop s k hk
  rw [List.drop_zero] at h0
  rw [h0, bl_extract, bl_extract]
  congr 1
  have e : (bl s).drop 1 = ((bl s).drop 1).take (k - 1) ++ ((bl s).drop 1).drop (k - 1) := (List.take_append_drop _ _).symm
  rw [Nat.zero_add]
  rw [List.drop_drop, show 1 + (k - 1) = k by omega, hd] at e
  rw [List.take_of_length_le (i := s.size - (k + 1)) (by rw [List.length_drop, bl_length]; omega)]
  exact e

set_option maxRecDepth 100000 in
set_option maxHeartbeats 4000000 in
theorem Parse_ok (w : World) (s : ByteArray) (hs : s.size ≤ 140737488351232) : Calls Tryd.prog 17 #[.string s] w (ReadPost (bl s) w) := by
  obtain ⟨w0, hw0⟩ : ∃ w0, w0 = w.alloc (.cells #[.int .u8 0, .string ByteArray.empty, .int .i64 0] 24) := ⟨_, rfl⟩
  have hB0 : Below w.heap.size w w0 := by rw [hw0]; exact (Below.refl _ w).alloc (Nat.le_refl _) _
  have hx0 : w0.heap[w.heap.size]? = some (.cells #[.int .u8 0, .string ByteArray.empty, .int .i64 0] 24 (0, 0)) := by rw [hw0]; exact heap_new _ _
  have hl0 := lt_row hx0
  have HB0 := Lib.hid hB0
  have Hw0 := Lib.hid hw0
  obtain ⟨hc0, hf0⟩ := row_facts hx0
  clear hB0 hw0
  go_enter Tryd.func17, Tryd.ntmps17
  go_wp2_with fail
  rw [show (w.alloc (.cells #[.int .u8 0, .string ⟨#[]⟩, .int .i64 0] 24)) = w0 from Hw0.out.symm]
  go_loop [4] (fun i => ∃ k : Nat, i = .int .i64 k ∧ 1 ≤ k ∧ (k ≤ s.size ∨ k = 1) ∧ ∀ d ∈ bl (s.extract 1 k), d ≠ 58) (fun i => s.size - (intOf i).toNat)
  case atStart =>
    refine ⟨1, rfl, by omega, .inr rfl, fun d hd => ?_⟩
    rw [bl_extract] at hd
    simp at hd
  case round =>
    obtain ⟨k, rfl, hk1, hk, hall⟩ := hrel
    have Hall := Lib.hid hall
    clear hall
    by_cases hlt : k < s.size
    · have hsp := split_at s k hk1 hlt
      by_cases h58 : s[k] = 58
      · have hall0 := Hall.out
        obtain ⟨nm, hnm⟩ : ∃ nm, nm = s.extract 1 k := ⟨_, rfl⟩
        obtain ⟨rest, hrest⟩ : ∃ rest, rest = s.extract (k + 1) s.size := ⟨_, rfl⟩
        have hnmz : nm.size ≤ maxLen := by rw [hnm, ByteArray.size_extract]; unfold maxLen; omega
        have hrz : rest.size ≤ maxLen := by rw [hrest, ByteArray.size_extract]; unfold maxLen; omega
        rw [← hnm] at hall0 hsp
        rw [← hrest, h58] at hsp
        have hC := fun w => Count_ok w rest hrz
        have hT := fun w k n => Text_any w k nm n hnmz
        have hTn := fun w k n h => RefT.Text_no w k nm n hnmz h
        have hTy := fun w k n h => RefT.Text_ok w k nm n h
        have hidd : ∀ (k : Int) (n : Int), idOf k nm n = ⟨k, bl nm, n⟩ := fun _ _ => rfl
        have hb0 : (s[0] = 33 ∧ ((((s[0]).toNat : Int) == 33) = true) ∧ kd s[0] = 2) ∨ (((((s[0]).toNat : Int) == 33) = false) ∧ kd s[0] = 1) := by
          by_cases h : s[0] = 33
          · exact .inl ⟨h, by rw [h]; rfl, if_pos h⟩
          · refine .inr ⟨?_, if_neg h⟩
            rw [beq_eq_false_iff_ne]
            intro he
            apply h
            apply UInt8.toNat_inj.1
            show (s[0]).toNat = 33
            omega
        have hb58 : (((s[k]).toNat : Int) != 58) = false := by rw [h58]; rfl
        have hs0 : 0 < s.size := by omega
        have hk31 : k < 9223372036854775807 := by omega
        have Hnm := Lib.hid hnm
        have Hrest := Lib.hid hrest
        clear Hall hk
        rcases hb0 with ⟨h33, hb0, hkd⟩ | ⟨hb0, hkd⟩
        · clear h33
          cases hcn : cnt (bl rest) with
          | none =>
            have hfin := parse_none_cnt (c := s[0]) hall0 hcn
            rw [← hsp] at hfin
            have hTx := fun w => hT w 2 0
            rw [hcn] at hC
            have HC := Lib.hid hC
            have HTx := Lib.hid hTx
            have Hfin := Lib.hid hfin
            clear hC hTx hfin hT hTn hTy hidd hcn hsp hall0 hkd hnm hrest h58
            go_wp2_with fail
            rw [← Hrest.out]
            refine (HC.out w0).mono ?_
            rintro e w1 ⟨rfl, rfl⟩
            unfold cntV
            go_wp2_with fail
            try rw [← Hnm.out]
            refine (HTx.out _).mono ?_
            rintro e w3 ⟨⟨T, y, rfl⟩, hb3⟩
            have hx3 := (hb3.block w.heap.size (by simp; omega)).trans ((Below.heap_alloc _ _ _ hl0).trans hx0)
            have hy3 := (hb3.block w0.heap.size (by simp)).trans (heap_new _ _)
            have HB3 := Lib.hid ((HB0.out.alloc HB0.out.size _).trans (hb3.mono (HB0.out.alloc HB0.out.size _).size))
            have hl3 := lt_row hx3
            have hm3 := lt_row hy3
            obtain ⟨hc3, hf3⟩ := row_facts hx3
            obtain ⟨hd3, hg3⟩ := row_facts hy3
            clear hb3 hc0 hf0
            go_wp2
            obtain ⟨W4, hW4⟩ : ∃ W4, W4 = set3 w3 w.heap.size (.int .u8 0) (.string ByteArray.empty) (.int .i64 0) := ⟨_, rfl⟩
            obtain ⟨⟨k0, k1, k2⟩, HB4⟩ := fin3 hx3 HB3.out (.int .u8 0) (.string ByteArray.empty) (.int .i64 0) W4 hW4
            change bodyPost _ _ _ _ _ (set3 w3 w.heap.size (.int .u8 0) (.string ByteArray.empty) (.int .i64 0))
            rw [← hW4]
            refine bodyPost_ret (v := .tuple #[.agg #[.int .u8 0, .string ByteArray.empty, .int .i64 0], .int .i64 6]) (by simp [results, Tryd.results17, go_sem, k0, k1, k2]) rfl ⟨?_, HB4⟩
            rw [Hfin.out]
            rfl
          | some n =>
            have hn63 := (cnt_spec hcn).1
            cases hok : okB ⟨2, bl nm, n⟩
            · have hfin := parse_some_cnt (c := s[0]) hall0 hcn
              rw [← hsp] at hfin
              rw [hkd] at hfin
              rw [if_neg (fun h => by rw [hok] at h; cases h.1)] at hfin
              have hTx := fun w => hTn w 2 n hok
              rw [hcn] at hC
              have HC := Lib.hid hC
              have HTx := Lib.hid hTx
              have Hfin := Lib.hid hfin
              clear hC hTx hfin hT hTn hTy hidd hcn hsp hall0 hkd hnm hrest h58 hok
              go_wp2_with fail
              rw [← Hrest.out]
              refine (HC.out w0).mono ?_
              rintro e w1 ⟨rfl, rfl⟩
              unfold cntV
              go_wp2_with fail
              try rw [← Hnm.out]
              refine (HTx.out _).mono ?_
              rintro e w3 ⟨rfl, hb3⟩
              have hx3 := (hb3.block w.heap.size (by simp; omega)).trans ((Below.heap_alloc _ _ _ hl0).trans hx0)
              have hy3 := (hb3.block w0.heap.size (by simp)).trans (heap_new _ _)
              have HB3 := Lib.hid ((HB0.out.alloc HB0.out.size _).trans (hb3.mono (HB0.out.alloc HB0.out.size _).size))
              have hl3 := lt_row hx3
              have hm3 := lt_row hy3
              obtain ⟨hc3, hf3⟩ := row_facts hx3
              obtain ⟨hd3, hg3⟩ := row_facts hy3
              clear hb3 hc0 hf0
              go_wp2
              obtain ⟨W4, hW4⟩ : ∃ W4, W4 = set3 w3 w.heap.size (.int .u8 0) (.string ByteArray.empty) (.int .i64 0) := ⟨_, rfl⟩
              obtain ⟨⟨k0, k1, k2⟩, HB4⟩ := fin3 hx3 HB3.out (.int .u8 0) (.string ByteArray.empty) (.int .i64 0) W4 hW4
              change bodyPost _ _ _ _ _ (set3 w3 w.heap.size (.int .u8 0) (.string ByteArray.empty) (.int .i64 0))
              rw [← hW4]
              refine bodyPost_ret (v := .tuple #[.agg #[.int .u8 0, .string ByteArray.empty, .int .i64 0], .int .i64 6]) (by simp [results, Tryd.results17, go_sem, k0, k1, k2]) rfl ⟨?_, HB4⟩
              rw [Hfin.out]
              rfl
            · by_cases heq : textOf ⟨2, bl nm, n⟩ = bl s
              · have hfin := parse_some_cnt (c := s[0]) hall0 hcn
                rw [← hsp] at hfin
                rw [hkd] at hfin
                rw [if_pos ⟨hok, heq⟩] at hfin
                have hTx := fun w => hTy w 2 n hok
                rw [hidd, heq, bsOf_bl] at hTx
                have hres : Ending.returned (.tuple #[.agg #[.int .u8 2, .string nm, .int .i64 n], .int .i64 0]) = Ending.returned (readV (some ⟨2, bl nm, n⟩)) := by simp only [readV, bsOf_bl]
                have Hres := Lib.hid hres
                clear hres
                rw [hcn] at hC
                have HC := Lib.hid hC
                have HTx := Lib.hid hTx
                have Hfin := Lib.hid hfin
                clear hC hTx hfin hT hTn hTy hidd hcn hsp hall0 hkd hnm hrest h58 hok heq
                go_wp2_with fail
                rw [← Hrest.out]
                refine (HC.out w0).mono ?_
                rintro e w1 ⟨rfl, rfl⟩
                unfold cntV
                go_wp2_with fail
                try rw [← Hnm.out]
                refine (HTx.out _).mono ?_
                rintro e w3 ⟨rfl, hb3⟩
                have hx3 := (hb3.block w.heap.size (by simp; omega)).trans ((Below.heap_alloc _ _ _ hl0).trans hx0)
                have hy3 := (hb3.block w0.heap.size (by simp)).trans (heap_new _ _)
                have HB3 := Lib.hid ((HB0.out.alloc HB0.out.size _).trans (hb3.mono (HB0.out.alloc HB0.out.size _).size))
                have hl3 := lt_row hx3
                have hm3 := lt_row hy3
                obtain ⟨hc3, hf3⟩ := row_facts hx3
                obtain ⟨hd3, hg3⟩ := row_facts hy3
                clear hb3 hc0 hf0
                go_wp2
                obtain ⟨W4, hW4⟩ : ∃ W4, W4 = set3 w3 w.heap.size (.int .u8 2) (.string nm) (.int .i64 n) := ⟨_, rfl⟩
                obtain ⟨⟨k0, k1, k2⟩, HB4⟩ := fin3 hx3 HB3.out (.int .u8 2) (.string nm) (.int .i64 n) W4 hW4
                change bodyPost _ _ _ _ _ (set3 w3 w.heap.size (.int .u8 2) (.string nm) (.int .i64 n))
                rw [← hW4]
                refine bodyPost_ret (v := .tuple #[.agg #[.int .u8 2, .string nm, .int .i64 n], .int .i64 0]) (by simp [results, Tryd.results17, go_sem, k0, k1, k2]) rfl ⟨?_, HB4⟩
                rw [Hfin.out]
                rw [Hres.out]
              · have hne : textOf ⟨2, bl nm, n⟩ ≠ bl s := heq
                clear heq
                have hfin := parse_some_cnt (c := s[0]) hall0 hcn
                rw [← hsp] at hfin
                rw [hkd] at hfin
                rw [if_neg (fun h => hne h.2)] at hfin
                have hTx := fun w => hTy w 2 n hok
                rw [hidd] at hTx
                obtain ⟨T, hTT⟩ : ∃ T, T = bsOf (textOf ⟨2, bl nm, n⟩) := ⟨_, rfl⟩
                rw [← hTT] at hTx
                have hTne : (T.toList == s.toList) = false := str_ne (fun h => hne (by rw [← h, hTT, bl_bsOf]))
                rw [hcn] at hC
                have HC := Lib.hid hC
                have HTx := Lib.hid hTx
                have Hfin := Lib.hid hfin
                clear hC hTx hfin hT hTn hTy hidd hcn hsp hall0 hkd hnm hrest h58 hok hne hTT
                go_wp2_with fail
                rw [← Hrest.out]
                refine (HC.out w0).mono ?_
                rintro e w1 ⟨rfl, rfl⟩
                unfold cntV
                go_wp2_with fail
                try rw [← Hnm.out]
                refine (HTx.out _).mono ?_
                rintro e w3 ⟨rfl, hb3⟩
                have hx3 := (hb3.block w.heap.size (by simp; omega)).trans ((Below.heap_alloc _ _ _ hl0).trans hx0)
                have hy3 := (hb3.block w0.heap.size (by simp)).trans (heap_new _ _)
                have HB3 := Lib.hid ((HB0.out.alloc HB0.out.size _).trans (hb3.mono (HB0.out.alloc HB0.out.size _).size))
                have hl3 := lt_row hx3
                have hm3 := lt_row hy3
                obtain ⟨hc3, hf3⟩ := row_facts hx3
                obtain ⟨hd3, hg3⟩ := row_facts hy3
                clear hb3 hc0 hf0
                go_wp2
                obtain ⟨W4, hW4⟩ : ∃ W4, W4 = set3 w3 w.heap.size (.int .u8 0) (.string ByteArray.empty) (.int .i64 0) := ⟨_, rfl⟩
                obtain ⟨⟨k0, k1, k2⟩, HB4⟩ := fin3 hx3 HB3.out (.int .u8 0) (.string ByteArray.empty) (.int .i64 0) W4 hW4
                change bodyPost _ _ _ _ _ (set3 w3 w.heap.size (.int .u8 0) (.string ByteArray.empty) (.int .i64 0))
                rw [← hW4]
                refine bodyPost_ret (v := .tuple #[.agg #[.int .u8 0, .string ByteArray.empty, .int .i64 0], .int .i64 6]) (by simp [results, Tryd.results17, go_sem, k0, k1, k2]) rfl ⟨?_, HB4⟩
                rw [Hfin.out]
                rfl
        · cases hcn : cnt (bl rest) with
          | none =>
            have hfin := parse_none_cnt (c := s[0]) hall0 hcn
            rw [← hsp] at hfin
            have hTx := fun w => hT w 1 0
            rw [hcn] at hC
            have HC := Lib.hid hC
            have HTx := Lib.hid hTx
            have Hfin := Lib.hid hfin
            clear hC hTx hfin hT hTn hTy hidd hcn hsp hall0 hkd hnm hrest h58
            go_wp2_with fail
            rw [← Hrest.out]
            refine (HC.out w0).mono ?_
            rintro e w1 ⟨rfl, rfl⟩
            unfold cntV
            go_wp2_with fail
            try rw [← Hnm.out]
            refine (HTx.out _).mono ?_
            rintro e w3 ⟨⟨T, y, rfl⟩, hb3⟩
            have hx3 := (hb3.block w.heap.size (by simp; omega)).trans ((Below.heap_alloc _ _ _ hl0).trans hx0)
            have hy3 := (hb3.block w0.heap.size (by simp)).trans (heap_new _ _)
            have HB3 := Lib.hid ((HB0.out.alloc HB0.out.size _).trans (hb3.mono (HB0.out.alloc HB0.out.size _).size))
            have hl3 := lt_row hx3
            have hm3 := lt_row hy3
            obtain ⟨hc3, hf3⟩ := row_facts hx3
            obtain ⟨hd3, hg3⟩ := row_facts hy3
            clear hb3 hc0 hf0
            go_wp2
            obtain ⟨W4, hW4⟩ : ∃ W4, W4 = set3 w3 w.heap.size (.int .u8 0) (.string ByteArray.empty) (.int .i64 0) := ⟨_, rfl⟩
            obtain ⟨⟨k0, k1, k2⟩, HB4⟩ := fin3 hx3 HB3.out (.int .u8 0) (.string ByteArray.empty) (.int .i64 0) W4 hW4
            change bodyPost _ _ _ _ _ (set3 w3 w.heap.size (.int .u8 0) (.string ByteArray.empty) (.int .i64 0))
            rw [← hW4]
            refine bodyPost_ret (v := .tuple #[.agg #[.int .u8 0, .string ByteArray.empty, .int .i64 0], .int .i64 6]) (by simp [results, Tryd.results17, go_sem, k0, k1, k2]) rfl ⟨?_, HB4⟩
            rw [Hfin.out]
            rfl
          | some n =>
            have hn63 := (cnt_spec hcn).1
            cases hok : okB ⟨1, bl nm, n⟩
            · have hfin := parse_some_cnt (c := s[0]) hall0 hcn
              rw [← hsp] at hfin
              rw [hkd] at hfin
              rw [if_neg (fun h => by rw [hok] at h; cases h.1)] at hfin
              have hTx := fun w => hTn w 1 n hok
              rw [hcn] at hC
              have HC := Lib.hid hC
              have HTx := Lib.hid hTx
              have Hfin := Lib.hid hfin
              clear hC hTx hfin hT hTn hTy hidd hcn hsp hall0 hkd hnm hrest h58 hok
              go_wp2_with fail
              rw [← Hrest.out]
              refine (HC.out w0).mono ?_
              rintro e w1 ⟨rfl, rfl⟩
              unfold cntV
              go_wp2_with fail
              try rw [← Hnm.out]
              refine (HTx.out _).mono ?_
              rintro e w3 ⟨rfl, hb3⟩
              have hx3 := (hb3.block w.heap.size (by simp; omega)).trans ((Below.heap_alloc _ _ _ hl0).trans hx0)
              have hy3 := (hb3.block w0.heap.size (by simp)).trans (heap_new _ _)
              have HB3 := Lib.hid ((HB0.out.alloc HB0.out.size _).trans (hb3.mono (HB0.out.alloc HB0.out.size _).size))
              have hl3 := lt_row hx3
              have hm3 := lt_row hy3
              obtain ⟨hc3, hf3⟩ := row_facts hx3
              obtain ⟨hd3, hg3⟩ := row_facts hy3
              clear hb3 hc0 hf0
              go_wp2
              obtain ⟨W4, hW4⟩ : ∃ W4, W4 = set3 w3 w.heap.size (.int .u8 0) (.string ByteArray.empty) (.int .i64 0) := ⟨_, rfl⟩
              obtain ⟨⟨k0, k1, k2⟩, HB4⟩ := fin3 hx3 HB3.out (.int .u8 0) (.string ByteArray.empty) (.int .i64 0) W4 hW4
              change bodyPost _ _ _ _ _ (set3 w3 w.heap.size (.int .u8 0) (.string ByteArray.empty) (.int .i64 0))
              rw [← hW4]
              refine bodyPost_ret (v := .tuple #[.agg #[.int .u8 0, .string ByteArray.empty, .int .i64 0], .int .i64 6]) (by simp [results, Tryd.results17, go_sem, k0, k1, k2]) rfl ⟨?_, HB4⟩
              rw [Hfin.out]
              rfl
            · by_cases heq : textOf ⟨1, bl nm, n⟩ = bl s
              · have hfin := parse_some_cnt (c := s[0]) hall0 hcn
                rw [← hsp] at hfin
                rw [hkd] at hfin
                rw [if_pos ⟨hok, heq⟩] at hfin
                have hTx := fun w => hTy w 1 n hok
                rw [hidd, heq, bsOf_bl] at hTx
                have hres : Ending.returned (.tuple #[.agg #[.int .u8 1, .string nm, .int .i64 n], .int .i64 0]) = Ending.returned (readV (some ⟨1, bl nm, n⟩)) := by simp only [readV, bsOf_bl]
                have Hres := Lib.hid hres
                clear hres
                rw [hcn] at hC
                have HC := Lib.hid hC
                have HTx := Lib.hid hTx
                have Hfin := Lib.hid hfin
                clear hC hTx hfin hT hTn hTy hidd hcn hsp hall0 hkd hnm hrest h58 hok heq
                go_wp2_with fail
                rw [← Hrest.out]
                refine (HC.out w0).mono ?_
                rintro e w1 ⟨rfl, rfl⟩
                unfold cntV
                go_wp2_with fail
                try rw [← Hnm.out]
                refine (HTx.out _).mono ?_
                rintro e w3 ⟨rfl, hb3⟩
                have hx3 := (hb3.block w.heap.size (by simp; omega)).trans ((Below.heap_alloc _ _ _ hl0).trans hx0)
                have hy3 := (hb3.block w0.heap.size (by simp)).trans (heap_new _ _)
                have HB3 := Lib.hid ((HB0.out.alloc HB0.out.size _).trans (hb3.mono (HB0.out.alloc HB0.out.size _).size))
                have hl3 := lt_row hx3
                have hm3 := lt_row hy3
                obtain ⟨hc3, hf3⟩ := row_facts hx3
                obtain ⟨hd3, hg3⟩ := row_facts hy3
                clear hb3 hc0 hf0
                go_wp2
                obtain ⟨W4, hW4⟩ : ∃ W4, W4 = set3 w3 w.heap.size (.int .u8 1) (.string nm) (.int .i64 n) := ⟨_, rfl⟩
                obtain ⟨⟨k0, k1, k2⟩, HB4⟩ := fin3 hx3 HB3.out (.int .u8 1) (.string nm) (.int .i64 n) W4 hW4
                change bodyPost _ _ _ _ _ (set3 w3 w.heap.size (.int .u8 1) (.string nm) (.int .i64 n))
                rw [← hW4]
                refine bodyPost_ret (v := .tuple #[.agg #[.int .u8 1, .string nm, .int .i64 n], .int .i64 0]) (by simp [results, Tryd.results17, go_sem, k0, k1, k2]) rfl ⟨?_, HB4⟩
                rw [Hfin.out]
                rw [Hres.out]
              · have hne : textOf ⟨1, bl nm, n⟩ ≠ bl s := heq
                clear heq
                have hfin := parse_some_cnt (c := s[0]) hall0 hcn
                rw [← hsp] at hfin
                rw [hkd] at hfin
                rw [if_neg (fun h => hne h.2)] at hfin
                have hTx := fun w => hTy w 1 n hok
                rw [hidd] at hTx
                obtain ⟨T, hTT⟩ : ∃ T, T = bsOf (textOf ⟨1, bl nm, n⟩) := ⟨_, rfl⟩
                rw [← hTT] at hTx
                have hTne : (T.toList == s.toList) = false := str_ne (fun h => hne (by rw [← h, hTT, bl_bsOf]))
                rw [hcn] at hC
                have HC := Lib.hid hC
                have HTx := Lib.hid hTx
                have Hfin := Lib.hid hfin
                clear hC hTx hfin hT hTn hTy hidd hcn hsp hall0 hkd hnm hrest h58 hok hne hTT
                go_wp2_with fail
                rw [← Hrest.out]
                refine (HC.out w0).mono ?_
                rintro e w1 ⟨rfl, rfl⟩
                unfold cntV
                go_wp2_with fail
                try rw [← Hnm.out]
                refine (HTx.out _).mono ?_
                rintro e w3 ⟨rfl, hb3⟩
                have hx3 := (hb3.block w.heap.size (by simp; omega)).trans ((Below.heap_alloc _ _ _ hl0).trans hx0)
                have hy3 := (hb3.block w0.heap.size (by simp)).trans (heap_new _ _)
                have HB3 := Lib.hid ((HB0.out.alloc HB0.out.size _).trans (hb3.mono (HB0.out.alloc HB0.out.size _).size))
                have hl3 := lt_row hx3
                have hm3 := lt_row hy3
                obtain ⟨hc3, hf3⟩ := row_facts hx3
                obtain ⟨hd3, hg3⟩ := row_facts hy3
                clear hb3 hc0 hf0
                go_wp2
                obtain ⟨W4, hW4⟩ : ∃ W4, W4 = set3 w3 w.heap.size (.int .u8 0) (.string ByteArray.empty) (.int .i64 0) := ⟨_, rfl⟩
                obtain ⟨⟨k0, k1, k2⟩, HB4⟩ := fin3 hx3 HB3.out (.int .u8 0) (.string ByteArray.empty) (.int .i64 0) W4 hW4
                change bodyPost _ _ _ _ _ (set3 w3 w.heap.size (.int .u8 0) (.string ByteArray.empty) (.int .i64 0))
                rw [← hW4]
                refine bodyPost_ret (v := .tuple #[.agg #[.int .u8 0, .string ByteArray.empty, .int .i64 0], .int .i64 6]) (by simp [results, Tryd.results17, go_sem, k0, k1, k2]) rfl ⟨?_, HB4⟩
                rw [Hfin.out]
                rfl
      · have hb58 : (((s[k]).toNat : Int) != 58) = true := by
          simp only [bne_iff_ne]
          intro h
          apply h58
          apply UInt8.toNat_inj.1
          show (s[k]).toNat = 58
          omega
        have hnx : ∀ d ∈ bl (s.extract 1 (k + 1)), d ≠ 58 := by
          intro d hd
          have hg : ((bl s).drop 1)[k - 1]? = some s[k] := by
            rw [List.getElem?_drop, show 1 + (k - 1) = k by omega]
            exact bl_get s k hlt
          rw [bl_extract, show k + 1 - 1 = (k - 1) + 1 by omega, List.take_add_one, hg, List.mem_append] at hd
          rcases hd with hd | hd
          · exact Hall.out d (by rw [bl_extract]; exact hd)
          · simp only [Option.toList_some, List.mem_singleton] at hd
            rw [hd]
            exact h58
        have Hnx := Lib.hid hnx
        clear hsp hnx
        go_wp2
        go_round
        case rel => exact ⟨k + 1, by go_num, by omega, .inl (by omega), Hnx.out⟩
        case measure => simp [intOf]; omega
    · have hfin : IdentS.parse (bl s) = none := by
        refine parse_colon fun c hc => Hall.out c ?_
        rw [bl_extract, List.take_of_length_le (by rw [List.length_drop, bl_length]; omega)]
        exact hc
      have Hfin := Lib.hid hfin
      clear hfin
      have hx3 := hx0
      have HB3 := HB0
      go_wp2
      obtain ⟨W4, hW4⟩ : ∃ W4, W4 = set3 w0 w.heap.size (.int .u8 0) (.string ByteArray.empty) (.int .i64 0) := ⟨_, rfl⟩
      obtain ⟨⟨k0, k1, k2⟩, HB4⟩ := fin3 hx3 HB3.out (.int .u8 0) (.string ByteArray.empty) (.int .i64 0) W4 hW4
      change bodyPost _ _ _ _ _ (set3 w0 w.heap.size (.int .u8 0) (.string ByteArray.empty) (.int .i64 0))
      rw [← hW4]
      refine bodyPost_ret (v := .tuple #[.agg #[.int .u8 0, .string ByteArray.empty, .int .i64 0], .int .i64 6]) (by simp [results, Tryd.results17, go_sem, k0, k1, k2]) rfl ⟨?_, HB4⟩
      rw [Hfin.out]
      rfl

end Go.Proofs.YtfodloepkgkilaaDoor.RefP
