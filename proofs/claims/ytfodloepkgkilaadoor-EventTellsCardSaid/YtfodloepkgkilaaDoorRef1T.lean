/-
  WHAT IS PROVED: what the document's own answers on a text's bytes are. Condition: the bytes are not longer than each theorem says.
-/
import Derived.Test.YtfodloepkgkilaaDoorRef1G
namespace Go.Proofs.YtfodloepkgkilaaDoor.Ref1T
open Go Go.RowKit Go.Proofs.YtfodloepkgkilaaDoor Go.Proofs.YtfodloepkgkilaaDoor.OctetS Go.Proofs.YtfodloepkgkilaaDoor.OctP Go.Proofs.YtfodloepkgkilaaDoor.OctQ Go.Proofs.YtfodloepkgkilaaDoor.Ref1S Go.Proofs.YtfodloepkgkilaaDoor.Ref1N Go.Proofs.YtfodloepkgkilaaDoor.Ref1G
set_option linter.unusedVariables false

theorem Text_no (w : World) (s : ByteArray) (hs : s.size ≤ maxLen) (h : 8192 < s.size) :
    Calls Tryd.prog 101 #[.string s] w fun e w' => e = .returned (.tuple #[.string ByteArray.empty, .int .i64 7]) ∧ w = w' := by
  unfold maxLen at hs
  go_enter Tryd.func101, Tryd.ntmps101
  go_wp2
  go_ret2
  exact ⟨rfl, rfl⟩

theorem Text_ok (w : World) (s : ByteArray) (h : s.size ≤ 8192) :
    Calls Tryd.prog 101 #[.string s] w fun e w' => e = .returned (.tuple #[.string (bsOf (text (bl s))), .int .i64 0]) ∧ Below w.heap.size w w' := by
  have hN := fun w => Ref1N.Num_ok w s.size (by unfold maxNum; omega)
  obtain ⟨T, hT⟩ : ∃ T, T = bsOf (num s.size) := ⟨_, rfl⟩
  have hz : T.size ≤ 2 := by rw [hT, size_bsOf]; exact num_length2 h
  have hcat : T ++ s = bsOf (text (bl s)) := by
    refine bl_inj ?_
    rw [bl_bsOf, text, bl_length, hT]
    simp [bl, bsOf]
  rw [← hT] at hN
  have HN := Lib.hid hN
  have Hcat := Lib.hid hcat
  clear hN hcat hT
  go_enter Tryd.func101, Tryd.ntmps101
  go_wp2_with fail
  refine (HN.out w).mono ?_
  rintro e w' ⟨rfl, hb⟩
  have HB := Lib.hid hb
  clear hb
  go_wp2
  go_ret2
  exact ⟨by rw [← Hcat.out]; rfl, HB.out⟩

def textV (t : List UInt8 × Nat × Int) : Value := .tuple #[.string (bsOf t.1), .int .i64 t.2.1, .int .i64 t.2.2]

set_option maxRecDepth 100000 in
set_option maxHeartbeats 1000000 in
theorem GetText_ok (w : World) (s : ByteArray) (hs : s.size ≤ maxLen) :
    Calls Tryd.prog 117 #[.string s] w fun e w' => e = .returned (textV (getText (bl s))) ∧ Below w.heap.size w w' := by
  have hG := Ref1G.GetNum_ok w s hs
  unfold maxLen at hs
  obtain ⟨n, u, y, hg⟩ : ∃ n u y, getNum (bl s) = (n, u, y) := ⟨_, _, _, rfl⟩
  rw [hg] at hG
  unfold numV at hG
  simp only at hG
  by_cases hy : y = 0
  · subst hy
    obtain ⟨hu1, hu7, hul, _, hmax⟩ := getNum_ok hg
    unfold maxNum at hmax
    rw [bl_length] at hul
    obtain ⟨N, hN⟩ : ∃ N : Int, N = n := ⟨_, rfl⟩
    rw [← hN] at hG
    by_cases h8 : n ≤ 8192
    · have hN8 : N ≤ 8192 := by omega
      have hN0 : 0 ≤ N := by omega
      have HN := Lib.hid hN
      by_cases he : u + n ≤ s.size
      · have hfin : getText (bl s) = (((bl s).drop u).take n, u + n, 0) := by
          unfold getText
          rw [hg]
          simp only
          rw [if_neg (by simp), if_neg (by omega), if_neg (by rw [bl_length]; omega)]
        have hx : bl (s.extract u (u + n)) = ((bl s).drop u).take n := by
          rw [bl_extract, show u + n - u = n by omega]
        have hle : (u : Int) + N ≤ s.size := by omega
        have ht : ((u : Int) + N).toNat = u + n := by omega
        have hres : textV (((bl s).drop u).take n, u + n, 0) = .tuple #[.string (s.extract u (u + n)), .int .i64 ((u : Int) + N), .int .i64 0] := by
          unfold textV
          simp only
          rw [← hx, bsOf_bl, hN]
          rfl
        have Hres := Lib.hid hres
        clear hres hx hN
        have Hfin := Lib.hid hfin
        have HG := Lib.hid hG
        clear hfin hG hg
        go_enter Tryd.func117, Tryd.ntmps117
        go_wp2_with fail
        refine HG.out.mono ?_
        rintro e w' ⟨rfl, hb⟩
        have HB := Lib.hid hb
        clear hb
        go_wp2
        go_ret3
        exact ⟨by rw [Hfin.out]; rw [Hres.out]; rfl, HB.out⟩
      · have hfin : getText (bl s) = ([], 0, 5) := by
          unfold getText
          rw [hg]
          simp only
          rw [if_neg (by simp), if_neg (by omega), if_pos (by rw [bl_length]; omega)]
        have hle : (s.size : Int) < (u : Int) + N := by omega
        clear hN
        have Hfin := Lib.hid hfin
        have HG := Lib.hid hG
        clear hfin hG hg
        go_enter Tryd.func117, Tryd.ntmps117
        go_wp2_with fail
        refine HG.out.mono ?_
        rintro e w' ⟨rfl, hb⟩
        have HB := Lib.hid hb
        clear hb
        go_wp2
        go_ret3
        exact ⟨by rw [Hfin.out]; rfl, HB.out⟩
    · have hfin : getText (bl s) = ([], 0, 7) := by
        unfold getText
        rw [hg]
        simp only
        rw [if_neg (by simp), if_pos (by omega)]
      have hN8 : 8192 < N := by omega
      clear hN
      have Hfin := Lib.hid hfin
      have HG := Lib.hid hG
      clear hfin hG hg
      go_enter Tryd.func117, Tryd.ntmps117
      go_wp2_with fail
      refine HG.out.mono ?_
      rintro e w' ⟨rfl, hb⟩
      have HB := Lib.hid hb
      clear hb
      go_wp2
      go_ret3
      exact ⟨by rw [Hfin.out]; rfl, HB.out⟩
  · have hfin : getText (bl s) = ([], 0, y) := by
      unfold getText
      rw [hg]
      exact if_pos hy
    have hyb : (y != 0) = true := by simp [hy]
    have Hfin := Lib.hid hfin
    have HG := Lib.hid hG
    clear hfin hG hg
    go_enter Tryd.func117, Tryd.ntmps117
    go_wp2_with fail
    refine HG.out.mono ?_
    rintro e w' ⟨rfl, hb⟩
    have HB := Lib.hid hb
    clear hb
    go_wp2
    go_ret3
    exact ⟨by rw [Hfin.out]; rfl, HB.out⟩

end Go.Proofs.YtfodloepkgkilaaDoor.Ref1T
