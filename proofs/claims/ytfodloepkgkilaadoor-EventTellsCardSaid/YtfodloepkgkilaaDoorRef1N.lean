/-
  WHAT IS PROVED: what the document's own answer on a number's bytes is. Condition: the number is not greater than the theorem says.
-/
import Derived.Test.YtfodloepkgkilaaDoorOctQ
import Derived.Test.YtfodloepkgkilaaDoorRef1S
namespace Go.Proofs.YtfodloepkgkilaaDoor.Ref1N
open Go Go.RowKit Go.Proofs.YtfodloepkgkilaaDoor Go.Proofs.YtfodloepkgkilaaDoor.OctetS Go.Proofs.YtfodloepkgkilaaDoor.OctP Go.Proofs.YtfodloepkgkilaaDoor.OctQ Go.Proofs.YtfodloepkgkilaaDoor.Ref1S
set_option linter.unusedVariables false

theorem sl_one (w : World) (u : Value) (t : TypeId) : Sl (w.alloc (.cells #[u] t)) (.slice (some ⟨w.heap.size, 0, none⟩) 1 1) 1 1 [u] := by
  refine ⟨by simp, .inr ⟨⟨w.heap.size, 0, none⟩, 1, rfl, Nat.le_refl _, by decide, fun j v hv => ?_⟩⟩
  have h := heap_new w (.cells #[u] t)
  rw [show (Addr.add ⟨w.heap.size, 0, none⟩ j : Addr) = ⟨w.heap.size, j, none⟩ by unfold Addr.add; cases j <;> simp]
  rw [cell_row h]
  simpa using hv

theorem bsOf_append (a b : List UInt8) : bsOf a ++ bsOf b = bsOf (a ++ b) := by
  refine bl_inj ?_
  rw [bl_bsOf]
  simp [bl, bsOf]

theorem Num_no (w : World) (n : Nat) (hn : maxNum < n) :
    Calls Tryd.prog 73 #[.int .u64 n] w fun e w' => e = .returned (.tuple #[.string ByteArray.empty, .int .i64 1]) ∧ w = w' := by
  unfold maxNum at hn
  go_enter Tryd.func73, Tryd.ntmps73
  go_wp2
  go_ret2
  exact ⟨rfl, rfl⟩

set_option maxHeartbeats 1000000 in
theorem Num_ok (w : World) (n : Nat) (hn : n ≤ maxNum) :
    Calls Tryd.prog 73 #[.int .u64 n] w fun e w' => e = .returned (.tuple #[.string (bsOf (num n)), .int .i64 0]) ∧ Below w.heap.size w w' := by
  unfold maxNum at hn
  obtain ⟨N, hN⟩ : ∃ N : Int, N = n := ⟨_, rfl⟩
  rw [← hN]
  have hNn : ¬ 281474976710656 < N := by omega
  have HN := Lib.hid hN
  have Hn := Lib.hid hn
  clear hN hn
  go_enter Tryd.func73, Tryd.ntmps73
  go_wp2
  go_loopw [0, 4] (fun x y wr => ∃ (M : Int) (m f : Nat) (acc : List UInt8), x = .int .u64 M ∧ M = m ∧ y = .string (bsOf acc) ∧ acc ++ numF f m = num n ∧ m < 128 ^ (f + 1) ∧ m ≤ 281474976710656 ∧ acc.length + f = 9 ∧ Below w.heap.size w wr) (fun x _ _ => (intOf x).toNat)
  case atStart => exact ⟨N, n, 9, [], rfl, HN.out, rfl, rfl, by have := Hn.out; omega, Hn.out, rfl, Below.refl _ _⟩
  case round =>
    obtain ⟨M, m, f, acc, rfl, hM, rfl, heq, hm1, hm2, hlen, hb⟩ := hrel
    obtain ⟨A, hA⟩ : ∃ A, A = bsOf acc := ⟨_, rfl⟩
    have hAz : A.size ≤ 9 := by rw [hA, size_bsOf]; omega
    rw [← hA]
    have hM0 : 0 ≤ M := by omega
    have hM1 : M < 9223372036854775808 := by omega
    have HM := Lib.hid hM
    have HA := Lib.hid hA
    have Heq := Lib.hid heq
    have HB := Lib.hid hb
    have Hm1 := Lib.hid hm1
    have Hm2 := Lib.hid hm2
    clear hA heq hb hm1 hm2
    by_cases h : 128 ≤ M
    · obtain ⟨bb, hbb⟩ : ∃ bb, bb = UInt8.ofNat (m % 128 + 128) := ⟨_, rfl⟩
      have hbn : (bb.toNat : Int) = M % 128 + 128 := by rw [hbb, toNat_ofNat (by omega)]; omega
      clear hM
      have hcv := run_text' (wr.alloc (.cells #[.int .u8 (M % 128 + 128)] 5)) 69 9 5 Tryd.underlying69 Tryd.underlying5 Tryd.underlying9 (.slice (some ⟨wr.heap.size, 0, none⟩) 1 1) [bb] (by
        have := sl_one wr (.int .u8 (M % 128 + 128)) 5
        unfold byV
        simpa [hbn] using this)
      obtain ⟨B, hB⟩ : ∃ B, B = bsOf [bb] := ⟨_, rfl⟩
      have hBz : B.size = 1 := by rw [hB, size_bsOf]; rfl
      rw [← hB] at hcv
      have HBB := Lib.hid hB
      have Hbb := Lib.hid hbb
      clear hB hbb hbn
      go_wp2
      go_roundw
      case rel =>
        have hf := Hm1.out
        have hMm := HM.out
        cases f with
        | zero => omega
        | succ f =>
          refine ⟨M / 128, m / 128, f, acc ++ [bb], rfl, by omega, by rw [HA.out, HBB.out, bsOf_append], ?_, ?_, by have := Hm2.out; omega, by simp; omega, HB.out.alloc HB.out.size _⟩
          · rw [← Heq.out, numF, if_neg (by omega), Hbb.out]
            simp
          · rw [Nat.pow_succ] at hf
            exact Nat.div_lt_of_lt_mul (by rw [Nat.mul_comm]; exact hf)
      case measure => simp [intOf]; omega
    · obtain ⟨bb, hbb⟩ : ∃ bb, bb = UInt8.ofNat m := ⟨_, rfl⟩
      have hbn : (bb.toNat : Int) = M := by rw [hbb, toNat_ofNat (by omega)]; omega
      clear hM
      have hcv := run_text' (wr.alloc (.cells #[.int .u8 M] 5)) 69 9 5 Tryd.underlying69 Tryd.underlying5 Tryd.underlying9 (.slice (some ⟨wr.heap.size, 0, none⟩) 1 1) [bb] (by
        have := sl_one wr (.int .u8 M) 5
        unfold byV
        simpa [hbn] using this)
      obtain ⟨B, hB⟩ : ∃ B, B = bsOf [bb] := ⟨_, rfl⟩
      have hBz : B.size = 1 := by rw [hB, size_bsOf]; rfl
      rw [← hB] at hcv
      have HBB := Lib.hid hB
      have Hnum : Hid (acc ++ [bb] = num n) := by
        refine Lib.hid ?_
        have hMm := HM.out
        rw [← Heq.out, hbb]
        cases f with
        | zero => rfl
        | succ f => rw [numF, if_pos (by omega)]
      clear hB hbb hbn
      go_wp2
      go_ret2
      refine ⟨?_, HB.out.alloc HB.out.size _⟩
      rw [← Hnum.out, ← bsOf_append, ← HA.out, ← HBB.out]
      rfl

end Go.Proofs.YtfodloepkgkilaaDoor.Ref1N
