/-
  WHAT IS PROVED: what the document's own answers on octets are. Condition: what each theorem names.
-/
import Derived.Test.YtdmonfimdinkeaaGreatDoorOct
namespace Go.Proofs.YtdmonfimdinkeaaGreatDoor.Ref1S
open Go.Proofs.YtdmonfimdinkeaaGreatDoor Go.Proofs.YtdmonfimdinkeaaGreatDoor.OctetS

theorem getF_short : ∀ (f i n : Nat) (s : List UInt8), (∀ c ∈ s, 128 ≤ c.toNat) → s.length < f → getF f i n s = (0, 0, 5)
  | 0, _, _, _, _, h => by omega
  | f + 1, i, n, [], _, _ => by simp [getF]
  | f + 1, i, n, b :: r, ha, h => by
    rw [getF, if_pos (ha b (List.mem_cons_self ..))]
    exact getF_short f _ _ r (fun c hc => ha c (List.mem_cons_of_mem _ hc)) (by simp only [List.length_cons] at h; omega)
theorem getF_code : ∀ (f i n : Nat) (s : List UInt8), (∀ c ∈ s.take f, 128 ≤ c.toNat) → f ≤ s.length → getF f i n s = (0, 0, 6)
  | 0, _, _, _, _, _ => by simp [getF]
  | f + 1, i, n, [], _, h => by simp at h
  | f + 1, i, n, b :: r, ha, h => by
    rw [List.take_succ_cons] at ha
    rw [getF, if_pos (ha b (List.mem_cons_self ..))]
    exact getF_code f _ _ r (fun c hc => ha c (List.mem_cons_of_mem _ hc)) (by simp only [List.length_cons] at h; omega)
theorem getF_not_short : ∀ (f i n : Nat) (a : List UInt8) (b : UInt8) (r : List UInt8), (∀ c ∈ a, 128 ≤ c.toNat) → b.toNat < 128 → (getF f i n (a ++ b :: r)).2.2 ≠ 5
  | 0, _, _, _, _, _, _, _ => by simp [getF]
  | f + 1, i, n, [], b, r, _, hb => by
    rw [List.nil_append, getF, if_neg (by omega)]
    split <;> simp
  | f + 1, i, n, c :: a, b, r, ha, hb => by
    rw [List.cons_append, getF, if_pos (ha c (List.mem_cons_self ..))]
    exact getF_not_short f _ _ a b r (fun d hd => ha d (List.mem_cons_of_mem _ hd)) hb

/-- The first bytes that are a number's end with the first byte below 128. -/
theorem end_take : ∀ (first : Bool) (u : Nat) (a : List UInt8) (b : UInt8) (r : List UInt8), (∀ c ∈ a, 128 ≤ c.toNat) → b.toNat < 128 → endB first ((a ++ b :: r).take u) = true → (a ++ b :: r).take u = a ++ [b]
  | first, 0, a, b, r, _, _, h => by simp [endB] at h
  | first, u + 1, [], b, r, _, hb, h => by
    rw [List.nil_append, List.take_succ_cons, endB, if_pos hb] at h
    simp only [Bool.and_eq_true, List.isEmpty_iff] at h
    rw [List.nil_append, List.take_succ_cons, h.1]
    rfl
  | first, u + 1, c :: a, b, r, ha, hb, h => by
    rw [List.cons_append, List.take_succ_cons, endB, if_neg (by have := ha c (List.mem_cons_self ..); omega)] at h
    rw [List.cons_append, List.take_succ_cons, end_take false u a b r (fun d hd => ha d (List.mem_cons_of_mem _ hd)) hb h]
    rfl

/-- What the document's own answer is: a is ahead of the first byte below 128. -/
theorem getNum_ref {a : List UInt8} {b : UInt8} {r : List UInt8} (ha : ∀ c ∈ a, 128 ≤ c.toNat) (hb : b.toNat < 128) :
    getNum (a ++ b :: r) = if val (a ++ [b]) ≤ maxNum ∧ num (val (a ++ [b])) = a ++ [b] then (val (a ++ [b]), a.length + 1, 0) else (0, 0, 6) := by
  split
  · rename_i h
    obtain ⟨h1, h2⟩ := h
    have := getNum_num h1 r
    rw [h2] at this
    rw [show a ++ b :: r = a ++ [b] ++ r by simp, this]
    simp
  · rename_i h
    rcases getNum_why (a ++ b :: r) with h0 | h0 | h0
    · exfalso
      obtain ⟨n, u, y, hg⟩ : ∃ n u y, getNum (a ++ b :: r) = (n, u, y) := ⟨_, _, _, rfl⟩
      rw [hg] at h0
      simp only at h0
      subst h0
      obtain ⟨_, _, _, h4, h5⟩ := getNum_ok hg
      obtain ⟨e1, e2⟩ := num_end (n := n) (Nat.lt_of_le_of_lt h5 (by decide))
      have h6 := end_take true u a b r ha hb (by rw [← h4]; exact e1)
      rw [h6] at h4
      apply h
      rw [← h4, e2]
      exact ⟨h5, rfl⟩
    · exfalso
      have := getF_not_short 7 0 0 a b r ha hb
      unfold getNum at h0
      rw [h0] at this
      exact this rfl
    · exact h0
theorem getNum_short {s : List UInt8} (ha : ∀ c ∈ s, 128 ≤ c.toNat) (h : s.length < 7) : getNum s = (0, 0, 5) := getF_short 7 0 0 s ha h
theorem getNum_code {s : List UInt8} (ha : ∀ c ∈ s.take 7, 128 ≤ c.toNat) (h : 7 ≤ s.length) : getNum s = (0, 0, 6) := getF_code 7 0 0 s ha h

theorem val_snoc (l : List UInt8) (b : UInt8) : val (l ++ [b]) = val l + 128 ^ l.length * (b.toNat % 128) := by
  induction l with
  | nil => simp [val]
  | cons c l ih =>
    rw [List.cons_append, val, val, ih, List.length_cons, Nat.pow_succ, Nat.mul_add]
    have : 128 * (128 ^ l.length * (b.toNat % 128)) = 128 ^ l.length * 128 * (b.toNat % 128) := by
      rw [← Nat.mul_assoc, Nat.mul_comm 128]
    omega
theorem val_lt : ∀ (l : List UInt8), val l < 128 ^ l.length
  | [] => by simp [val]
  | b :: r => by
    have := val_lt r
    rw [val, List.length_cons, Nat.pow_succ]
    have : b.toNat % 128 < 128 := Nat.mod_lt _ (by omega)
    omega

end Go.Proofs.YtdmonfimdinkeaaGreatDoor.Ref1S

namespace Go.Proofs.YtdmonfimdinkeaaGreatDoor.Ref1N
open Go Go.RowKit Go.Proofs.YtdmonfimdinkeaaGreatDoor Go.Proofs.YtdmonfimdinkeaaGreatDoor.OctetS Go.Proofs.YtdmonfimdinkeaaGreatDoor.OctP Go.Proofs.YtdmonfimdinkeaaGreatDoor.OctQ Go.Proofs.YtdmonfimdinkeaaGreatDoor.Ref1S
set_option linter.unusedVariables false
set_option linter.unusedSimpArgs false

theorem sl_one (w : World) (u : Value) (t : TypeId) : Sl (w.alloc (.cells #[u] t)) (.slice (some ⟨w.heap.size, 0, none⟩) 1 1) 1 1 [u] := by
  refine ⟨by simp, .inr ⟨⟨w.heap.size, 0, none⟩, 1, rfl, Nat.le_refl _, by decide, fun j v hv => ?_⟩⟩
  have h := heap_new w (.cells #[u] t)
  rw [show (Addr.add ⟨w.heap.size, 0, none⟩ j : Addr) = ⟨w.heap.size, j, none⟩ by unfold Addr.add; cases j <;> simp]
  rw [cell_row h]
  simpa using hv

theorem bsOf_append (a b : List UInt8) : bsOf a ++ bsOf b = bsOf (a ++ b) := by
  refine bl_inj ?_
  rw [bl_bsOf]
  simp [bl, bsOf]

theorem Num_no (w : World) (n : Nat) (hn : maxNum < n) :
    Calls Tryz.prog 42 #[.int .u64 n] w fun e w' => e = .returned (.tuple #[.string ByteArray.empty, .int .i64 1]) ∧ w = w' := by
  unfold maxNum at hn
  go_enter Tryz.func42, Tryz.ntmps42
  go_wp2
  go_ret2
  exact ⟨rfl, rfl⟩

set_option maxHeartbeats 1000000 in
theorem Num_ok (w : World) (n : Nat) (hn : n ≤ maxNum) :
    Calls Tryz.prog 42 #[.int .u64 n] w fun e w' => e = .returned (.tuple #[.string (bsOf (num n)), .int .i64 0]) ∧ Below w.heap.size w w' := by
  unfold maxNum at hn
  obtain ⟨N, hN⟩ : ∃ N : Int, N = n := ⟨_, rfl⟩
  rw [← hN]
  have hNn : ¬ 281474976710656 < N := by omega
  have HN := Lib.hid hN
  have Hn := Lib.hid hn
  clear hN hn
  go_enter Tryz.func42, Tryz.ntmps42
  go_wp2
  go_loopw [0, 4] (fun x y wr => ∃ (M : Int) (m f : Nat) (acc : List UInt8), x = .int .u64 M ∧ M = m ∧ y = .string (bsOf acc) ∧ acc ++ numF f m = num n ∧ m < 128 ^ (f + 1) ∧ m ≤ 281474976710656 ∧ acc.length + f = 9 ∧ Below w.heap.size w wr) (fun x _ _ => (intOf x).toNat)
  case atStart => exact ⟨N, n, 9, [], rfl, HN.out, rfl, rfl, by have := Hn.out; omega, Hn.out, rfl, Below.refl _ _⟩
  case round =>
    obtain ⟨M, m, f, acc, rfl, hM, rfl, heq, hm1, hm2, hlen, hb⟩ := hrel
    obtain ⟨A, hA⟩ : ∃ A, A = bsOf acc := ⟨_, rfl⟩
    have hAz : A.size ≤ 9 := by rw [hA, size_bsOf]; omega
    rw [← hA]
    have hM0 : 0 ≤ M := by omega
    have hM1 : M < 9223372036854775808 := by omega
    have HM := Lib.hid hM
    have HA := Lib.hid hA
    have Heq := Lib.hid heq
    have HB := Lib.hid hb
    have Hm1 := Lib.hid hm1
    have Hm2 := Lib.hid hm2
    clear hA heq hb hm1 hm2
    by_cases h : 128 ≤ M
    · obtain ⟨bb, hbb⟩ : ∃ bb, bb = UInt8.ofNat (m % 128 + 128) := ⟨_, rfl⟩
      have hbn : (bb.toNat : Int) = M % 128 + 128 := by rw [hbb, toNat_ofNat (by omega)]; omega
      clear hM
      have hcv := run_text' (wr.alloc (.cells #[.int .u8 (M % 128 + 128)] 5)) 66 9 5 Tryz.underlying66 Tryz.underlying5 Tryz.underlying9 (.slice (some ⟨wr.heap.size, 0, none⟩) 1 1) [bb] (by
        have := sl_one wr (.int .u8 (M % 128 + 128)) 5
        unfold byV
        simpa [hbn] using this)
      obtain ⟨B, hB⟩ : ∃ B, B = bsOf [bb] := ⟨_, rfl⟩
      have hBz : B.size = 1 := by rw [hB, size_bsOf]; rfl
      rw [← hB] at hcv
      have HBB := Lib.hid hB
      have Hbb := Lib.hid hbb
      clear hB hbb hbn
      go_wp2
      go_roundw
      case rel =>
        have hf := Hm1.out
        have hMm := HM.out
        cases f with
        | zero => omega
        | succ f =>
          refine ⟨M / 128, m / 128, f, acc ++ [bb], rfl, by omega, by rw [HA.out, HBB.out, bsOf_append], ?_, ?_, by have := Hm2.out; omega, by simp; omega, HB.out.alloc HB.out.size _⟩
          · rw [← Heq.out, numF, if_neg (by omega), Hbb.out]
            simp
          · rw [Nat.pow_succ] at hf
            exact Nat.div_lt_of_lt_mul (by rw [Nat.mul_comm]; exact hf)
      case measure => simp [intOf]; omega
    · obtain ⟨bb, hbb⟩ : ∃ bb, bb = UInt8.ofNat m := ⟨_, rfl⟩
      have hbn : (bb.toNat : Int) = M := by rw [hbb, toNat_ofNat (by omega)]; omega
      clear hM
      have hcv := run_text' (wr.alloc (.cells #[.int .u8 M] 5)) 66 9 5 Tryz.underlying66 Tryz.underlying5 Tryz.underlying9 (.slice (some ⟨wr.heap.size, 0, none⟩) 1 1) [bb] (by
        have := sl_one wr (.int .u8 M) 5
        unfold byV
        simpa [hbn] using this)
      obtain ⟨B, hB⟩ : ∃ B, B = bsOf [bb] := ⟨_, rfl⟩
      have hBz : B.size = 1 := by rw [hB, size_bsOf]; rfl
      rw [← hB] at hcv
      have HBB := Lib.hid hB
      have Hnum : Hid (acc ++ [bb] = num n) := by
        refine Lib.hid ?_
        have hMm := HM.out
        rw [← Heq.out, hbb]
        cases f with
        | zero => rfl
        | succ f => rw [numF, if_pos (by omega)]
      clear hB hbb hbn
      go_wp2
      go_ret2
      refine ⟨?_, HB.out.alloc HB.out.size _⟩
      rw [← Hnum.out, ← bsOf_append, ← HA.out, ← HBB.out]
      rfl

end Go.Proofs.YtdmonfimdinkeaaGreatDoor.Ref1N

namespace Go.Proofs.YtdmonfimdinkeaaGreatDoor.Ref1G
open Go Go.RowKit Go.Proofs.YtdmonfimdinkeaaGreatDoor Go.Proofs.YtdmonfimdinkeaaGreatDoor.OctetS Go.Proofs.YtdmonfimdinkeaaGreatDoor.OctP Go.Proofs.YtdmonfimdinkeaaGreatDoor.OctQ Go.Proofs.YtdmonfimdinkeaaGreatDoor.Ref1S Go.Proofs.YtdmonfimdinkeaaGreatDoor.Ref1N
set_option linter.unusedVariables false
set_option linter.unusedSimpArgs false

def numV (g : Nat × Nat × Int) : Value := .tuple #[.int .u64 g.1, .int .i64 g.2.1, .int .i64 g.2.2]

set_option maxRecDepth 100000 in
set_option maxHeartbeats 1000000 in
theorem GetNum_ok (w : World) (s : ByteArray) (hs : s.size ≤ maxLen) :
    Calls Tryz.prog 73 #[.string s] w fun e w' => e = .returned (numV (getNum (bl s))) ∧ Below w.heap.size w w' := by
  unfold maxLen at hs
  go_enter Tryz.func73, Tryz.ntmps73
  go_wp2
  go_loop [5, 6, 7] (fun x y i => ∃ (k : Nat) (N U : Int), i = .int .i64 k ∧ x = .int .u64 N ∧ y = .int .u64 U ∧ N = (val ((bl s).take k) : Nat) ∧ U = (128 ^ k : Nat) ∧ k ≤ s.size ∧ k ≤ 7 ∧ ∀ c ∈ (bl s).take k, 128 ≤ c.toNat) (fun x y i => s.size - (intOf i).toNat)
  case atStart => exact ⟨0, 0, 1, rfl, rfl, rfl, rfl, rfl, by omega, by omega, fun c hc => by simp at hc⟩
  case round =>
    obtain ⟨k, N, U, rfl, rfl, rfl, hN, hU, hk, hk7, hall⟩ := hrel
    have Hall := Lib.hid hall
    have hN0 : 0 ≤ N := by omega
    have hp7 : 128 ^ k ≤ 128 ^ 7 := Nat.pow_le_pow_right (by omega) hk7
    have hp1 : 1 ≤ 128 ^ k := Nat.one_le_pow _ _ (by omega)
    have hp8 : (128 : Nat) ^ 7 = 562949953421312 := by decide
    have hvl := val_lt ((bl s).take k)
    rw [List.length_take, bl_length, Nat.min_eq_left hk] at hvl
    have hN1 : N < 562949953421312 := by omega
    have hU0 : 1 ≤ U := by omega
    have hU1 : U ≤ 562949953421312 := by omega
    clear hp7 hp1 hp8 hvl
    have HN := Lib.hid hN
    have HU := Lib.hid hU
    clear hall hN hU
    by_cases hlt : k < s.size
    · by_cases h7 : k = 7
      · subst h7
        have hfin : getNum (bl s) = (0, 0, 6) := getNum_code Hall.out (by rw [bl_length]; omega)
        have Hfin := Lib.hid hfin
        clear hfin
        go_wp2
        go_ret3
        exact ⟨by rw [Hfin.out]; rfl, Below.refl _ _⟩
      · have hp0 : 0 ≤ ((s[k]).toNat : Int) % 128 * U := Int.mul_nonneg (by omega) (by omega)
        have hp1 : ((s[k]).toNat : Int) % 128 * U ≤ 127 * 562949953421312 := Int.mul_le_mul (by omega) hU1 (by omega) (by omega)
        have hk2 : k < (bl s).length := by rw [bl_length]; exact hlt
        have hg := bl_get s k hlt
        have htk : (bl s).take (k + 1) = (bl s).take k ++ [s[k]] := by
          rw [List.getElem?_eq_getElem hk2] at hg
          rw [List.take_succ_eq_append_getElem hk2, Option.some.inj hg]
          rfl
        have hvs : N + ((s[k]).toNat : Int) % 128 * U = (val ((bl s).take (k + 1)) : Nat) := by
          rw [htk, val_snoc, List.length_take, bl_length, Nat.min_eq_left (by omega), HN.out, HU.out, Nat.mul_comm]
          push_cast
          rfl
        have Htk := Lib.hid htk
        have Hvs := Lib.hid hvs
        clear htk hvs hg
        by_cases hb : 128 ≤ (s[k]).toNat
        · go_wp2
          go_round
          case rel =>
            refine ⟨k + 1, N + ((s[k]).toNat : Int) % 128 * U, U * 128, by go_num, rfl, rfl, Hvs.out, ?_, by omega, by omega, ?_⟩
            · rw [HU.out, Nat.pow_succ]
              push_cast
              rfl
            · intro c hc
              rw [Htk.out, List.mem_append] at hc
              rcases hc with hc | hc
              · exact Hall.out c hc
              · simp only [List.mem_singleton] at hc
                rw [hc]
                exact hb
          case measure => simp [intOf]; omega
        · have hsp : bl s = (bl s).take k ++ s[k] :: (bl s).drop (k + 1) := by
            have := (List.take_append_drop k (bl s)).symm
            rw [bl_drop s k hlt] at this
            exact this
          have hfin := getNum_ref (r := (bl s).drop (k + 1)) Hall.out (show (s[k]).toNat < 128 by omega)
          rw [← hsp, ← Htk.out] at hfin
          obtain ⟨m, hm⟩ : ∃ m, m = val ((bl s).take (k + 1)) := ⟨_, rfl⟩
          have hMm : N + ((s[k]).toNat : Int) % 128 * U = (m : Int) := by rw [Hvs.out, hm]
          rw [← hm] at hfin
          have hex : bl (s.extract 0 (k + 1)) = (bl s).take (k + 1) := by rw [bl_extract]; rfl
          have hlen : ((bl s).take k).length + 1 = k + 1 := by rw [List.length_take, bl_length]; omega
          rw [hlen] at hfin
          by_cases hmx : m ≤ maxNum
          · have hNum : ∀ w, Calls Tryz.prog 42 #[.int .u64 (N + ((s[k]).toNat : Int) % 128 * U)] w fun e w' => e = .returned (.tuple #[.string (bsOf (num m)), .int .i64 0]) ∧ Below w.heap.size w w' := fun w => by
              rw [hMm]
              exact Num_ok w m hmx
            obtain ⟨T, hT⟩ : ∃ T, T = bsOf (num m) := ⟨_, rfl⟩
            rw [← hT] at hNum
            have HNum := Lib.hid hNum
            by_cases he : num m = (bl s).take (k + 1)
            · rw [if_pos ⟨hmx, he⟩] at hfin
              have hTe : T = s.extract 0 (k + 1) := by rw [hT, he, ← hex, bsOf_bl]
              have hres : numV (m, k + 1, 0) = .tuple #[.int .u64 (N + ((s[k]).toNat : Int) % 128 * U), .int .i64 ((k : Int) + 1), .int .i64 0] := by
                unfold numV
                simp only
                rw [hMm]
                rfl
              have Hfin := Lib.hid hfin
              have Hres := Lib.hid hres
              clear hNum hT he hfin hm hMm hres hex hsp hlen hmx
              subst hTe
              go_wp2_with fail
              refine (HNum.out _).mono ?_
              rintro e w' ⟨rfl, hb'⟩
              have HB := Lib.hid hb'
              clear hb'
              go_wp2
              go_ret3
              exact ⟨by rw [Hfin.out, Hres.out]; rfl, HB.out⟩
            · rw [if_neg (fun h => he h.2)] at hfin
              have hne := str_ne (s := T) (t := s.extract 0 (k + 1)) (fun h => he (by rw [← hex, ← h, hT, bl_bsOf]))
              have Hfin := Lib.hid hfin
              clear hNum hT he hfin hm hMm hex hsp hlen hmx
              go_wp2_with fail
              refine (HNum.out _).mono ?_
              rintro e w' ⟨rfl, hb'⟩
              have HB := Lib.hid hb'
              clear hb'
              go_wp2
              go_ret3
              exact ⟨by rw [Hfin.out]; rfl, HB.out⟩
          · have hNum : ∀ w, Calls Tryz.prog 42 #[.int .u64 (N + ((s[k]).toNat : Int) % 128 * U)] w fun e w' => e = .returned (.tuple #[.string ByteArray.empty, .int .i64 1]) ∧ w = w' := fun w => by
              rw [hMm]
              exact Num_no w m (by omega)
            have HNum := Lib.hid hNum
            rw [if_neg (fun h => hmx h.1)] at hfin
            have Hfin := Lib.hid hfin
            clear hNum hfin hm hMm hex hsp hlen hmx
            go_wp2_with fail
            refine (HNum.out _).mono ?_
            rintro e w' ⟨rfl, rfl⟩
            go_wp2
            go_ret3
            exact ⟨by rw [Hfin.out]; rfl, Below.refl _ _⟩
    · have hkz : k = s.size := by omega
      subst hkz
      rw [List.take_of_length_le (by rw [bl_length]; omega)] at Hall
      by_cases h7 : s.size = 7
      · have hfin : getNum (bl s) = (0, 0, 6) := getNum_code (fun c hc => Hall.out c (List.mem_of_mem_take hc)) (by rw [bl_length]; omega)
        have Hfin := Lib.hid hfin
        clear hfin
        go_wp2
        go_ret3
        exact ⟨by rw [Hfin.out]; rfl, Below.refl _ _⟩
      · have hfin : getNum (bl s) = (0, 0, 5) := getNum_short Hall.out (by rw [bl_length]; omega)
        have Hfin := Lib.hid hfin
        clear hfin
        go_wp2
        go_ret3
        exact ⟨by rw [Hfin.out]; rfl, Below.refl _ _⟩

end Go.Proofs.YtdmonfimdinkeaaGreatDoor.Ref1G

namespace Go.Proofs.YtdmonfimdinkeaaGreatDoor.Ref1T
open Go Go.RowKit Go.Proofs.YtdmonfimdinkeaaGreatDoor Go.Proofs.YtdmonfimdinkeaaGreatDoor.OctetS Go.Proofs.YtdmonfimdinkeaaGreatDoor.OctP Go.Proofs.YtdmonfimdinkeaaGreatDoor.OctQ Go.Proofs.YtdmonfimdinkeaaGreatDoor.Ref1S Go.Proofs.YtdmonfimdinkeaaGreatDoor.Ref1N Go.Proofs.YtdmonfimdinkeaaGreatDoor.Ref1G
set_option linter.unusedVariables false
set_option linter.unusedSimpArgs false

theorem Text_no (w : World) (s : ByteArray) (hs : s.size ≤ maxLen) (h : 8192 < s.size) :
    Calls Tryz.prog 69 #[.string s] w fun e w' => e = .returned (.tuple #[.string ByteArray.empty, .int .i64 7]) ∧ w = w' := by
  unfold maxLen at hs
  go_enter Tryz.func69, Tryz.ntmps69
  go_wp2
  go_ret2
  exact ⟨rfl, rfl⟩

theorem Text_ok (w : World) (s : ByteArray) (h : s.size ≤ 8192) :
    Calls Tryz.prog 69 #[.string s] w fun e w' => e = .returned (.tuple #[.string (bsOf (text (bl s))), .int .i64 0]) ∧ Below w.heap.size w w' := by
  have hN := fun w => Ref1N.Num_ok w s.size (by unfold maxNum; omega)
  obtain ⟨T, hT⟩ : ∃ T, T = bsOf (num s.size) := ⟨_, rfl⟩
  have hz : T.size ≤ 2 := by rw [hT, size_bsOf]; exact num_length2 h
  have hcat : T ++ s = bsOf (text (bl s)) := by
    refine bl_inj ?_
    rw [bl_bsOf, text, bl_length, hT]
    simp [bl, bsOf]
  rw [← hT] at hN
  have HN := Lib.hid hN
  have Hcat := Lib.hid hcat
  clear hN hcat hT
  go_enter Tryz.func69, Tryz.ntmps69
  go_wp2_with fail
  refine (HN.out w).mono ?_
  rintro e w' ⟨rfl, hb⟩
  have HB := Lib.hid hb
  clear hb
  go_wp2
  go_ret2
  exact ⟨by rw [← Hcat.out]; rfl, HB.out⟩

def textV (t : List UInt8 × Nat × Int) : Value := .tuple #[.string (bsOf t.1), .int .i64 t.2.1, .int .i64 t.2.2]

set_option maxRecDepth 100000 in
set_option maxHeartbeats 1000000 in
theorem GetText_ok (w : World) (s : ByteArray) (hs : s.size ≤ maxLen) :
    Calls Tryz.prog 95 #[.string s] w fun e w' => e = .returned (textV (getText (bl s))) ∧ Below w.heap.size w w' := by
  have hG := Ref1G.GetNum_ok w s hs
  unfold maxLen at hs
  obtain ⟨n, u, y, hg⟩ : ∃ n u y, getNum (bl s) = (n, u, y) := ⟨_, _, _, rfl⟩
  rw [hg] at hG
  unfold numV at hG
  simp only at hG
  by_cases hy : y = 0
  · subst hy
    obtain ⟨hu1, hu7, hul, _, hmax⟩ := getNum_ok hg
    unfold maxNum at hmax
    rw [bl_length] at hul
    obtain ⟨N, hN⟩ : ∃ N : Int, N = n := ⟨_, rfl⟩
    rw [← hN] at hG
    by_cases h8 : n ≤ 8192
    · have hN8 : N ≤ 8192 := by omega
      have hN0 : 0 ≤ N := by omega
      have HN := Lib.hid hN
      by_cases he : u + n ≤ s.size
      · have hfin : getText (bl s) = (((bl s).drop u).take n, u + n, 0) := by
          unfold getText
          rw [hg]
          simp only
          rw [if_neg (by simp), if_neg (by omega), if_neg (by rw [bl_length]; omega)]
        have hx : bl (s.extract u (u + n)) = ((bl s).drop u).take n := by
          rw [bl_extract, show u + n - u = n by omega]
        have hle : (u : Int) + N ≤ s.size := by omega
        have ht : ((u : Int) + N).toNat = u + n := by omega
        have hres : textV (((bl s).drop u).take n, u + n, 0) = .tuple #[.string (s.extract u (u + n)), .int .i64 ((u : Int) + N), .int .i64 0] := by
          unfold textV
          simp only
          rw [← hx, bsOf_bl, hN]
          rfl
        have Hres := Lib.hid hres
        clear hres hx hN
        have Hfin := Lib.hid hfin
        have HG := Lib.hid hG
        clear hfin hG hg
        go_enter Tryz.func95, Tryz.ntmps95
        go_wp2_with fail
        refine HG.out.mono ?_
        rintro e w' ⟨rfl, hb⟩
        have HB := Lib.hid hb
        clear hb
        go_wp2
        go_ret3
        exact ⟨by rw [Hfin.out]; rw [Hres.out]; rfl, HB.out⟩
      · have hfin : getText (bl s) = ([], 0, 5) := by
          unfold getText
          rw [hg]
          simp only
          rw [if_neg (by simp), if_neg (by omega), if_pos (by rw [bl_length]; omega)]
        have hle : (s.size : Int) < (u : Int) + N := by omega
        clear hN
        have Hfin := Lib.hid hfin
        have HG := Lib.hid hG
        clear hfin hG hg
        go_enter Tryz.func95, Tryz.ntmps95
        go_wp2_with fail
        refine HG.out.mono ?_
        rintro e w' ⟨rfl, hb⟩
        have HB := Lib.hid hb
        clear hb
        go_wp2
        go_ret3
        exact ⟨by rw [Hfin.out]; rfl, HB.out⟩
    · have hfin : getText (bl s) = ([], 0, 7) := by
        unfold getText
        rw [hg]
        simp only
        rw [if_neg (by simp), if_pos (by omega)]
      have hN8 : 8192 < N := by omega
      clear hN
      have Hfin := Lib.hid hfin
      have HG := Lib.hid hG
      clear hfin hG hg
      go_enter Tryz.func95, Tryz.ntmps95
      go_wp2_with fail
      refine HG.out.mono ?_
      rintro e w' ⟨rfl, hb⟩
      have HB := Lib.hid hb
      clear hb
      go_wp2
      go_ret3
      exact ⟨by rw [Hfin.out]; rfl, HB.out⟩
  · have hfin : getText (bl s) = ([], 0, y) := by
      unfold getText
      rw [hg]
      exact if_pos hy
    have hyb : (y != 0) = true := by simp [hy]
    have Hfin := Lib.hid hfin
    have HG := Lib.hid hG
    clear hfin hG hg
    go_enter Tryz.func95, Tryz.ntmps95
    go_wp2_with fail
    refine HG.out.mono ?_
    rintro e w' ⟨rfl, hb⟩
    have HB := Lib.hid hb
    clear hb
    go_wp2
    go_ret3
    exact ⟨by rw [Hfin.out]; rfl, HB.out⟩

end Go.Proofs.YtdmonfimdinkeaaGreatDoor.Ref1T

namespace Go.Proofs.YtdmonfimdinkeaaGreatDoor.Ref1L
open Go Go.RowKit Go.Proofs.YtdmonfimdinkeaaGreatDoor Go.Proofs.YtdmonfimdinkeaaGreatDoor.OctetS Go.Proofs.YtdmonfimdinkeaaGreatDoor.OctP Go.Proofs.YtdmonfimdinkeaaGreatDoor.OctQ Go.Proofs.YtdmonfimdinkeaaGreatDoor.Ref1N
set_option linter.unusedVariables false
set_option linter.unusedSimpArgs false

set_option maxRecDepth 100000 in
set_option maxHeartbeats 1000000 in
theorem List_ok (w : World) (v : Value) (l : List ByteArray) (h : Rd w v l) (hf : fits (l.map bl) = true) :
    Calls Tryz.prog 43 #[v] w fun e w' => e = .returned (.tuple #[.string (bsOf (OctetS.list (l.map bl))), .int .i64 0]) ∧ Below w.heap.size w w' := by
  obtain ⟨hf1, hf2⟩ := fits_iff.1 hf
  rw [List.length_map] at hf1
  have hN := Ref1N.Num_ok w l.length (by unfold maxNum; omega)
  obtain ⟨a, cap, rfl, hcap, hm⟩ := h.form
  have Hf2 := Lib.hid hf2
  have H := Lib.hid h
  have HN := Lib.hid hN
  clear h hf hf2 hN
  go_enter Tryz.func43, Tryz.ntmps43
  go_wp2_with fail
  refine HN.out.mono ?_
  rintro e w1 ⟨rfl, hb⟩
  have HB := Lib.hid hb
  clear hb
  go_wp2
  go_loopw [4, 22] (fun y i wr => ∃ (lb : List UInt8) (k : Nat), y = .string (bsOf lb) ∧ i = .int .i64 k ∧ k ≤ l.length ∧ Below w.heap.size w wr ∧ lb = num l.length ++ ((l.map bl).take k).flatMap text ∧ lb.length ≤ 7 + k * 8200) (fun _ i _ => l.length - (intOf i).toNat)
  case atStart => exact ⟨num l.length, 0, rfl, rfl, by omega, HB.out, by simp, by have := num_length (n := l.length) (by unfold maxNum; omega); omega⟩
  case round =>
    obtain ⟨lb, k, rfl, rfl, hk, hb, hlb, hlen⟩ := hrel
    obtain ⟨A, hA⟩ : ∃ A, A = bsOf lb := ⟨_, rfl⟩
    have hAz : A.size ≤ 7 + k * 8200 := by rw [hA, size_bsOf]; omega
    rw [← hA]
    have HA := Lib.hid hA
    have HB2 := Lib.hid hb
    have Hlb := Lib.hid hlb
    clear hA hb hlb
    by_cases hlt : k < l.length
    · obtain ⟨b, off, rfl, hbl, hcell⟩ := H.out.plain (by rw [strV_length]; omega)
      have hc : wr.cell? ⟨b, off + k, none⟩ = some (.string l[k]) := by
        rw [HB2.out.cell (p := ⟨b, off + k, none⟩) hbl]
        exact hcell k _ (by simp [strV, hlt])
      have hl8 : l[k].size ≤ 8192 := by
        have := Hf2.out (bl l[k]) (List.mem_map.2 ⟨l[k], List.getElem_mem hlt, rfl⟩)
        rwa [bl_length] at this
      have Hcell := Lib.hid hcell
      clear hcell
      have hT := Ref1T.Text_ok wr l[k] hl8
      obtain ⟨T, hTT⟩ : ∃ T, T = bsOf (text (bl l[k])) := ⟨_, rfl⟩
      have hTz : T.size ≤ 8194 := by
        have hn1 : (num l[k].size).length ≤ 2 := num_length2 hl8
        rw [hTT, size_bsOf, text, List.length_append, bl_length]
        omega
      rw [← hTT] at hT
      have HT := Lib.hid hT
      have HTT := Lib.hid hTT
      clear hT hTT
      go_wp2_with fail
      refine HT.out.mono ?_
      rintro e w2 ⟨rfl, hb⟩
      have HB3 := Lib.hid (HB2.out.trans (hb.mono HB2.out.size))
      clear hb
      go_wp2
      go_roundw
      case rel =>
        refine ⟨lb ++ text (bl l[k]), k + 1, by rw [HA.out, HTT.out, bsOf_append], by go_num, by omega, HB3.out, ?_, ?_⟩
        · rw [Hlb.out, List.take_succ_eq_append_getElem (by simpa using hlt)]
          simp [List.append_assoc]
        · have : (text (bl l[k])).length = T.size := by rw [HTT.out, size_bsOf]
          rw [List.length_append]
          omega
      case measure => simp [intOf]; omega
    · obtain rfl : k = l.length := by omega
      go_wp2
      go_ret2
      refine ⟨?_, HB2.out⟩
      rw [HA.out, Hlb.out, OctetS.list, List.length_map, List.take_of_length_le (by simp)]
      rfl

end Go.Proofs.YtdmonfimdinkeaaGreatDoor.Ref1L
