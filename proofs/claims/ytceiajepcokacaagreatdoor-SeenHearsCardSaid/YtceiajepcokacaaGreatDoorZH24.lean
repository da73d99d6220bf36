/-
  WHAT IS PROVED: contracts and plain laws. Condition: each names its own.
-/
import Derived.Test.YtceiajepcokacaaGreatDoorS0
import Derived.Test.YtceiajepcokacaaGreatDoorZH23
set_option linter.unusedVariables false
set_option linter.unusedSimpArgs false
set_option maxRecDepth 100000
set_option maxHeartbeats 4000000
namespace Go.Proofs.YtceiajepcokacaaGreatDoor
open Go.Proofs.Tryz
namespace RefI
open Go Go.RowKit IdentS IdentP
theorem EJ (a b : List UInt8) : bsOf a ++ bsOf b = bsOf (a ++ b) := by
 refine JG ?_
 rw [AV]
 simp [bl, bsOf]
theorem JP : ∀ n : Fin 10, (⟨#[48, 49, 50, 51, 52, 53, 54, 55, 56, 57]⟩ : ByteArray).extract n.val (n.val + 1) = bsOf (digits n.val) := by decide +kernel
theorem FV (w : World) (n : Nat) (hn : n < 10) : Calls Tryz.prog 140 #[.int .i64 n] w fun e w' => e = .returned (.string (bsOf (digits n))) ∧ w = w' := by
 have h := JP ⟨n, hn⟩
 simp only at h
 have H := lh h
 clear h
 go_enter func140, ntmps140
 go_wp2
 go_ret
 exact ⟨by rw [← H.out]; rfl, rfl⟩
theorem Jl : ∀ n : Fin 100, 10 ≤ n.val → digits (n.val / 10) ++ digits (n.val % 10) = digits n.val := by decide
theorem JN (w : World) (n : Nat) (hn : n < 100) : Calls Tryz.prog 140 #[.int .i64 n] w fun e w' => e = .returned (.string (bsOf (digits n))) ∧ w = w' := by
 by_cases h : n < 10
 ·exact FV w n h
 ·have h2 := Jl ⟨n, hn⟩ (by simpa using h)
  simp only at h2
  have hb : bsOf (digits (n / 10)) ++ bsOf (digits (n % 10)) = bsOf (digits n) := by
   rw [← h2]
   exact EJ _ _
  have a1 := FV w (n / 10) (by omega)
  have a2 := FV w (n % 10) (by omega)
  obtain ⟨d1, hd1⟩ := nXe (bsOf (digits (n / 10)))
  obtain ⟨d2, hd2⟩ := nXe (bsOf (digits (n % 10)))
  have z1 : d1.size ≤ 2 := by rw [hd1, AY]; unfold digits; split <;> simp
  have z2 : d2.size ≤ 2 := by rw [hd2, AY]; unfold digits; split <;> simp
  rw [← hd1] at a1
  rw [← hd2] at a2
  rw [← hd1, ← hd2] at hb
  have e1 : ((n / 10 : Nat) : Int) = (n : Int) / 10 := by omega
  have e2 : ((n % 10 : Nat) : Int) = (n : Int) % 10 := by omega
  rw [e1] at a1
  rw [e2] at a2
  obtain ⟨A1, A2, Hb⟩ := l3h a1 a2 hb
  clear a1 a2 hb h2 hd1 hd2
  go_enter func140, ntmps140
  go_wp2_with fail
  refine A1.out.mono ?_
  rintro e w' ⟨rfl, rfl⟩
  go_wp2_with fail
  refine A2.out.mono ?_
  rintro e w' ⟨rfl, rfl⟩
  go_wp2
  go_ret
  exact ⟨by rw [← Hb.out]; rfl, rfl⟩
theorem letter_ok (w : World) (c : UInt8) : Calls Tryz.prog 152 #[.int .u8 c.toNat] w fun e w' => e = .returned (.bool (Dh c)) ∧ w = w' := by
 have hc := c.toNat_lt
 have hL : Dh c = true ↔ ((97 ≤ (c.toNat : Int) ∧ (c.toNat : Int) ≤ 122) ∨ (48 ≤ (c.toNat : Int) ∧ (c.toNat : Int) ≤ 57) ∨ (c.toNat : Int) = 95 ∨ (c.toNat : Int) = 45) := by
  unfold Dh
  simp only [Bool.or_eq_true, decide_eq_true_eq]
  omega
 have HL := lh hL
 clear hL
 go_enter func152, ntmps152
 go_wp2
 all_goals
  go_ret
  refine ⟨?_, rfl⟩
  show Ending.returned (.bool _) = Ending.returned (.bool _)
  congr 2
  rw [Bool.eq_iff_iff, HL.out]
  simp only [Bool.or_eq_true, decide_eq_true_eq, beq_iff_eq, Bool.false_or, Bool.true_or, true_iff, iff_true, Bool.false_eq_true, false_iff]
  omega
theorem GL (w : World) (s : ByteArray) (hs : s.size ≤ maxLen) : Calls Tryz.prog 141 #[.string s] w fun e w' => e = .returned (.bool (DJ (bl s))) ∧ w = w' := by
 unfold maxLen at hs
 go_enter func141, ntmps141
 go_wp2
 go_loop [3] (fun i => ∃ k : Nat, i = .int .i64 k ∧ k ≤ s.size ∧ ((bl s).take k).all Dh = true) (fun i => s.size - (intOf i).toNat)
 case atStart => exact ⟨0, rfl, by omega, rfl⟩
 case round =>
  obtain ⟨k, rfl, hk, hall⟩ := hrel
  have Hall := lh hall
  clear hall
  by_cases hlt : k < s.size
  ·have hd := Dv s k hlt
   have Hd := lh hd
   clear hd
   go_wp2_with fail
   refine (letter_ok w s[k]).mono ?_
   rintro e w' ⟨rfl, rfl⟩
   cases hl : Dh s[k]
   ·have hno : DJ (bl s) = false := by
     unfold DJ
     rw [← List.take_append_drop k (bl s), Hd.out, List.all_append, List.all_cons, hl]
     simp
    obtain ⟨Hno, Hl⟩ := l2h hno hl
    clear hno hl
    go_wp2
    go_ret
    exact ⟨by rw [Hno.out]; rfl, rfl⟩
   ·have Hl := lh hl
    clear hl
    go_wp2
    go_round
    case rel =>
     refine ⟨k + 1, by go_num, by omega, ?_⟩
     have hk2 : k < (bl s).length := by rw [AP]; exact hlt
     have hg := bl_get s k hlt
     rw [List.getElem?_eq_getElem hk2] at hg
     rw [List.take_succ_eq_append_getElem hk2, List.all_append, Hall.out, Option.some.inj hg]
     simp [Hl.out]
    case measure => simp [intOf]; omega
  ·obtain rfl : k = s.size := by omega
   rw [List.take_of_length_le (by rw [AP]; omega)] at Hall
   have hfin : DJ (bl s) = (decide (1 ≤ s.size) && decide (s.size ≤ 16)) := by
        unfold DJ
        rw [Hall.out, AP]
        have : (bl s).isEmpty = decide (s.size = 0) := by
         rw [← AP]
         cases bl s <;> simp
        rw [this]
        rw [Bool.eq_iff_iff]
        simp only [Bool.and_eq_true, Bool.true_and, Bool.not_eq_true', decide_eq_true_eq, decide_eq_false_iff_not]
        omega
   have Hfin := lh hfin
   clear hfin
   by_cases h1 : 1 ≤ s.size <;> by_cases h16 : s.size ≤ 16
   all_goals first | omega | skip
   all_goals
        go_wp2
        go_ret
        exact ⟨by rw [Hfin.out]; simp [h16, h1] <;> (try omega), rfl⟩
end RefI
namespace RefC
open Go Go.RowKit IdentS IdentP RefI
def cnt (s : List UInt8) : Option Nat := if numOf s ≤ 63 ∧ digits (numOf s) = s then some (numOf s) else none
theorem JU : ∀ n : Fin 64, ∀ c ∈ digits n.val, 48 ≤ c.toNat ∧ c.toNat ≤ 57 := by decide
theorem Jf : ∀ n : Fin 64, ∀ k : Fin 3, numOf ((digits n.val).take k.val) ≤ 63 := by decide
theorem Jy : ∀ n : Fin 64, (digits n.val).length ≤ 2 ∧ 1 ≤ (digits n.val).length := by decide
theorem IX {s : List UInt8} {n : Nat} (h : cnt s = some n) : n ≤ 63 ∧ digits n = s := by
 unfold cnt at h
 split at h
 ·rename_i hc
  simp only [Option.some.injEq] at h
  subst h
  exact hc
 ·cases h
theorem JF {n : Nat} (h : n ≤ 63) : cnt (digits n) = some n := by
 have := FN ⟨n, by omega⟩
 simp only at this
 unfold cnt
 rw [this, if_pos ⟨h, rfl⟩]
theorem Ko {s : List UInt8} {c : UInt8} (hc : c ∈ s) (h : ¬ (48 ≤ c.toNat ∧ c.toNat ≤ 57)) : cnt s = none := by
 cases he : cnt s with
 | none => rfl
 | some n =>
   obtain ⟨h1, h2⟩ := IX he
   rw [← h2] at hc
   exact absurd (JU ⟨n, by omega⟩ c hc) h
theorem J5 {s : List UInt8} {k : Nat} (h : 63 < numOf (s.take k)) : cnt s = none := by
 cases he : cnt s with
 | none => rfl
 | some n =>
   obtain ⟨h1, h2⟩ := IX he
   rw [← h2] at h
   obtain ⟨h3, _⟩ := Jy ⟨n, by omega⟩
   simp only at h3
   by_cases hk : k < 3
   ·have := Jf ⟨n, by omega⟩ ⟨k, hk⟩
    simp only at this
    omega
   ·rw [List.take_of_length_le (by omega)] at h
    have := FN ⟨n, by omega⟩
    simp only at this
    omega
theorem LY {s : List UInt8} (h : digits (numOf s) ≠ s) : cnt s = none := if_neg (fun hc => h hc.2)
theorem Jp (l : List UInt8) (c : UInt8) : numOf (l ++ [c]) = 10 * numOf l + (c.toNat - 48) := by
 unfold numOf
 rw [List.foldl_append]
 rfl
def JW : Option Nat → Value
 | some n => .tuple #[.int .i64 n, .bool true]
 | none => .tuple #[.int .i64 0, .bool false]
theorem Kr (w : World) (s : ByteArray) (hs : s.size ≤ maxLen) : Calls Tryz.prog 130 #[.string s, .int .i64 63] w fun e w' => e = .returned (JW (cnt (bl s))) ∧ w = w' := by
 unfold maxLen at hs
 go_enter func130, ntmps130
 go_wp2
 go_loop [6, 7] (fun x i => ∃ k : Nat, i = .int .i64 k ∧ x = .int .i64 (numOf ((bl s).take k) : Nat) ∧ k ≤ s.size ∧ numOf ((bl s).take k) ≤ 639) (fun x i => s.size - (intOf i).toNat)
 case atStart => exact ⟨0, rfl, rfl, by omega, by rw [List.take_zero]; decide⟩
 case round =>
  obtain ⟨k, rfl, rfl, hk, hb⟩ := hrel
  obtain ⟨n, hn⟩ := nXe (numOf ((bl s).take k))
  rw [← hn] at hb ⊢
  by_cases hlt : k < s.size
  ·have hk2 : k < (bl s).length := by rw [AP]; exact hlt
   have hg := bl_get s k hlt
   have hgm : s[k] ∈ bl s := List.mem_of_getElem? hg
   by_cases hd : 48 ≤ (s[k]).toNat ∧ (s[k]).toNat ≤ 57
   ·obtain ⟨hd1, hd2⟩ := hd
    by_cases h63 : 63 < n
    ·have hno := J5 (s := bl s) (k := k) (by omega)
     have Hno := lh hno
     clear hno hn
     go_wp2
     go_ret2
     exact ⟨by rw [Hno.out]; rfl, rfl⟩
    ·have hnx : numOf ((bl s).take (k + 1)) = 10 * n + ((s[k]).toNat - 48) := by
      rw [List.getElem?_eq_getElem hk2] at hg
      rw [List.take_succ_eq_append_getElem hk2, Jp, Option.some.inj hg, hn]; rfl
     have Hnx := lh hnx
     clear hnx hn hg hgm
     go_wp2
     go_round
     case rel => exact ⟨k + 1, by go_num, by rw [Hnx.out]; congr 1; omega, by omega, by rw [Hnx.out]; omega⟩
     case measure => simp [intOf]; omega
   ·have hno := Ko hgm hd
    have Hno := lh hno
    clear hno hn
    have hc := (s[k]).toNat_lt
    by_cases h48 : (s[k]).toNat < 48
    ·go_wp2
     go_ret2
     exact ⟨by rw [Hno.out]; rfl, rfl⟩
    ·go_wp2
     go_ret2
     exact ⟨by rw [Hno.out]; rfl, rfl⟩
  ·obtain rfl : k = s.size := by omega
   rw [List.take_of_length_le (by rw [AP]; omega)] at hn
   by_cases h0 : s.size = 0
   ·have he : s = ByteArray.empty := by
     have hb : bl s = [] := List.eq_nil_of_length_eq_zero (by rw [AP]; exact h0)
     rw [← CG s, hb]
     rfl
    subst he
    clear hn
    go_wp2
    go_ret2
    exact ⟨rfl, rfl⟩
   ·have hemp : s.toList.isEmpty = false := by
     rw [BV, List.isEmpty_eq_false_iff]
     intro e
     have := AP s
     rw [e] at this
     simp at this
     omega
    have hn0 : ¬ s.toList = [] := by
     intro e
     rw [e] at hemp
     cases hemp
    by_cases h63 : 63 < n
    ·have hno := J5 (s := bl s) (k := s.size) (by rw [List.take_of_length_le (by rw [AP]; omega), ← hn]; exact h63)
     have Hno := lh hno
     clear hno hn
     go_wp2
     go_ret2
     exact ⟨by rw [Hno.out]; rfl, rfl⟩
    ·have hN := JN w n (by omega)
     obtain ⟨d, hd⟩ := nXe (bsOf (digits n))
     rw [← hd] at hN
     by_cases he : d = s
     ·have Kk : cnt (bl s) = some n := by
       rw [← he, hd, AV]
       exact JF (by omega)
      have hne : (d.toList != s.toList) = false := by rw [he]; simp
      obtain ⟨Ma, HN⟩ := l2h Kk hN
      subst he
      clear Kk hN hn hd
      go_wp2_with fail
      refine HN.out.mono ?_
      rintro e w' ⟨rfl, rfl⟩
      go_wp2
      go_ret2
      exact ⟨by rw [Ma.out]; rfl, rfl⟩
     ·have hno : cnt (bl s) = none := LY (by
       rw [← hn]
       intro h
       apply he
       rw [hd, h, CG])
      have hne := ET he
      obtain ⟨Hno, HN⟩ := l2h hno hN
      clear hno hN hn hd
      go_wp2_with fail
      refine HN.out.mono ?_
      rintro e w' ⟨rfl, rfl⟩
      go_wp2
      go_ret2
      exact ⟨by rw [Hno.out]; rfl, rfl⟩
end RefC
namespace RefT
open Go Go.RowKit IdentS IdentP RefI RefC
theorem GN (w : World) (k : Int) (nm : ByteArray) (sv : Int) (hn : nm.size ≤ maxLen) (h : okB (idOf k nm sv) = false) : Calls Tryz.prog 131 #[.agg #[.int .u8 k, .string nm, .int .i64 sv]] w (TextNo w) := by
 have hc : (k ≠ 1 ∧ k ≠ 2) ∨ ((k = 1 ∨ k = 2) ∧ DJ (bl nm) = false) ∨ ((k = 1 ∨ k = 2) ∧ DJ (bl nm) = true ∧ sv < 0) ∨ ((k = 1 ∨ k = 2) ∧ DJ (bl nm) = true ∧ 0 ≤ sv ∧ 63 < sv) := by
  unfold okB idOf at h
  simp only at h
  by_cases h1 : k = 1 ∨ k = 2
  ·cases hb : DJ (bl nm)
   ·exact .inr (.inl ⟨h1, rfl⟩)
   ·by_cases h0 : sv < 0
    ·exact .inr (.inr (.inl ⟨h1, rfl, h0⟩))
    ·by_cases h3 : 63 < sv
     ·exact .inr (.inr (.inr ⟨h1, rfl, by omega, h3⟩))
     ·exfalso
      rw [hb] at h
      have a1 : decide (0 ≤ sv) = true := by simp; omega
      have a2 : decide (sv ≤ 63) = true := by simp; omega
      rw [a1, a2] at h
      rcases h1 with h1 | h1 <;> simp [h1] at h
  ·exact .inl (by omega)
 rcases hc with ⟨h1, h2⟩ | ⟨h1, hb⟩ | ⟨h1, hb, h3⟩ | ⟨h1, hb, h3, h4⟩
 ·have b1 : (k != 1) = true := by simp [h1]
  have b2 : (k != 2) = true := by simp [h2]
  have b3 : (k == 2) = false := by simp [h2]
  go_enter func131, ntmps131
  go_wp2
  go_ret2
  exact ⟨rfl, bAx⟩
 all_goals
  have hnm := fun w => RefI.GL w nm hn
  rw [hb] at hnm
  have Hnm := lh hnm
  clear hnm hb h
  rcases h1 with rfl | rfl
 all_goals
  go_enter func131, ntmps131
  go_wp2_with fail
  refine (Hnm.out _).mono ?_
  rintro e w' ⟨rfl, rfl⟩
  go_wp2
  go_ret2
  exact ⟨rfl, bAx⟩
theorem DR (w : World) (k : Int) (nm : ByteArray) (sv : Int) (h : okB (idOf k nm sv) = true) :
 Calls Tryz.prog 131 #[.agg #[.int .u8 k, .string nm, .int .i64 sv]] w fun e w' => e = .returned (.tuple #[.string (bsOf (textOf (idOf k nm sv))), .int .i64 0]) ∧ Below w.heap.size w w' := by
 obtain ⟨hk, hb, h0, h1⟩ := FM h
 have hn := (ES hb).2.2
 simp only [idOf] at hk hb h0 h1 hn
 rw [AP] at hn
 obtain ⟨n, rfl⟩ : ∃ n : Nat, sv = n := ⟨sv.toNat, by omega⟩
 have hnm := fun w => RefI.GL w nm (by unfold maxLen; omega)
 rw [hb] at hnm
 have hN := fun w => JN w n (by omega)
 obtain ⟨d, hd⟩ := nXe (bsOf (digits n))
 rw [← hd] at hN
 have hz : d.size ≤ 2 := by rw [hd, AY]; unfold digits; split <;> simp
 have hx0 : (w.alloc (.cells #[.int .u8 k, .string nm, .int .i64 n] 173)).heap[w.heap.size]? = some (.cells #[.int .u8 k, .string nm, .int .i64 n] 173 (0, 0)) := AL _ _
 have hB0 : Below w.heap.size w (w.alloc (.cells #[.int .u8 k, .string nm, .int .i64 n] 173)) := bAx
 obtain ⟨w0, hw0⟩ := nXe (w.alloc (.cells #[.int .u8 k, .string nm, .int .i64 n] 173))
 rw [← hw0] at hx0 hB0
 have hl0 := AJ hx0
 obtain ⟨hc0, hf0⟩ := AA hx0
 obtain ⟨Hnm, HN, HB0, Hw0⟩ := l4h hnm hN hB0 hw0
 have key : ∀ c : UInt8, sign k = c → (bsOf [c] ++ nm ++ bsOf [58]) ++ d = bsOf (textOf (idOf k nm n)) := by
  intro c hc
  refine JG ?_
  rw [AV, hd]
  unfold textOf idOf
  simp only [hc, Int.toNat_natCast]
  simp [bl, bsOf]
 have Key := lh key
 have hq1 : ¬ 9223372036854775807 < 1 + nm.size := by omega
 have hq2 : ¬ 9223372036854775807 < 1 + nm.size + 1 := by omega
 have hq3 : ¬ 9223372036854775807 < 1 + nm.size + 1 + d.size := by omega
 clear hnm hN hB0 hw0 h hb hd key
 rcases hk with rfl | rfl
 ·go_enter func131, ntmps131
  go_wp2_with fail
  rw [← Hw0.out]
  refine (Hnm.out _).mono ?_
  rintro e w' ⟨rfl, rfl⟩
  go_wp2_with fail
  refine wp_region_noPanic ?_
  refine wp_region_held (S := fun W => W.heap[w.heap.size]? = some (.cells #[.int .u8 1, .string nm, .int .i64 n] 173 (0, 0))) (by kernel_rfl) ?_
  change wpAnyH _ _ _ _ _ _ _ _ (World.drew w0)
  have hS0 : w0.drew.heap[w.heap.size]? = some (.cells #[.int .u8 1, .string nm, .int .i64 n] 173 (0, 0)) := hx0
  refine tkJ 0 ?_ ?_ hS0 ?_
  rotate_left
  ·intro w hSw
   obtain ⟨hcw, hfw⟩ := AA hSw
   go_simp
   rfl
  simp only [sq]
  refine tkJ 1 ?_ ?_ hS0 ?_
  rotate_left
  ·intro w hSw
   obtain ⟨hcw, hfw⟩ := AA hSw
   go_simp
   rfl
  simp only [sq]
  refine tkJ 2 ?_ ?_ hS0 ?_
  rotate_left
  ·intro w hSw
   obtain ⟨hcw, hfw⟩ := AA hSw
   go_simp
   rfl
  simp only [sq]
  refine tkJ 3 ?_ ?_ hS0 ?_
  rotate_left
  ·intro w hSw
   obtain ⟨hcw, hfw⟩ := AA hSw
   go_simp
   rfl
  simp only [sq]
  refine tkJ 4 ?_ ?_ hS0 ?_
  rotate_left
  ·intro w hSw
   obtain ⟨hcw, hfw⟩ := AA hSw
   go_simp
   rfl
  simp only [sq]
  refine tkJ 5 ?_ ?_ hS0 ?_
  rotate_left
  ·intro w hSw
   obtain ⟨hcw, hfw⟩ := AA hSw
   go_simp
   rfl
  simp only [sq]
  refine tkJ 6 ?_ ?_ hS0 ?_
  rotate_left
  ·intro w hSw
   obtain ⟨hcw, hfw⟩ := AA hSw
   go_simp
   rfl
  simp only [sq]
  refine aOne (r := 7) ?_
  refine BR rfl (by rfl) (by go_simp; first | rfl | exact ⟨⟨rfl, rfl⟩, rfl⟩ | exact ⟨rfl, rfl⟩) ?_
  refine (HN.out w0.drew).mono ?_
  rintro e w2 ⟨rfl, rfl⟩
  refine ⟨_, rfl, ?_, ?_⟩
  ·exact hS0
  simp only [sq]
  refine tkJ 8 ?_ ?_ hS0 ?_
  rotate_left
  ·intro w hSw
   obtain ⟨hcw, hfw⟩ := AA hSw
   go_simp
   rfl
  simp only [sq]
  refine tkJ 9 ?_ ?_ hS0 ?_
  rotate_left
  ·intro w hSw
   obtain ⟨hcw, hfw⟩ := AA hSw
   go_simp
   rfl
  simp only [sq]
  refine tkJ 10 ?_ ?_ hS0 ?_
  rotate_left
  ·intro w hSw
   obtain ⟨hcw, hfw⟩ := AA hSw
   go_simp
   rfl
  simp only [sq]
  refine wpAnyH_done (by kernel_rfl) (NoPanic.normal ?_) _
  go_wp2
  go_ret2
  exact ⟨by rw [← Key.out 64 rfl]; rfl, HB0.out.drew⟩
 ·go_enter func131, ntmps131
  go_wp2_with fail
  rw [← Hw0.out]
  refine (Hnm.out _).mono ?_
  rintro e w' ⟨rfl, rfl⟩
  go_wp2_with fail
  refine wp_region_noPanic ?_
  refine wp_region_held (S := fun W => W.heap[w.heap.size]? = some (.cells #[.int .u8 2, .string nm, .int .i64 n] 173 (0, 0))) (by kernel_rfl) ?_
  change wpAnyH _ _ _ _ _ _ _ _ (World.drew w0)
  have hS0 : w0.drew.heap[w.heap.size]? = some (.cells #[.int .u8 2, .string nm, .int .i64 n] 173 (0, 0)) := hx0
  refine tkJ 0 ?_ ?_ hS0 ?_
  rotate_left
  ·intro w hSw
   obtain ⟨hcw, hfw⟩ := AA hSw
   go_simp
   rfl
  simp only [sq]
  refine tkJ 1 ?_ ?_ hS0 ?_
  rotate_left
  ·intro w hSw
   obtain ⟨hcw, hfw⟩ := AA hSw
   go_simp
   rfl
  simp only [sq]
  refine tkJ 2 ?_ ?_ hS0 ?_
  rotate_left
  ·intro w hSw
   obtain ⟨hcw, hfw⟩ := AA hSw
   go_simp
   rfl
  simp only [sq]
  refine tkJ 3 ?_ ?_ hS0 ?_
  rotate_left
  ·intro w hSw
   obtain ⟨hcw, hfw⟩ := AA hSw
   go_simp
   rfl
  simp only [sq]
  refine tkJ 4 ?_ ?_ hS0 ?_
  rotate_left
  ·intro w hSw
   obtain ⟨hcw, hfw⟩ := AA hSw
   go_simp
   rfl
  simp only [sq]
  refine tkJ 5 ?_ ?_ hS0 ?_
  rotate_left
  ·intro w hSw
   obtain ⟨hcw, hfw⟩ := AA hSw
   go_simp
   rfl
  simp only [sq]
  refine tkJ 6 ?_ ?_ hS0 ?_
  rotate_left
  ·intro w hSw
   obtain ⟨hcw, hfw⟩ := AA hSw
   go_simp
   rfl
  simp only [sq]
  refine aOne (r := 7) ?_
  refine BR rfl (by rfl) (by go_simp; first | rfl | exact ⟨⟨rfl, rfl⟩, rfl⟩ | exact ⟨rfl, rfl⟩) ?_
  refine (HN.out w0.drew).mono ?_
  rintro e w2 ⟨rfl, rfl⟩
  refine ⟨_, rfl, ?_, ?_⟩
  ·exact hS0
  simp only [sq]
  refine tkJ 8 ?_ ?_ hS0 ?_
  rotate_left
  ·intro w hSw
   obtain ⟨hcw, hfw⟩ := AA hSw
   go_simp
   rfl
  simp only [sq]
  refine tkJ 9 ?_ ?_ hS0 ?_
  rotate_left
  ·intro w hSw
   obtain ⟨hcw, hfw⟩ := AA hSw
   go_simp
   rfl
  simp only [sq]
  refine tkJ 10 ?_ ?_ hS0 ?_
  rotate_left
  ·intro w hSw
   obtain ⟨hcw, hfw⟩ := AA hSw
   go_simp
   rfl
  simp only [sq]
  refine wpAnyH_done (by kernel_rfl) (NoPanic.normal ?_) _
  go_wp2
  go_ret2
  exact ⟨by rw [← Key.out 33 rfl]; rfl, HB0.out.drew⟩
end RefT
namespace RefP
open Go Go.RowKit IdentS IdentP IdentQ RefI RefC
def kd (c : UInt8) : Int := if c = 33 then 2 else 1
theorem Ja {s : List UInt8} (h : ∀ c ∈ s.drop 1, c ≠ 58) : IdentS.parse s = none := by
 cases he : IdentS.parse s with
 | none => rfl
 | some x =>
   obtain ⟨_, hs⟩ := Da.1 he
   rw [hs] at h
   exact absurd rfl (h 58 (by simp [textOf]))
theorem Iu {c : UInt8} {a b : List UInt8} {x : Idn} (ha : ∀ d ∈ a, d ≠ 58) (h : IdentS.parse (c :: (a ++ 58 :: b)) = some x) : ∃ n, cnt b = some n ∧ x = ⟨kd c, a, n⟩ := by
 obtain ⟨ox, hs⟩ := Da.1 h
 obtain ⟨kx, nx, s0, s1⟩ := FM ox
 unfold textOf at hs
 simp only [List.cons.injEq] at hs
 obtain ⟨hc, hs⟩ := hs
 obtain ⟨h1, h2⟩ := JX ha (fun d hd => letter_ne ((ES nx).1 d hd)) hs
 refine ⟨x.server.toNat, ?_, ?_⟩
 ·rw [h2]
  exact JF (by omega)
 ·obtain ⟨xk, xn, xs⟩ := x
  simp only at *
  rw [h1, hc]
  have : kd (sign xk) = xk := by rcases kx with rfl | rfl <;> rfl
  rw [this]
  simp only [Idn.mk.injEq, true_and]
  omega
theorem Fu {c : UInt8} {a b : List UInt8} (ha : ∀ d ∈ a, d ≠ 58) (h : cnt b = none) : IdentS.parse (c :: (a ++ 58 :: b)) = none := by
 cases he : IdentS.parse (c :: (a ++ 58 :: b)) with
 | none => rfl
 | some x =>
   obtain ⟨n, h1, _⟩ := Iu ha he
   rw [h] at h1
   cases h1
theorem Cm {c : UInt8} {a b : List UInt8} {n : Nat} (ha : ∀ d ∈ a, d ≠ 58) (h : cnt b = some n) :
 IdentS.parse (c :: (a ++ 58 :: b)) = if okB ⟨kd c, a, n⟩ = true ∧ textOf ⟨kd c, a, n⟩ = c :: (a ++ 58 :: b) then some ⟨kd c, a, n⟩ else none := by
 split
 ·rename_i hc
  exact Da.2 ⟨hc.1, hc.2.symm⟩
 ·rename_i hc
  cases he : IdentS.parse (c :: (a ++ 58 :: b)) with
  | none => rfl
  | some x =>
    obtain ⟨m, h1, h2⟩ := Iu ha he
    rw [h] at h1
    cases h1
    subst h2
    obtain ⟨ox, hs⟩ := Da.1 he
    exact absurd ⟨ox, hs.symm⟩ hc
def Ih (w : World) (B : Nat) (v0 v1 v2 : Value) : World := ((w.setCell ⟨B, 0, none⟩ v0).setCell ⟨B, 1, none⟩ v1).setCell ⟨B, 2, none⟩ v2
theorem JS {w w3 : World} {x0 x1 x2 : Value} {t : TypeId} (h : w3.heap[w.heap.size]? = some (.cells #[x0, x1, x2] t (0, 0))) (hb : Below w.heap.size w w3) (v0 v1 v2 : Value) (W4 : World) (hW : W4 = Ih w3 w.heap.size v0 v1 v2) :
 (W4.cell? ⟨w.heap.size, 0, none⟩ = some v0 ∧ W4.cell? ⟨w.heap.size, 1, none⟩ = some v1 ∧ W4.cell? ⟨w.heap.size, 2, none⟩ = some v2) ∧ Below w.heap.size w W4 := by
 have hr : W4.heap[w.heap.size]? = some (.cells #[v0, v1, v2] t (0, 0)) := by
  rw [hW]
  exact heap_setCell_same (heap_setCell_same (heap_setCell_same h _) _) _
 refine ⟨⟨AO hr, AO hr, AO hr⟩, ?_⟩
 rw [hW]
 exact ((hb.setCell (p := ⟨w.heap.size, 0, none⟩) nR _).setCell (p := ⟨w.heap.size, 1, none⟩) nR _).setCell (p := ⟨w.heap.size, 2, none⟩) nR _
theorem Ib (w : World) (k : Int) (nm : ByteArray) (sv : Int) (hn : nm.size ≤ maxLen) : Calls Tryz.prog 131 #[.agg #[.int .u8 k, .string nm, .int .i64 sv]] w (IdentR.AnyText w) := by
 cases h : okB (idOf k nm sv)
 ·exact (RefT.GN w k nm sv hn h).mono fun e w' ⟨h1, h2⟩ => ⟨⟨_, _, h1⟩, h2⟩
 ·exact (RefT.DR w k nm sv h).mono fun e w' ⟨h1, h2⟩ => ⟨⟨_, _, h1⟩, h2⟩
theorem Kb (s : ByteArray) (k : Nat) (h1 : 1 ≤ k) (hk : k < s.size) : bl s = s[0] :: (bl (s.extract 1 k) ++ s[k] :: bl (s.extract (k + 1) s.size)) := by
 have h0 := Dv s 0 (by omega)
 have hd := Dv s k hk
 rw [List.drop_zero] at h0
 rw [h0, Aj, Aj]
 congr 1
 have e : (bl s).drop 1 = ((bl s).drop 1).take (k - 1) ++ ((bl s).drop 1).drop (k - 1) := (List.take_append_drop _ _).symm
 rw [Nat.zero_add]
 rw [List.drop_drop, show 1 + (k - 1) = k by omega, hd] at e
 rw [List.take_of_length_le (i := s.size - (k + 1)) (by rw [List.length_drop, AP]; omega)]
 exact e
theorem Parse_ok (w : World) (s : ByteArray) (hs : s.size ≤ 140737488351232) : Calls Tryz.prog 115 #[.string s] w (CY (bl s) w) := by
 obtain ⟨w0, hw0⟩ := nXe (w.alloc (.cells #[.int .u8 0, .string ByteArray.empty, .int .i64 0] 173))
 have hB0 : Below w.heap.size w w0 := by rw [hw0]; exact (Below.refl _ w).alloc nR _
 have hx0 : w0.heap[w.heap.size]? = some (.cells #[.int .u8 0, .string ByteArray.empty, .int .i64 0] 173 (0, 0)) := by rw [hw0]; exact AL _ _
 have hl0 := AJ hx0
 obtain ⟨HB0, Hw0⟩ := l2h hB0 hw0
 obtain ⟨hc0, hf0⟩ := AA hx0
 clear hB0 hw0
 go_enter func115, ntmps115
 go_wp2_with fail
 rw [show (w.alloc (.cells #[.int .u8 0, .string ⟨#[]⟩, .int .i64 0] 173)) = w0 from Hw0.out.symm]
 go_loop [4] (fun i => ∃ k : Nat, i = .int .i64 k ∧ 1 ≤ k ∧ (k ≤ s.size ∨ k = 1) ∧ ∀ d ∈ bl (s.extract 1 k), d ≠ 58) (fun i => s.size - (intOf i).toNat)
 case atStart =>
  refine ⟨1, rfl, by omega, .inr rfl, fun d hd => ?_⟩
  rw [Aj] at hd
  simp at hd
 case round =>
  obtain ⟨k, rfl, hk1, hk, hall⟩ := hrel
  have Hall := lh hall
  clear hall
  by_cases hlt : k < s.size
  ·have hsp := Kb s k hk1 hlt
   by_cases h58 : s[k] = 58
   ·have Ig := Hall.out
    obtain ⟨nm, hnm⟩ := nXe (s.extract 1 k)
    obtain ⟨rest, hrest⟩ := nXe (s.extract (k + 1) s.size)
    have Lp : nm.size ≤ maxLen := by rw [hnm, ByteArray.size_extract]; unfold maxLen; omega
    have hrz : rest.size ≤ maxLen := by rw [hrest, ByteArray.size_extract]; unfold maxLen; omega
    rw [← hnm] at Ig hsp
    rw [← hrest, h58] at hsp
    have hC := fun w => Kr w rest hrz
    have hT := fun w k n => Ib w k nm n Lp
    have hTn := fun w k n h => RefT.GN w k nm n Lp h
    have hTy := fun w k n h => RefT.DR w k nm n h
    have Iz : ∀ (k : Int) (n : Int), idOf k nm n = ⟨k, bl nm, n⟩ := fun _ _ => rfl
    have hb0 : (s[0] = 33 ∧ ((((s[0]).toNat : Int) == 33) = true) ∧ kd s[0] = 2) ∨ (((((s[0]).toNat : Int) == 33) = false) ∧ kd s[0] = 1) := by
     by_cases h : s[0] = 33
     ·exact .inl ⟨h, by rw [h]; rfl, if_pos h⟩
     ·refine .inr ⟨?_, if_neg h⟩
      rw [beq_eq_false_iff_ne]
      intro he
      apply h
      apply UInt8.toNat_inj.1
      show (s[0]).toNat = 33
      omega
    have MU : (((s[k]).toNat : Int) != 58) = false := by rw [h58]; rfl
    have hs0 : 0 < s.size := by omega
    have hk31 : k < 9223372036854775807 := by omega
    obtain ⟨Hnm, Iy⟩ := l2h hnm hrest
    clear Hall hk
    rcases hb0 with ⟨h33, hb0, hkd⟩ | ⟨hb0, hkd⟩
    ·clear h33
     cases hcn : cnt (bl rest) with
     | none =>
       have hfin := Fu (c := s[0]) Ig hcn
       rw [← hsp] at hfin
       have hTx := fun w => hT w 2 0
       rw [hcn] at hC
       obtain ⟨HC, HTx, Hfin⟩ := l3h hC hTx hfin
       clear hC hTx hfin hT hTn hTy Iz hcn hsp Ig hkd hnm hrest h58
       go_wp2_with fail
       rw [← Iy.out]
       refine (HC.out w0).mono ?_
       rintro e w1 ⟨rfl, rfl⟩
       unfold JW
       go_wp2_with fail
       try rw [← Hnm.out]
       refine (HTx.out _).mono ?_
       rintro e w3 ⟨⟨T, y, rfl⟩, hb3⟩
       have hx3 := (hb3.block w.heap.size (by simp; omega)).trans ((Below.heap_alloc _ _ _ hl0).trans hx0)
       have hy3 := (hb3.block w0.heap.size (by simp)).trans (AL _ _)
       have HB3 := lh ((HB0.out.alloc HB0.out.size _).trans (hb3.mono (HB0.out.alloc HB0.out.size _).size))
       have hl3 := AJ hx3
       have hm3 := AJ hy3
       obtain ⟨hc3, hf3⟩ := AA hx3
       obtain ⟨hd3, hg3⟩ := AA hy3
       clear hb3 hc0 hf0
       go_wp2
       obtain ⟨W4, hW4⟩ := nXe (Ih w3 w.heap.size (.int .u8 0) (.string ByteArray.empty) (.int .i64 0))
       obtain ⟨⟨k0, k1, k2⟩, HB4⟩ := JS hx3 HB3.out (.int .u8 0) (.string ByteArray.empty) (.int .i64 0) W4 hW4
       change bodyPost _ _ _ _ _ (Ih w3 w.heap.size (.int .u8 0) (.string ByteArray.empty) (.int .i64 0))
       rw [← hW4]
       refine bodyPost_ret (v := .tuple #[.agg #[.int .u8 0, .string ByteArray.empty, .int .i64 0], .int .i64 6]) (by simp [results, Tryz.results115, go_sem, k0, k1, k2]) rfl ⟨?_, HB4⟩
       rw [Hfin.out]
       rfl
     | some n =>
       have hn63 := (IX hcn).1
       cases hok : okB ⟨2, bl nm, n⟩
       ·have hfin := Cm (c := s[0]) Ig hcn
        rw [← hsp] at hfin
        rw [hkd] at hfin
        rw [if_neg (fun h => by rw [hok] at h; cases h.1)] at hfin
        have hTx := fun w => hTn w 2 n hok
        rw [hcn] at hC
        obtain ⟨HC, HTx, Hfin⟩ := l3h hC hTx hfin
        clear hC hTx hfin hT hTn hTy Iz hcn hsp Ig hkd hnm hrest h58 hok
        go_wp2_with fail
        rw [← Iy.out]
        refine (HC.out w0).mono ?_
        rintro e w1 ⟨rfl, rfl⟩
        unfold JW
        go_wp2_with fail
        try rw [← Hnm.out]
        refine (HTx.out _).mono ?_
        rintro e w3 ⟨rfl, hb3⟩
        have hx3 := (hb3.block w.heap.size (by simp; omega)).trans ((Below.heap_alloc _ _ _ hl0).trans hx0)
        have hy3 := (hb3.block w0.heap.size (by simp)).trans (AL _ _)
        have HB3 := lh ((HB0.out.alloc HB0.out.size _).trans (hb3.mono (HB0.out.alloc HB0.out.size _).size))
        have hl3 := AJ hx3
        have hm3 := AJ hy3
        obtain ⟨hc3, hf3⟩ := AA hx3
        obtain ⟨hd3, hg3⟩ := AA hy3
        clear hb3 hc0 hf0
        go_wp2
        obtain ⟨W4, hW4⟩ := nXe (Ih w3 w.heap.size (.int .u8 0) (.string ByteArray.empty) (.int .i64 0))
        obtain ⟨⟨k0, k1, k2⟩, HB4⟩ := JS hx3 HB3.out (.int .u8 0) (.string ByteArray.empty) (.int .i64 0) W4 hW4
        change bodyPost _ _ _ _ _ (Ih w3 w.heap.size (.int .u8 0) (.string ByteArray.empty) (.int .i64 0))
        rw [← hW4]
        refine bodyPost_ret (v := .tuple #[.agg #[.int .u8 0, .string ByteArray.empty, .int .i64 0], .int .i64 6]) (by simp [results, Tryz.results115, go_sem, k0, k1, k2]) rfl ⟨?_, HB4⟩
        rw [Hfin.out]
        rfl
       ·by_cases heq : textOf ⟨2, bl nm, n⟩ = bl s
        ·have hfin := Cm (c := s[0]) Ig hcn
         rw [← hsp] at hfin
         rw [hkd] at hfin
         rw [if_pos ⟨hok, heq⟩] at hfin
         have hTx := fun w => hTy w 2 n hok
         rw [Iz, heq, CG] at hTx
         have hres : Ending.returned (.tuple #[.agg #[.int .u8 2, .string nm, .int .i64 n], .int .i64 0]) = Ending.returned (EX (some ⟨2, bl nm, n⟩)) := by simp only [EX, CG]
         have Hres := lh hres
         clear hres
         rw [hcn] at hC
         obtain ⟨HC, HTx, Hfin⟩ := l3h hC hTx hfin
         clear hC hTx hfin hT hTn hTy Iz hcn hsp Ig hkd hnm hrest h58 hok heq
         go_wp2_with fail
         rw [← Iy.out]
         refine (HC.out w0).mono ?_
         rintro e w1 ⟨rfl, rfl⟩
         unfold JW
         go_wp2_with fail
         try rw [← Hnm.out]
         refine (HTx.out _).mono ?_
         rintro e w3 ⟨rfl, hb3⟩
         have hx3 := (hb3.block w.heap.size (by simp; omega)).trans ((Below.heap_alloc _ _ _ hl0).trans hx0)
         have hy3 := (hb3.block w0.heap.size (by simp)).trans (AL _ _)
         have HB3 := lh ((HB0.out.alloc HB0.out.size _).trans (hb3.mono (HB0.out.alloc HB0.out.size _).size))
         have hl3 := AJ hx3
         have hm3 := AJ hy3
         obtain ⟨hc3, hf3⟩ := AA hx3
         obtain ⟨hd3, hg3⟩ := AA hy3
         clear hb3 hc0 hf0
         go_wp2
         obtain ⟨W4, hW4⟩ := nXe (Ih w3 w.heap.size (.int .u8 2) (.string nm) (.int .i64 n))
         obtain ⟨⟨k0, k1, k2⟩, HB4⟩ := JS hx3 HB3.out (.int .u8 2) (.string nm) (.int .i64 n) W4 hW4
         change bodyPost _ _ _ _ _ (Ih w3 w.heap.size (.int .u8 2) (.string nm) (.int .i64 n))
         rw [← hW4]
         refine bodyPost_ret (v := .tuple #[.agg #[.int .u8 2, .string nm, .int .i64 n], .int .i64 0]) (by simp [results, Tryz.results115, go_sem, k0, k1, k2]) rfl ⟨?_, HB4⟩
         rw [Hfin.out]
         rw [Hres.out]
        ·have hne : textOf ⟨2, bl nm, n⟩ ≠ bl s := heq
         clear heq
         have hfin := Cm (c := s[0]) Ig hcn
         rw [← hsp] at hfin
         rw [hkd] at hfin
         rw [if_neg (fun h => hne h.2)] at hfin
         have hTx := fun w => hTy w 2 n hok
         rw [Iz] at hTx
         obtain ⟨T, hTT⟩ := nXe (bsOf (textOf ⟨2, bl nm, n⟩))
         rw [← hTT] at hTx
         have MV : (T.toList == s.toList) = false := ET (fun h => hne (by rw [← h, hTT, AV]))
         rw [hcn] at hC
         obtain ⟨HC, HTx, Hfin⟩ := l3h hC hTx hfin
         clear hC hTx hfin hT hTn hTy Iz hcn hsp Ig hkd hnm hrest h58 hok hne hTT
         go_wp2_with fail
         rw [← Iy.out]
         refine (HC.out w0).mono ?_
         rintro e w1 ⟨rfl, rfl⟩
         unfold JW
         go_wp2_with fail
         try rw [← Hnm.out]
         refine (HTx.out _).mono ?_
         rintro e w3 ⟨rfl, hb3⟩
         have hx3 := (hb3.block w.heap.size (by simp; omega)).trans ((Below.heap_alloc _ _ _ hl0).trans hx0)
         have hy3 := (hb3.block w0.heap.size (by simp)).trans (AL _ _)
         have HB3 := lh ((HB0.out.alloc HB0.out.size _).trans (hb3.mono (HB0.out.alloc HB0.out.size _).size))
         have hl3 := AJ hx3
         have hm3 := AJ hy3
         obtain ⟨hc3, hf3⟩ := AA hx3
         obtain ⟨hd3, hg3⟩ := AA hy3
         clear hb3 hc0 hf0
         go_wp2
         obtain ⟨W4, hW4⟩ := nXe (Ih w3 w.heap.size (.int .u8 0) (.string ByteArray.empty) (.int .i64 0))
         obtain ⟨⟨k0, k1, k2⟩, HB4⟩ := JS hx3 HB3.out (.int .u8 0) (.string ByteArray.empty) (.int .i64 0) W4 hW4
         change bodyPost _ _ _ _ _ (Ih w3 w.heap.size (.int .u8 0) (.string ByteArray.empty) (.int .i64 0))
         rw [← hW4]
         refine bodyPost_ret (v := .tuple #[.agg #[.int .u8 0, .string ByteArray.empty, .int .i64 0], .int .i64 6]) (by simp [results, Tryz.results115, go_sem, k0, k1, k2]) rfl ⟨?_, HB4⟩
         rw [Hfin.out]
         rfl
    ·cases hcn : cnt (bl rest) with
     | none =>
       have hfin := Fu (c := s[0]) Ig hcn
       rw [← hsp] at hfin
       have hTx := fun w => hT w 1 0
       rw [hcn] at hC
       obtain ⟨HC, HTx, Hfin⟩ := l3h hC hTx hfin
       clear hC hTx hfin hT hTn hTy Iz hcn hsp Ig hkd hnm hrest h58
       go_wp2_with fail
       rw [← Iy.out]
       refine (HC.out w0).mono ?_
       rintro e w1 ⟨rfl, rfl⟩
       unfold JW
       go_wp2_with fail
       try rw [← Hnm.out]
       refine (HTx.out _).mono ?_
       rintro e w3 ⟨⟨T, y, rfl⟩, hb3⟩
       have hx3 := (hb3.block w.heap.size (by simp; omega)).trans ((Below.heap_alloc _ _ _ hl0).trans hx0)
       have hy3 := (hb3.block w0.heap.size (by simp)).trans (AL _ _)
       have HB3 := lh ((HB0.out.alloc HB0.out.size _).trans (hb3.mono (HB0.out.alloc HB0.out.size _).size))
       have hl3 := AJ hx3
       have hm3 := AJ hy3
       obtain ⟨hc3, hf3⟩ := AA hx3
       obtain ⟨hd3, hg3⟩ := AA hy3
       clear hb3 hc0 hf0
       go_wp2
       obtain ⟨W4, hW4⟩ := nXe (Ih w3 w.heap.size (.int .u8 0) (.string ByteArray.empty) (.int .i64 0))
       obtain ⟨⟨k0, k1, k2⟩, HB4⟩ := JS hx3 HB3.out (.int .u8 0) (.string ByteArray.empty) (.int .i64 0) W4 hW4
       change bodyPost _ _ _ _ _ (Ih w3 w.heap.size (.int .u8 0) (.string ByteArray.empty) (.int .i64 0))
       rw [← hW4]
       refine bodyPost_ret (v := .tuple #[.agg #[.int .u8 0, .string ByteArray.empty, .int .i64 0], .int .i64 6]) (by simp [results, Tryz.results115, go_sem, k0, k1, k2]) rfl ⟨?_, HB4⟩
       rw [Hfin.out]
       rfl
     | some n =>
       have hn63 := (IX hcn).1
       cases hok : okB ⟨1, bl nm, n⟩
       ·have hfin := Cm (c := s[0]) Ig hcn
        rw [← hsp] at hfin
        rw [hkd] at hfin
        rw [if_neg (fun h => by rw [hok] at h; cases h.1)] at hfin
        have hTx := fun w => hTn w 1 n hok
        rw [hcn] at hC
        obtain ⟨HC, HTx, Hfin⟩ := l3h hC hTx hfin
        clear hC hTx hfin hT hTn hTy Iz hcn hsp Ig hkd hnm hrest h58 hok
        go_wp2_with fail
        rw [← Iy.out]
        refine (HC.out w0).mono ?_
        rintro e w1 ⟨rfl, rfl⟩
        unfold JW
        go_wp2_with fail
        try rw [← Hnm.out]
        refine (HTx.out _).mono ?_
        rintro e w3 ⟨rfl, hb3⟩
        have hx3 := (hb3.block w.heap.size (by simp; omega)).trans ((Below.heap_alloc _ _ _ hl0).trans hx0)
        have hy3 := (hb3.block w0.heap.size (by simp)).trans (AL _ _)
        have HB3 := lh ((HB0.out.alloc HB0.out.size _).trans (hb3.mono (HB0.out.alloc HB0.out.size _).size))
        have hl3 := AJ hx3
        have hm3 := AJ hy3
        obtain ⟨hc3, hf3⟩ := AA hx3
        obtain ⟨hd3, hg3⟩ := AA hy3
        clear hb3 hc0 hf0
        go_wp2
        obtain ⟨W4, hW4⟩ := nXe (Ih w3 w.heap.size (.int .u8 0) (.string ByteArray.empty) (.int .i64 0))
        obtain ⟨⟨k0, k1, k2⟩, HB4⟩ := JS hx3 HB3.out (.int .u8 0) (.string ByteArray.empty) (.int .i64 0) W4 hW4
        change bodyPost _ _ _ _ _ (Ih w3 w.heap.size (.int .u8 0) (.string ByteArray.empty) (.int .i64 0))
        rw [← hW4]
        refine bodyPost_ret (v := .tuple #[.agg #[.int .u8 0, .string ByteArray.empty, .int .i64 0], .int .i64 6]) (by simp [results, Tryz.results115, go_sem, k0, k1, k2]) rfl ⟨?_, HB4⟩
        rw [Hfin.out]
        rfl
       ·by_cases heq : textOf ⟨1, bl nm, n⟩ = bl s
        ·have hfin := Cm (c := s[0]) Ig hcn
         rw [← hsp] at hfin
         rw [hkd] at hfin
         rw [if_pos ⟨hok, heq⟩] at hfin
         have hTx := fun w => hTy w 1 n hok
         rw [Iz, heq, CG] at hTx
         have hres : Ending.returned (.tuple #[.agg #[.int .u8 1, .string nm, .int .i64 n], .int .i64 0]) = Ending.returned (EX (some ⟨1, bl nm, n⟩)) := by simp only [EX, CG]
         have Hres := lh hres
         clear hres
         rw [hcn] at hC
         obtain ⟨HC, HTx, Hfin⟩ := l3h hC hTx hfin
         clear hC hTx hfin hT hTn hTy Iz hcn hsp Ig hkd hnm hrest h58 hok heq
         go_wp2_with fail
         rw [← Iy.out]
         refine (HC.out w0).mono ?_
         rintro e w1 ⟨rfl, rfl⟩
         unfold JW
         go_wp2_with fail
         try rw [← Hnm.out]
         refine (HTx.out _).mono ?_
         rintro e w3 ⟨rfl, hb3⟩
         have hx3 := (hb3.block w.heap.size (by simp; omega)).trans ((Below.heap_alloc _ _ _ hl0).trans hx0)
         have hy3 := (hb3.block w0.heap.size (by simp)).trans (AL _ _)
         have HB3 := lh ((HB0.out.alloc HB0.out.size _).trans (hb3.mono (HB0.out.alloc HB0.out.size _).size))
         have hl3 := AJ hx3
         have hm3 := AJ hy3
         obtain ⟨hc3, hf3⟩ := AA hx3
         obtain ⟨hd3, hg3⟩ := AA hy3
         clear hb3 hc0 hf0
         go_wp2
         obtain ⟨W4, hW4⟩ := nXe (Ih w3 w.heap.size (.int .u8 1) (.string nm) (.int .i64 n))
         obtain ⟨⟨k0, k1, k2⟩, HB4⟩ := JS hx3 HB3.out (.int .u8 1) (.string nm) (.int .i64 n) W4 hW4
         change bodyPost _ _ _ _ _ (Ih w3 w.heap.size (.int .u8 1) (.string nm) (.int .i64 n))
         rw [← hW4]
         refine bodyPost_ret (v := .tuple #[.agg #[.int .u8 1, .string nm, .int .i64 n], .int .i64 0]) (by simp [results, Tryz.results115, go_sem, k0, k1, k2]) rfl ⟨?_, HB4⟩
         rw [Hfin.out]
         rw [Hres.out]
        ·have hne : textOf ⟨1, bl nm, n⟩ ≠ bl s := heq
         clear heq
         have hfin := Cm (c := s[0]) Ig hcn
         rw [← hsp] at hfin
         rw [hkd] at hfin
         rw [if_neg (fun h => hne h.2)] at hfin
         have hTx := fun w => hTy w 1 n hok
         rw [Iz] at hTx
         obtain ⟨T, hTT⟩ := nXe (bsOf (textOf ⟨1, bl nm, n⟩))
         rw [← hTT] at hTx
         have MV : (T.toList == s.toList) = false := ET (fun h => hne (by rw [← h, hTT, AV]))
         rw [hcn] at hC
         obtain ⟨HC, HTx, Hfin⟩ := l3h hC hTx hfin
         clear hC hTx hfin hT hTn hTy Iz hcn hsp Ig hkd hnm hrest h58 hok hne hTT
         go_wp2_with fail
         rw [← Iy.out]
         refine (HC.out w0).mono ?_
         rintro e w1 ⟨rfl, rfl⟩
         unfold JW
         go_wp2_with fail
         try rw [← Hnm.out]
         refine (HTx.out _).mono ?_
         rintro e w3 ⟨rfl, hb3⟩
         have hx3 := (hb3.block w.heap.size (by simp; omega)).trans ((Below.heap_alloc _ _ _ hl0).trans hx0)
         have hy3 := (hb3.block w0.heap.size (by simp)).trans (AL _ _)
         have HB3 := lh ((HB0.out.alloc HB0.out.size _).trans (hb3.mono (HB0.out.alloc HB0.out.size _).size))
         have hl3 := AJ hx3
         have hm3 := AJ hy3
         obtain ⟨hc3, hf3⟩ := AA hx3
         obtain ⟨hd3, hg3⟩ := AA hy3
         clear hb3 hc0 hf0
         go_wp2
         obtain ⟨W4, hW4⟩ := nXe (Ih w3 w.heap.size (.int .u8 0) (.string ByteArray.empty) (.int .i64 0))
         obtain ⟨⟨k0, k1, k2⟩, HB4⟩ := JS hx3 HB3.out (.int .u8 0) (.string ByteArray.empty) (.int .i64 0) W4 hW4
         change bodyPost _ _ _ _ _ (Ih w3 w.heap.size (.int .u8 0) (.string ByteArray.empty) (.int .i64 0))
         rw [← hW4]
         refine bodyPost_ret (v := .tuple #[.agg #[.int .u8 0, .string ByteArray.empty, .int .i64 0], .int .i64 6]) (by simp [results, Tryz.results115, go_sem, k0, k1, k2]) rfl ⟨?_, HB4⟩
         rw [Hfin.out]
         rfl
   ·have MU : (((s[k]).toNat : Int) != 58) = true := by
     simp only [bne_iff_ne]
     intro h
     apply h58
     apply UInt8.toNat_inj.1
     show (s[k]).toNat = 58
     omega
    have hnx : ∀ d ∈ bl (s.extract 1 (k + 1)), d ≠ 58 := by
     intro d hd
     have hg : ((bl s).drop 1)[k - 1]? = some s[k] := by
      rw [List.getElem?_drop, show 1 + (k - 1) = k by omega]
      exact bl_get s k hlt
     rw [Aj, show k + 1 - 1 = (k - 1) + 1 by omega, List.take_add_one, hg, List.mem_append] at hd
     rcases hd with hd | hd
     ·exact Hall.out d (by rw [Aj]; exact hd)
     ·simp only [Option.toList_some, List.mem_singleton] at hd
      rw [hd]
      exact h58
    have Hnx := lh hnx
    clear hsp hnx
    go_wp2
    go_round
    case rel => exact ⟨k + 1, by go_num, by omega, .inl (by omega), Hnx.out⟩
    case measure => simp [intOf]; omega
  ·have hfin : IdentS.parse (bl s) = none := by
        refine Ja fun c hc => Hall.out c ?_
        rw [Aj, List.take_of_length_le (by rw [List.length_drop, AP]; omega)]
        exact hc
   have Hfin := lh hfin
   clear hfin
   have hx3 := hx0
   have HB3 := HB0
   go_wp2
   obtain ⟨W4, hW4⟩ := nXe (Ih w0 w.heap.size (.int .u8 0) (.string ByteArray.empty) (.int .i64 0))
   obtain ⟨⟨k0, k1, k2⟩, HB4⟩ := JS hx3 HB3.out (.int .u8 0) (.string ByteArray.empty) (.int .i64 0) W4 hW4
   change bodyPost _ _ _ _ _ (Ih w0 w.heap.size (.int .u8 0) (.string ByteArray.empty) (.int .i64 0))
   rw [← hW4]
   refine bodyPost_ret (v := .tuple #[.agg #[.int .u8 0, .string ByteArray.empty, .int .i64 0], .int .i64 6]) (by simp [results, Tryz.results115, go_sem, k0, k1, k2]) rfl ⟨?_, HB4⟩
   rw [Hfin.out]
   rfl
end RefP
namespace RefU
open Go Go.RowKit IdentS IdentP IdentQ RefP
theorem Ic (w : World) (s : ByteArray) (hs : s.size ≤ 140737488351232) : Calls Tryz.prog 96 #[.string s] w (IdentR.Ef (BZ 2 (bl s)) w) := by
 have hp := Parse_ok w s hs
 cases he : IdentS.parse (bl s) with
 | none =>
   have hfin : BZ 2 (bl s) = none := by unfold BZ; rw [he]; rfl
   unfold CY at hp
   rw [he] at hp
   rw [hfin]
   have Hp := lh hp
   clear hp he hfin
   go_enter func96, ntmps96
   go_wp2_with fail
   refine Hp.out.mono ?_
   rintro e w' ⟨rfl, hb⟩
   have HB := lh hb
   clear hb
   unfold EX
   go_wp2
   go_ret2
   exact ⟨rfl, HB.out.alloc HB.out.size _⟩
 | some x =>
   unfold CY at hp
   rw [he] at hp
   by_cases hk : x.kind = 2
   ·have hfin : BZ 2 (bl s) = some x.server := by unfold BZ; rw [he]; exact if_pos hk
    have hkb : (x.kind != 2) = false := by simp [hk]
    rw [hfin]
    have Hp := lh hp
    clear hp he hfin hk
    go_enter func96, ntmps96
    go_wp2_with fail
    refine Hp.out.mono ?_
    rintro e w' ⟨rfl, hb⟩
    have HB := lh hb
    clear hb
    unfold EX
    go_wp2
    go_ret2
    exact ⟨rfl, HB.out.alloc HB.out.size _⟩
   ·have hfin : BZ 2 (bl s) = none := by unfold BZ; rw [he]; exact if_neg hk
    have hkb : (x.kind != 2) = true := by simp [hk]
    rw [hfin]
    have Hp := lh hp
    clear hp he hfin hk
    go_enter func96, ntmps96
    go_wp2_with fail
    refine Hp.out.mono ?_
    rintro e w' ⟨rfl, hb⟩
    have HB := lh hb
    clear hb
    unfold EX
    go_wp2
    go_ret2
    exact ⟨rfl, HB.out.alloc HB.out.size _⟩
end RefU
namespace EvRC
open Go Go.RowKit IdentS EventS OctP IdentP IdentQ IdentR EventP EventC
theorem IA (s : ByteArray) (hs : s.size ≤ 140737488351232) : ∃ n : Int, ∀ w, Calls Tryz.prog 96 #[.string s] w (RB (.tuple #[.int .i64 n, .bool (DF (bl s))]) w) := by
 unfold DF
 cases h : BZ 2 (bl s) with
 | none => exact ⟨0, fun w => by have := RefU.Ic w s hs; unfold Ef at this; rw [h] at this; exact this⟩
 | some n => exact ⟨n, fun w => by have := RefU.Ic w s hs; unfold Ef at this; rw [h] at this; exact this⟩
end EvRC
end Go.Proofs.YtceiajepcokacaaGreatDoor
