/-
  WHAT IS PROVED: what the document's own answers on identifiers are. what the document's own answers on events are. what is signed of a deal, its bytes, its answer, which answers fit, a deal's signature, and how it is verified; and the document's own. a ring whose places are all used signs no more; what key a ring has. how any entry, head, or deal is signed by any ring, by the program. two keys that are one are equal; a signature is not long. Condition: what each theorem names.
-/
import Derived.Test.YtkcikadgnnjjjaaGreatDoorS0
import Derived.Test.YtkcikadgnnjjjaaGreatDoorZEHD12
set_option linter.unusedVariables false
set_option linter.unusedSimpArgs false
set_option maxRecDepth 100000
set_option maxHeartbeats 4000000
namespace Go.Proofs.YtkcikadgnnjjjaaGreatDoor.RefI
open Go Go.RowKit IdentS IdentP
theorem bsOf_append (a b : List UInt8) : bsOf a ++ bsOf b = bsOf (a ++ b) := by
 refine bl_inj ?_
 rw [bl_bsOf]
 simp [bl, bsOf]
theorem small_digits : ∀ n : Fin 10, (⟨#[48, 49, 50, 51, 52, 53, 54, 55, 56, 57]⟩ : ByteArray).extract n.val (n.val + 1) = bsOf (digits n.val) := by decide +kernel
theorem Number_small (w : World) (n : Nat) (hn : n < 10) : Calls Tryz.prog 163 #[.int .i64 n] w fun e w' => e = .returned (.string (bsOf (digits n))) ∧ w = w' := by
 have h := small_digits ⟨n, hn⟩
 simp only at h
 have H := lh h
 clear h
 go_enter Tryz.func163, Tryz.ntmps163
 go_wp2
 go_ret
 exact ⟨by rw [← H.out]; rfl, rfl⟩
theorem two_digits : ∀ n : Fin 100, 10 ≤ n.val → digits (n.val / 10) ++ digits (n.val % 10) = digits n.val := by decide
theorem Number_ok (w : World) (n : Nat) (hn : n < 100) : Calls Tryz.prog 163 #[.int .i64 n] w fun e w' => e = .returned (.string (bsOf (digits n))) ∧ w = w' := by
 by_cases h : n < 10
 ·exact Number_small w n h
 ·have h2 := two_digits ⟨n, hn⟩ (by simpa using h)
  simp only at h2
  have hb : bsOf (digits (n / 10)) ++ bsOf (digits (n % 10)) = bsOf (digits n) := by
   rw [← h2]
   exact bsOf_append _ _
  have a1 := Number_small w (n / 10) (by omega)
  have a2 := Number_small w (n % 10) (by omega)
  obtain ⟨d1, hd1⟩ := nXe (bsOf (digits (n / 10)))
  obtain ⟨d2, hd2⟩ := nXe (bsOf (digits (n % 10)))
  have z1 : d1.size ≤ 2 := by rw [hd1, size_bsOf]; unfold digits; split <;> simp
  have z2 : d2.size ≤ 2 := by rw [hd2, size_bsOf]; unfold digits; split <;> simp
  rw [← hd1] at a1
  rw [← hd2] at a2
  rw [← hd1, ← hd2] at hb
  have e1 : ((n / 10 : Nat) : Int) = (n : Int) / 10 := by omega
  have e2 : ((n % 10 : Nat) : Int) = (n : Int) % 10 := by omega
  rw [e1] at a1
  rw [e2] at a2
  have A1 := lh a1
  have A2 := lh a2
  have Hb := lh hb
  clear a1 a2 hb h2 hd1 hd2
  go_enter Tryz.func163, Tryz.ntmps163
  go_wp2_with fail
  refine A1.out.mono ?_
  rintro e w' ⟨rfl, rfl⟩
  go_wp2_with fail
  refine A2.out.mono ?_
  rintro e w' ⟨rfl, rfl⟩
  go_wp2
  go_ret
  exact ⟨by rw [← Hb.out]; rfl, rfl⟩
theorem letter_ok (w : World) (c : UInt8) : Calls Tryz.prog 175 #[.int .u8 c.toNat] w fun e w' => e = .returned (.bool (letterB c)) ∧ w = w' := by
 have hc := c.toNat_lt
 have hL : letterB c = true ↔ ((97 ≤ (c.toNat : Int) ∧ (c.toNat : Int) ≤ 122) ∨ (48 ≤ (c.toNat : Int) ∧ (c.toNat : Int) ≤ 57) ∨ (c.toNat : Int) = 95 ∨ (c.toNat : Int) = 45) := by
  unfold letterB
  simp only [Bool.or_eq_true, decide_eq_true_eq]
  omega
 have HL := lh hL
 clear hL
 go_enter Tryz.func175, Tryz.ntmps175
 go_wp2
 all_goals
  go_ret
  refine ⟨?_, rfl⟩
  show Ending.returned (.bool _) = Ending.returned (.bool _)
  congr 2
  rw [Bool.eq_iff_iff, HL.out]
  simp only [Bool.or_eq_true, decide_eq_true_eq, beq_iff_eq, Bool.false_or, Bool.true_or, true_iff, iff_true, Bool.false_eq_true, false_iff]
  omega
theorem name_ok (w : World) (s : ByteArray) (hs : s.size ≤ maxLen) : Calls Tryz.prog 164 #[.string s] w fun e w' => e = .returned (.bool (nameB (bl s))) ∧ w = w' := by
 unfold maxLen at hs
 go_enter Tryz.func164, Tryz.ntmps164
 go_wp2
 go_loop [3] (fun i => ∃ k : Nat, i = .int .i64 k ∧ k ≤ s.size ∧ ((bl s).take k).all letterB = true) (fun i => s.size - (intOf i).toNat)
 case atStart => exact ⟨0, rfl, by omega, rfl⟩
 case round =>
  obtain ⟨k, rfl, hk, hall⟩ := hrel
  have Hall := lh hall
  clear hall
  by_cases hlt : k < s.size
  ·have hd := bl_drop s k hlt
   have Hd := lh hd
   clear hd
   go_wp2_with fail
   refine (letter_ok w s[k]).mono ?_
   rintro e w' ⟨rfl, rfl⟩
   cases hl : letterB s[k]
   ·have hno : nameB (bl s) = false := by
     unfold nameB
     rw [← List.take_append_drop k (bl s), Hd.out, List.all_append, List.all_cons, hl]
     simp
    have Hno := lh hno
    have Hl := lh hl
    clear hno hl
    go_wp2
    go_ret
    exact ⟨by rw [Hno.out]; rfl, rfl⟩
   ·have Hl := lh hl
    clear hl
    go_wp2
    go_round
    case rel =>
     refine ⟨k + 1, by go_num, by omega, ?_⟩
     have hk2 : k < (bl s).length := by rw [bl_length]; exact hlt
     have hg := bl_get s k hlt
     rw [List.getElem?_eq_getElem hk2] at hg
     rw [List.take_succ_eq_append_getElem hk2, List.all_append, Hall.out, Option.some.inj hg]
     simp [Hl.out]
    case measure => simp [intOf]; omega
  ·obtain rfl : k = s.size := by omega
   rw [List.take_of_length_le (by rw [bl_length]; omega)] at Hall
   have hfin : nameB (bl s) = (decide (1 ≤ s.size) && decide (s.size ≤ 16)) := by
    unfold nameB
    rw [Hall.out, bl_length]
    have : (bl s).isEmpty = decide (s.size = 0) := by
     rw [← bl_length]
     cases bl s <;> simp
    rw [this]
    rw [Bool.eq_iff_iff]
    simp only [Bool.and_eq_true, Bool.true_and, Bool.not_eq_true', decide_eq_true_eq, decide_eq_false_iff_not]
    omega
   have Hfin := lh hfin
   clear hfin
   by_cases h1 : 1 ≤ s.size <;> by_cases h16 : s.size ≤ 16
   all_goals first | omega | skip
   all_goals
    go_wp2
    go_ret
    exact ⟨by rw [Hfin.out]; simp [h16, h1] <;> (try omega), rfl⟩
end Go.Proofs.YtkcikadgnnjjjaaGreatDoor.RefI
namespace Go.Proofs.YtkcikadgnnjjjaaGreatDoor.RefC
open Go Go.RowKit IdentS IdentP RefI
def cnt (s : List UInt8) : Option Nat := if numOf s ≤ 63 ∧ digits (numOf s) = s then some (numOf s) else none
theorem digits_bytes : ∀ n : Fin 64, ∀ c ∈ digits n.val, 48 ≤ c.toNat ∧ c.toNat ≤ 57 := by decide
theorem digits_take : ∀ n : Fin 64, ∀ k : Fin 3, numOf ((digits n.val).take k.val) ≤ 63 := by decide
theorem digits_len : ∀ n : Fin 64, (digits n.val).length ≤ 2 ∧ 1 ≤ (digits n.val).length := by decide
theorem cnt_spec {s : List UInt8} {n : Nat} (h : cnt s = some n) : n ≤ 63 ∧ digits n = s := by
 unfold cnt at h
 split at h
 ·rename_i hc
  simp only [Option.some.injEq] at h
  subst h
  exact hc
 ·cases h
theorem cnt_digits {n : Nat} (h : n ≤ 63) : cnt (digits n) = some n := by
 have := numOf_digits ⟨n, by omega⟩
 simp only at this
 unfold cnt
 rw [this, if_pos ⟨h, rfl⟩]
theorem cnt_byte {s : List UInt8} {c : UInt8} (hc : c ∈ s) (h : ¬ (48 ≤ c.toNat ∧ c.toNat ≤ 57)) : cnt s = none := by
 cases he : cnt s with
 | none => rfl
 | some n =>
  obtain ⟨h1, h2⟩ := cnt_spec he
  rw [← h2] at hc
  exact absurd (digits_bytes ⟨n, by omega⟩ c hc) h
theorem cnt_big {s : List UInt8} {k : Nat} (h : 63 < numOf (s.take k)) : cnt s = none := by
 cases he : cnt s with
 | none => rfl
 | some n =>
  obtain ⟨h1, h2⟩ := cnt_spec he
  rw [← h2] at h
  obtain ⟨h3, _⟩ := digits_len ⟨n, by omega⟩
  simp only at h3
  by_cases hk : k < 3
  ·have := digits_take ⟨n, by omega⟩ ⟨k, hk⟩
   simp only at this
   omega
  ·rw [List.take_of_length_le (by omega)] at h
   have := numOf_digits ⟨n, by omega⟩
   simp only at this
   omega
theorem cnt_ne {s : List UInt8} (h : digits (numOf s) ≠ s) : cnt s = none := if_neg (fun hc => h hc.2)
theorem numOf_snoc (l : List UInt8) (c : UInt8) : numOf (l ++ [c]) = 10 * numOf l + (c.toNat - 48) := by
 unfold numOf
 rw [List.foldl_append]
 rfl
def cntV : Option Nat → Value
 | some n => .tuple #[.int .i64 n, .bool true]
 | none => .tuple #[.int .i64 0, .bool false]
theorem Count_ok (w : World) (s : ByteArray) (hs : s.size ≤ maxLen) : Calls Tryz.prog 152 #[.string s, .int .i64 63] w fun e w' => e = .returned (cntV (cnt (bl s))) ∧ w = w' := by
 unfold maxLen at hs
 go_enter Tryz.func152, Tryz.ntmps152
 go_wp2
 go_loop [6, 7] (fun x i => ∃ k : Nat, i = .int .i64 k ∧ x = .int .i64 (numOf ((bl s).take k) : Nat) ∧ k ≤ s.size ∧ numOf ((bl s).take k) ≤ 639) (fun x i => s.size - (intOf i).toNat)
 case atStart => exact ⟨0, rfl, rfl, by omega, by rw [List.take_zero]; decide⟩
 case round =>
  obtain ⟨k, rfl, rfl, hk, hb⟩ := hrel
  obtain ⟨n, hn⟩ := nXe (numOf ((bl s).take k))
  rw [← hn] at hb ⊢
  by_cases hlt : k < s.size
  ·have hk2 : k < (bl s).length := by rw [bl_length]; exact hlt
   have hg := bl_get s k hlt
   have hgm : s[k] ∈ bl s := List.mem_of_getElem? hg
   by_cases hd : 48 ≤ (s[k]).toNat ∧ (s[k]).toNat ≤ 57
   ·obtain ⟨hd1, hd2⟩ := hd
    by_cases h63 : 63 < n
    ·have hno := cnt_big (s := bl s) (k := k) (by omega)
     have Hno := lh hno
     clear hno hn
     go_wp2
     go_ret2
     exact ⟨by rw [Hno.out]; rfl, rfl⟩
    ·have hnx : numOf ((bl s).take (k + 1)) = 10 * n + ((s[k]).toNat - 48) := by
      rw [List.getElem?_eq_getElem hk2] at hg
      rw [List.take_succ_eq_append_getElem hk2, numOf_snoc, Option.some.inj hg, hn]; rfl
     have Hnx := lh hnx
     clear hnx hn hg hgm
     go_wp2
     go_round
     case rel => exact ⟨k + 1, by go_num, by rw [Hnx.out]; congr 1; omega, by omega, by rw [Hnx.out]; omega⟩
     case measure => simp [intOf]; omega
   ·have hno := cnt_byte hgm hd
    have Hno := lh hno
    clear hno hn
    have hc := (s[k]).toNat_lt
    by_cases h48 : (s[k]).toNat < 48
    ·go_wp2
     go_ret2
     exact ⟨by rw [Hno.out]; rfl, rfl⟩
    ·go_wp2
     go_ret2
     exact ⟨by rw [Hno.out]; rfl, rfl⟩
  ·obtain rfl : k = s.size := by omega
   rw [List.take_of_length_le (by rw [bl_length]; omega)] at hn
   by_cases h0 : s.size = 0
   ·have he : s = ByteArray.empty := by
     have hb : bl s = [] := List.eq_nil_of_length_eq_zero (by rw [bl_length]; exact h0)
     rw [← bsOf_bl s, hb]
     rfl
    subst he
    clear hn
    go_wp2
    go_ret2
    exact ⟨rfl, rfl⟩
   ·have hemp : s.toList.isEmpty = false := by
     rw [bl_toList, List.isEmpty_eq_false_iff]
     intro e
     have := bl_length s
     rw [e] at this
     simp at this
     omega
    have hn0 : ¬ s.toList = [] := by
     intro e
     rw [e] at hemp
     cases hemp
    by_cases h63 : 63 < n
    ·have hno := cnt_big (s := bl s) (k := s.size) (by rw [List.take_of_length_le (by rw [bl_length]; omega), ← hn]; exact h63)
     have Hno := lh hno
     clear hno hn
     go_wp2
     go_ret2
     exact ⟨by rw [Hno.out]; rfl, rfl⟩
    ·have hN := Number_ok w n (by omega)
     obtain ⟨d, hd⟩ := nXe (bsOf (digits n))
     rw [← hd] at hN
     by_cases he : d = s
     ·have hyes : cnt (bl s) = some n := by
       rw [← he, hd, bl_bsOf]
       exact cnt_digits (by omega)
      have hne : (d.toList != s.toList) = false := by rw [he]; simp
      have Hyes := lh hyes
      have HN := lh hN
      subst he
      clear hyes hN hn hd
      go_wp2_with fail
      refine HN.out.mono ?_
      rintro e w' ⟨rfl, rfl⟩
      go_wp2
      go_ret2
      exact ⟨by rw [Hyes.out]; rfl, rfl⟩
     ·have hno : cnt (bl s) = none := cnt_ne (by
       rw [← hn]
       intro h
       apply he
       rw [hd, h, bsOf_bl])
      have hne := str_ne he
      have Hno := lh hno
      have HN := lh hN
      clear hno hN hn hd
      go_wp2_with fail
      refine HN.out.mono ?_
      rintro e w' ⟨rfl, rfl⟩
      go_wp2
      go_ret2
      exact ⟨by rw [Hno.out]; rfl, rfl⟩
end Go.Proofs.YtkcikadgnnjjjaaGreatDoor.RefC
namespace Go.Proofs.YtkcikadgnnjjjaaGreatDoor.RefT
open Go Go.RowKit IdentS IdentP RefI RefC
theorem Text_no (w : World) (k : Int) (nm : ByteArray) (sv : Int) (hn : nm.size ≤ maxLen) (h : okB (idOf k nm sv) = false) : Calls Tryz.prog 153 #[.agg #[.int .u8 k, .string nm, .int .i64 sv]] w (TextNo w) := by
 have hc : (k ≠ 1 ∧ k ≠ 2) ∨ ((k = 1 ∨ k = 2) ∧ nameB (bl nm) = false) ∨ ((k = 1 ∨ k = 2) ∧ nameB (bl nm) = true ∧ sv < 0) ∨ ((k = 1 ∨ k = 2) ∧ nameB (bl nm) = true ∧ 0 ≤ sv ∧ 63 < sv) := by
  unfold okB idOf at h
  simp only at h
  by_cases h1 : k = 1 ∨ k = 2
  ·cases hb : nameB (bl nm)
   ·exact .inr (.inl ⟨h1, rfl⟩)
   ·by_cases h0 : sv < 0
    ·exact .inr (.inr (.inl ⟨h1, rfl, h0⟩))
    ·by_cases h3 : 63 < sv
     ·exact .inr (.inr (.inr ⟨h1, rfl, by omega, h3⟩))
     ·exfalso
      rw [hb] at h
      have a1 : decide (0 ≤ sv) = true := by simp; omega
      have a2 : decide (sv ≤ 63) = true := by simp; omega
      rw [a1, a2] at h
      rcases h1 with h1 | h1 <;> simp [h1] at h
  ·exact .inl (by omega)
 rcases hc with ⟨h1, h2⟩ | ⟨h1, hb⟩ | ⟨h1, hb, h3⟩ | ⟨h1, hb, h3, h4⟩
 ·have b1 : (k != 1) = true := by simp [h1]
  have b2 : (k != 2) = true := by simp [h2]
  have b3 : (k == 2) = false := by simp [h2]
  go_enter Tryz.func153, Tryz.ntmps153
  go_wp2
  go_ret2
  exact ⟨rfl, bAx⟩
 all_goals
  have hnm := fun w => RefI.name_ok w nm hn
  rw [hb] at hnm
  have Hnm := lh hnm
  clear hnm hb h
  rcases h1 with rfl | rfl
 all_goals
  go_enter Tryz.func153, Tryz.ntmps153
  go_wp2_with fail
  refine (Hnm.out _).mono ?_
  rintro e w' ⟨rfl, rfl⟩
  go_wp2
  go_ret2
  exact ⟨rfl, bAx⟩
theorem Text_ok (w : World) (k : Int) (nm : ByteArray) (sv : Int) (h : okB (idOf k nm sv) = true) :
  Calls Tryz.prog 153 #[.agg #[.int .u8 k, .string nm, .int .i64 sv]] w fun e w' => e = .returned (.tuple #[.string (bsOf (textOf (idOf k nm sv))), .int .i64 0]) ∧ Below w.heap.size w w' := by
 obtain ⟨hk, hb, h0, h1⟩ := ok_spec h
 have hn := (name_spec hb).2.2
 simp only [idOf] at hk hb h0 h1 hn
 rw [bl_length] at hn
 obtain ⟨n, rfl⟩ : ∃ n : Nat, sv = n := ⟨sv.toNat, by omega⟩
 have hnm := fun w => RefI.name_ok w nm (by unfold maxLen; omega)
 rw [hb] at hnm
 have hN := fun w => Number_ok w n (by omega)
 obtain ⟨d, hd⟩ := nXe (bsOf (digits n))
 rw [← hd] at hN
 have hz : d.size ≤ 2 := by rw [hd, size_bsOf]; unfold digits; split <;> simp
 have hx0 : (w.alloc (.cells #[.int .u8 k, .string nm, .int .i64 n] 160)).heap[w.heap.size]? = some (.cells #[.int .u8 k, .string nm, .int .i64 n] 160 (0, 0)) := heap_new _ _
 have hB0 : Below w.heap.size w (w.alloc (.cells #[.int .u8 k, .string nm, .int .i64 n] 160)) := bAx
 obtain ⟨w0, hw0⟩ := nXe (w.alloc (.cells #[.int .u8 k, .string nm, .int .i64 n] 160))
 rw [← hw0] at hx0 hB0
 have hl0 := lt_row hx0
 obtain ⟨hc0, hf0⟩ := row_facts hx0
 have Hnm := lh hnm
 have HN := lh hN
 have HB0 := lh hB0
 have Hw0 := lh hw0
 have key : ∀ c : UInt8, sign k = c → (bsOf [c] ++ nm ++ bsOf [58]) ++ d = bsOf (textOf (idOf k nm n)) := by
  intro c hc
  refine bl_inj ?_
  rw [bl_bsOf, hd]
  unfold textOf idOf
  simp only [hc, Int.toNat_natCast]
  simp [bl, bsOf]
 have Key := lh key
 have hq1 : ¬ 9223372036854775807 < 1 + nm.size := by omega
 have hq2 : ¬ 9223372036854775807 < 1 + nm.size + 1 := by omega
 have hq3 : ¬ 9223372036854775807 < 1 + nm.size + 1 + d.size := by omega
 clear hnm hN hB0 hw0 h hb hd key
 rcases hk with rfl | rfl
 ·go_enter Tryz.func153, Tryz.ntmps153
  go_wp2_with fail
  rw [← Hw0.out]
  refine (Hnm.out _).mono ?_
  rintro e w' ⟨rfl, rfl⟩
  go_wp2_with fail
  refine wp_region_noPanic ?_
  refine wp_region_held (S := fun W => W.heap[w.heap.size]? = some (.cells #[.int .u8 1, .string nm, .int .i64 n] 160 (0, 0))) (by kernel_rfl) ?_
  change wpAnyH _ _ _ _ _ _ _ _ (World.drew w0)
  have hS0 : w0.drew.heap[w.heap.size]? = some (.cells #[.int .u8 1, .string nm, .int .i64 n] 160 (0, 0)) := hx0
  refine tkH (i := 0) (v := ?_) rfl (.inl ⟨by rfl, ?_⟩) hS0 ?_
  rotate_left
  ·intro w hSw
   obtain ⟨hcw, hfw⟩ := row_facts hSw
   go_simp
   rfl
  simp only [Act.put, sxx]
  refine tkH (i := 1) (v := ?_) rfl (.inl ⟨by rfl, ?_⟩) hS0 ?_
  rotate_left
  ·intro w hSw
   obtain ⟨hcw, hfw⟩ := row_facts hSw
   go_simp
   rfl
  simp only [Act.put, sxx]
  refine tkH (i := 2) (v := ?_) rfl (.inl ⟨by rfl, ?_⟩) hS0 ?_
  rotate_left
  ·intro w hSw
   obtain ⟨hcw, hfw⟩ := row_facts hSw
   go_simp
   rfl
  simp only [Act.put, sxx]
  refine tkH (i := 3) (v := ?_) rfl (.inl ⟨by rfl, ?_⟩) hS0 ?_
  rotate_left
  ·intro w hSw
   obtain ⟨hcw, hfw⟩ := row_facts hSw
   go_simp
   rfl
  simp only [Act.put, sxx]
  refine tkH (i := 4) (v := ?_) rfl (.inl ⟨by rfl, ?_⟩) hS0 ?_
  rotate_left
  ·intro w hSw
   obtain ⟨hcw, hfw⟩ := row_facts hSw
   go_simp
   rfl
  simp only [Act.put, sxx]
  refine tkH (i := 5) (v := ?_) rfl (.inl ⟨by rfl, ?_⟩) hS0 ?_
  rotate_left
  ·intro w hSw
   obtain ⟨hcw, hfw⟩ := row_facts hSw
   go_simp
   rfl
  simp only [Act.put, sxx]
  refine tkH (i := 6) (v := ?_) rfl (.inl ⟨by rfl, ?_⟩) hS0 ?_
  rotate_left
  ·intro w hSw
   obtain ⟨hcw, hfw⟩ := row_facts hSw
   go_simp
   rfl
  simp only [Act.put, sxx]
  refine aOne (r := 7) ?_
  refine wpOp_call rfl (by rfl) (by go_simp; first | rfl | exact ⟨⟨rfl, rfl⟩, rfl⟩ | exact ⟨rfl, rfl⟩) ?_
  refine (HN.out w0.drew).mono ?_
  rintro e w2 ⟨rfl, rfl⟩
  refine ⟨_, rfl, ?_, ?_⟩
  ·exact hS0
  simp only [Act.put, sxx]
  refine tkH (i := 8) (v := ?_) rfl (.inl ⟨by rfl, ?_⟩) hS0 ?_
  rotate_left
  ·intro w hSw
   obtain ⟨hcw, hfw⟩ := row_facts hSw
   go_simp
   rfl
  simp only [Act.put, sxx]
  refine tkH (i := 9) (v := ?_) rfl (.inl ⟨by rfl, ?_⟩) hS0 ?_
  rotate_left
  ·intro w hSw
   obtain ⟨hcw, hfw⟩ := row_facts hSw
   go_simp
   rfl
  simp only [Act.put, sxx]
  refine tkH (i := 10) (v := ?_) rfl (.inl ⟨by rfl, ?_⟩) hS0 ?_
  rotate_left
  ·intro w hSw
   obtain ⟨hcw, hfw⟩ := row_facts hSw
   go_simp
   rfl
  simp only [Act.put, sxx]
  refine wpAnyH_done (by kernel_rfl) (NoPanic.normal ?_) _
  go_wp2
  go_ret2
  exact ⟨by rw [← Key.out 64 rfl]; rfl, HB0.out.drew⟩
 ·go_enter Tryz.func153, Tryz.ntmps153
  go_wp2_with fail
  rw [← Hw0.out]
  refine (Hnm.out _).mono ?_
  rintro e w' ⟨rfl, rfl⟩
  go_wp2_with fail
  refine wp_region_noPanic ?_
  refine wp_region_held (S := fun W => W.heap[w.heap.size]? = some (.cells #[.int .u8 2, .string nm, .int .i64 n] 160 (0, 0))) (by kernel_rfl) ?_
  change wpAnyH _ _ _ _ _ _ _ _ (World.drew w0)
  have hS0 : w0.drew.heap[w.heap.size]? = some (.cells #[.int .u8 2, .string nm, .int .i64 n] 160 (0, 0)) := hx0
  refine tkH (i := 0) (v := ?_) rfl (.inl ⟨by rfl, ?_⟩) hS0 ?_
  rotate_left
  ·intro w hSw
   obtain ⟨hcw, hfw⟩ := row_facts hSw
   go_simp
   rfl
  simp only [Act.put, sxx]
  refine tkH (i := 1) (v := ?_) rfl (.inl ⟨by rfl, ?_⟩) hS0 ?_
  rotate_left
  ·intro w hSw
   obtain ⟨hcw, hfw⟩ := row_facts hSw
   go_simp
   rfl
  simp only [Act.put, sxx]
  refine tkH (i := 2) (v := ?_) rfl (.inl ⟨by rfl, ?_⟩) hS0 ?_
  rotate_left
  ·intro w hSw
   obtain ⟨hcw, hfw⟩ := row_facts hSw
   go_simp
   rfl
  simp only [Act.put, sxx]
  refine tkH (i := 3) (v := ?_) rfl (.inl ⟨by rfl, ?_⟩) hS0 ?_
  rotate_left
  ·intro w hSw
   obtain ⟨hcw, hfw⟩ := row_facts hSw
   go_simp
   rfl
  simp only [Act.put, sxx]
  refine tkH (i := 4) (v := ?_) rfl (.inl ⟨by rfl, ?_⟩) hS0 ?_
  rotate_left
  ·intro w hSw
   obtain ⟨hcw, hfw⟩ := row_facts hSw
   go_simp
   rfl
  simp only [Act.put, sxx]
  refine tkH (i := 5) (v := ?_) rfl (.inl ⟨by rfl, ?_⟩) hS0 ?_
  rotate_left
  ·intro w hSw
   obtain ⟨hcw, hfw⟩ := row_facts hSw
   go_simp
   rfl
  simp only [Act.put, sxx]
  refine tkH (i := 6) (v := ?_) rfl (.inl ⟨by rfl, ?_⟩) hS0 ?_
  rotate_left
  ·intro w hSw
   obtain ⟨hcw, hfw⟩ := row_facts hSw
   go_simp
   rfl
  simp only [Act.put, sxx]
  refine aOne (r := 7) ?_
  refine wpOp_call rfl (by rfl) (by go_simp; first | rfl | exact ⟨⟨rfl, rfl⟩, rfl⟩ | exact ⟨rfl, rfl⟩) ?_
  refine (HN.out w0.drew).mono ?_
  rintro e w2 ⟨rfl, rfl⟩
  refine ⟨_, rfl, ?_, ?_⟩
  ·exact hS0
  simp only [Act.put, sxx]
  refine tkH (i := 8) (v := ?_) rfl (.inl ⟨by rfl, ?_⟩) hS0 ?_
  rotate_left
  ·intro w hSw
   obtain ⟨hcw, hfw⟩ := row_facts hSw
   go_simp
   rfl
  simp only [Act.put, sxx]
  refine tkH (i := 9) (v := ?_) rfl (.inl ⟨by rfl, ?_⟩) hS0 ?_
  rotate_left
  ·intro w hSw
   obtain ⟨hcw, hfw⟩ := row_facts hSw
   go_simp
   rfl
  simp only [Act.put, sxx]
  refine tkH (i := 10) (v := ?_) rfl (.inl ⟨by rfl, ?_⟩) hS0 ?_
  rotate_left
  ·intro w hSw
   obtain ⟨hcw, hfw⟩ := row_facts hSw
   go_simp
   rfl
  simp only [Act.put, sxx]
  refine wpAnyH_done (by kernel_rfl) (NoPanic.normal ?_) _
  go_wp2
  go_ret2
  exact ⟨by rw [← Key.out 33 rfl]; rfl, HB0.out.drew⟩
end Go.Proofs.YtkcikadgnnjjjaaGreatDoor.RefT
namespace Go.Proofs.YtkcikadgnnjjjaaGreatDoor.RefP
open Go Go.RowKit IdentS IdentP IdentQ RefI RefC
def kd (c : UInt8) : Int := if c = 33 then 2 else 1
theorem parse_colon {s : List UInt8} (h : ∀ c ∈ s.drop 1, c ≠ 58) : IdentS.parse s = none := by
 cases he : IdentS.parse s with
 | none => rfl
 | some x =>
  obtain ⟨_, hs⟩ := parse_iff.1 he
  rw [hs] at h
  exact absurd rfl (h 58 (by simp [textOf]))
theorem parse_split {c : UInt8} {a b : List UInt8} {x : Idn} (ha : ∀ d ∈ a, d ≠ 58) (h : IdentS.parse (c :: (a ++ 58 :: b)) = some x) : ∃ n, cnt b = some n ∧ x = ⟨kd c, a, n⟩ := by
 obtain ⟨ox, hs⟩ := parse_iff.1 h
 obtain ⟨kx, nx, s0, s1⟩ := ok_spec ox
 unfold textOf at hs
 simp only [List.cons.injEq] at hs
 obtain ⟨hc, hs⟩ := hs
 obtain ⟨h1, h2⟩ := split_colon ha (fun d hd => letter_ne ((name_spec nx).1 d hd)) hs
 refine ⟨x.server.toNat, ?_, ?_⟩
 ·rw [h2]
  exact cnt_digits (by omega)
 ·obtain ⟨xk, xn, xs⟩ := x
  simp only at *
  rw [h1, hc]
  have : kd (sign xk) = xk := by rcases kx with rfl | rfl <;> rfl
  rw [this]
  simp only [Idn.mk.injEq, true_and]
  omega
theorem parse_none_cnt {c : UInt8} {a b : List UInt8} (ha : ∀ d ∈ a, d ≠ 58) (h : cnt b = none) : IdentS.parse (c :: (a ++ 58 :: b)) = none := by
 cases he : IdentS.parse (c :: (a ++ 58 :: b)) with
 | none => rfl
 | some x =>
  obtain ⟨n, h1, _⟩ := parse_split ha he
  rw [h] at h1
  cases h1
theorem parse_some_cnt {c : UInt8} {a b : List UInt8} {n : Nat} (ha : ∀ d ∈ a, d ≠ 58) (h : cnt b = some n) :
  IdentS.parse (c :: (a ++ 58 :: b)) = if okB ⟨kd c, a, n⟩ = true ∧ textOf ⟨kd c, a, n⟩ = c :: (a ++ 58 :: b) then some ⟨kd c, a, n⟩ else none := by
 split
 ·rename_i hc
  exact parse_iff.2 ⟨hc.1, hc.2.symm⟩
 ·rename_i hc
  cases he : IdentS.parse (c :: (a ++ 58 :: b)) with
  | none => rfl
  | some x =>
   obtain ⟨m, h1, h2⟩ := parse_split ha he
   rw [h] at h1
   cases h1
   subst h2
   obtain ⟨ox, hs⟩ := parse_iff.1 he
   exact absurd ⟨ox, hs.symm⟩ hc
def set3 (w : World) (B : Nat) (v0 v1 v2 : Value) : World := ((w.setCell ⟨B, 0, none⟩ v0).setCell ⟨B, 1, none⟩ v1).setCell ⟨B, 2, none⟩ v2
theorem fin3 {w w3 : World} {x0 x1 x2 : Value} {t : TypeId} (h : w3.heap[w.heap.size]? = some (.cells #[x0, x1, x2] t (0, 0))) (hb : Below w.heap.size w w3) (v0 v1 v2 : Value) (W4 : World) (hW : W4 = set3 w3 w.heap.size v0 v1 v2) :
  (W4.cell? ⟨w.heap.size, 0, none⟩ = some v0 ∧ W4.cell? ⟨w.heap.size, 1, none⟩ = some v1 ∧ W4.cell? ⟨w.heap.size, 2, none⟩ = some v2) ∧ Below w.heap.size w W4 := by
 have hr : W4.heap[w.heap.size]? = some (.cells #[v0, v1, v2] t (0, 0)) := by
  rw [hW]
  exact heap_setCell_same (heap_setCell_same (heap_setCell_same h _) _) _
 refine ⟨⟨cell_row hr, cell_row hr, cell_row hr⟩, ?_⟩
 rw [hW]
 exact ((hb.setCell (p := ⟨w.heap.size, 0, none⟩) (Nat.le_refl _) _).setCell (p := ⟨w.heap.size, 1, none⟩) (Nat.le_refl _) _).setCell (p := ⟨w.heap.size, 2, none⟩) (Nat.le_refl _) _
theorem Text_any (w : World) (k : Int) (nm : ByteArray) (sv : Int) (hn : nm.size ≤ maxLen) : Calls Tryz.prog 153 #[.agg #[.int .u8 k, .string nm, .int .i64 sv]] w (IdentR.AnyText w) := by
 cases h : okB (idOf k nm sv)
 ·exact (RefT.Text_no w k nm sv hn h).mono fun e w' ⟨h1, h2⟩ => ⟨⟨_, _, h1⟩, h2⟩
 ·exact (RefT.Text_ok w k nm sv h).mono fun e w' ⟨h1, h2⟩ => ⟨⟨_, _, h1⟩, h2⟩
theorem split_at (s : ByteArray) (k : Nat) (h1 : 1 ≤ k) (hk : k < s.size) : bl s = s[0] :: (bl (s.extract 1 k) ++ s[k] :: bl (s.extract (k + 1) s.size)) := by
 have h0 := bl_drop s 0 (by omega)
 have hd := bl_drop s k hk
 rw [List.drop_zero] at h0
 rw [h0, bl_extract, bl_extract]
 congr 1
 have e : (bl s).drop 1 = ((bl s).drop 1).take (k - 1) ++ ((bl s).drop 1).drop (k - 1) := (List.take_append_drop _ _).symm
 rw [Nat.zero_add]
 rw [List.drop_drop, show 1 + (k - 1) = k by omega, hd] at e
 rw [List.take_of_length_le (i := s.size - (k + 1)) (by rw [List.length_drop, bl_length]; omega)]
 exact e
theorem Parse_ok (w : World) (s : ByteArray) (hs : s.size ≤ 140737488351232) : Calls Tryz.prog 131 #[.string s] w (ReadPost (bl s) w) := by
 obtain ⟨w0, hw0⟩ := nXe (w.alloc (.cells #[.int .u8 0, .string ByteArray.empty, .int .i64 0] 160))
 have hB0 : Below w.heap.size w w0 := by rw [hw0]; exact (Below.refl _ w).alloc (Nat.le_refl _) _
 have hx0 : w0.heap[w.heap.size]? = some (.cells #[.int .u8 0, .string ByteArray.empty, .int .i64 0] 160 (0, 0)) := by rw [hw0]; exact heap_new _ _
 have hl0 := lt_row hx0
 have HB0 := lh hB0
 have Hw0 := lh hw0
 obtain ⟨hc0, hf0⟩ := row_facts hx0
 clear hB0 hw0
 go_enter Tryz.func131, Tryz.ntmps131
 go_wp2_with fail
 rw [show (w.alloc (.cells #[.int .u8 0, .string ⟨#[]⟩, .int .i64 0] 160)) = w0 from Hw0.out.symm]
 go_loop [4] (fun i => ∃ k : Nat, i = .int .i64 k ∧ 1 ≤ k ∧ (k ≤ s.size ∨ k = 1) ∧ ∀ d ∈ bl (s.extract 1 k), d ≠ 58) (fun i => s.size - (intOf i).toNat)
 case atStart =>
  refine ⟨1, rfl, by omega, .inr rfl, fun d hd => ?_⟩
  rw [bl_extract] at hd
  simp at hd
 case round =>
  obtain ⟨k, rfl, hk1, hk, hall⟩ := hrel
  have Hall := lh hall
  clear hall
  by_cases hlt : k < s.size
  ·have hsp := split_at s k hk1 hlt
   by_cases h58 : s[k] = 58
   ·have hall0 := Hall.out
    obtain ⟨nm, hnm⟩ := nXe (s.extract 1 k)
    obtain ⟨rest, hrest⟩ := nXe (s.extract (k + 1) s.size)
    have hnmz : nm.size ≤ maxLen := by rw [hnm, ByteArray.size_extract]; unfold maxLen; omega
    have hrz : rest.size ≤ maxLen := by rw [hrest, ByteArray.size_extract]; unfold maxLen; omega
    rw [← hnm] at hall0 hsp
    rw [← hrest, h58] at hsp
    have hC := fun w => Count_ok w rest hrz
    have hT := fun w k n => Text_any w k nm n hnmz
    have hTn := fun w k n h => RefT.Text_no w k nm n hnmz h
    have hTy := fun w k n h => RefT.Text_ok w k nm n h
    have hidd : ∀ (k : Int) (n : Int), idOf k nm n = ⟨k, bl nm, n⟩ := fun _ _ => rfl
    have hb0 : (s[0] = 33 ∧ ((((s[0]).toNat : Int) == 33) = true) ∧ kd s[0] = 2) ∨ (((((s[0]).toNat : Int) == 33) = false) ∧ kd s[0] = 1) := by
     by_cases h : s[0] = 33
     ·exact .inl ⟨h, by rw [h]; rfl, if_pos h⟩
     ·refine .inr ⟨?_, if_neg h⟩
      rw [beq_eq_false_iff_ne]
      intro he
      apply h
      apply UInt8.toNat_inj.1
      show (s[0]).toNat = 33
      omega
    have hb58 : (((s[k]).toNat : Int) != 58) = false := by rw [h58]; rfl
    have hs0 : 0 < s.size := by omega
    have hk31 : k < 9223372036854775807 := by omega
    have Hnm := lh hnm
    have Hrest := lh hrest
    clear Hall hk
    rcases hb0 with ⟨h33, hb0, hkd⟩ | ⟨hb0, hkd⟩
    ·clear h33
     cases hcn : cnt (bl rest) with
     | none =>
      have hfin := parse_none_cnt (c := s[0]) hall0 hcn
      rw [← hsp] at hfin
      have hTx := fun w => hT w 2 0
      rw [hcn] at hC
      have HC := lh hC
      have HTx := lh hTx
      have Hfin := lh hfin
      clear hC hTx hfin hT hTn hTy hidd hcn hsp hall0 hkd hnm hrest h58
      go_wp2_with fail
      rw [← Hrest.out]
      refine (HC.out w0).mono ?_
      rintro e w1 ⟨rfl, rfl⟩
      unfold cntV
      go_wp2_with fail
      try rw [← Hnm.out]
      refine (HTx.out _).mono ?_
      rintro e w3 ⟨⟨T, y, rfl⟩, hb3⟩
      have hx3 := (hb3.block w.heap.size (by simp; omega)).trans ((Below.heap_alloc _ _ _ hl0).trans hx0)
      have hy3 := (hb3.block w0.heap.size (by simp)).trans (heap_new _ _)
      have HB3 := lh ((HB0.out.alloc HB0.out.size _).trans (hb3.mono (HB0.out.alloc HB0.out.size _).size))
      have hl3 := lt_row hx3
      have hm3 := lt_row hy3
      obtain ⟨hc3, hf3⟩ := row_facts hx3
      obtain ⟨hd3, hg3⟩ := row_facts hy3
      clear hb3 hc0 hf0
      go_wp2
      obtain ⟨W4, hW4⟩ := nXe (set3 w3 w.heap.size (.int .u8 0) (.string ByteArray.empty) (.int .i64 0))
      obtain ⟨⟨k0, k1, k2⟩, HB4⟩ := fin3 hx3 HB3.out (.int .u8 0) (.string ByteArray.empty) (.int .i64 0) W4 hW4
      change bodyPost _ _ _ _ _ (set3 w3 w.heap.size (.int .u8 0) (.string ByteArray.empty) (.int .i64 0))
      rw [← hW4]
      refine bodyPost_ret (v := .tuple #[.agg #[.int .u8 0, .string ByteArray.empty, .int .i64 0], .int .i64 6]) (by simp [results, Tryz.results131, go_sem, k0, k1, k2]) rfl ⟨?_, HB4⟩
      rw [Hfin.out]
      rfl
     | some n =>
      have hn63 := (cnt_spec hcn).1
      cases hok : okB ⟨2, bl nm, n⟩
      ·have hfin := parse_some_cnt (c := s[0]) hall0 hcn
       rw [← hsp] at hfin
       rw [hkd] at hfin
       rw [if_neg (fun h => by rw [hok] at h; cases h.1)] at hfin
       have hTx := fun w => hTn w 2 n hok
       rw [hcn] at hC
       have HC := lh hC
       have HTx := lh hTx
       have Hfin := lh hfin
       clear hC hTx hfin hT hTn hTy hidd hcn hsp hall0 hkd hnm hrest h58 hok
       go_wp2_with fail
       rw [← Hrest.out]
       refine (HC.out w0).mono ?_
       rintro e w1 ⟨rfl, rfl⟩
       unfold cntV
       go_wp2_with fail
       try rw [← Hnm.out]
       refine (HTx.out _).mono ?_
       rintro e w3 ⟨rfl, hb3⟩
       have hx3 := (hb3.block w.heap.size (by simp; omega)).trans ((Below.heap_alloc _ _ _ hl0).trans hx0)
       have hy3 := (hb3.block w0.heap.size (by simp)).trans (heap_new _ _)
       have HB3 := lh ((HB0.out.alloc HB0.out.size _).trans (hb3.mono (HB0.out.alloc HB0.out.size _).size))
       have hl3 := lt_row hx3
       have hm3 := lt_row hy3
       obtain ⟨hc3, hf3⟩ := row_facts hx3
       obtain ⟨hd3, hg3⟩ := row_facts hy3
       clear hb3 hc0 hf0
       go_wp2
       obtain ⟨W4, hW4⟩ := nXe (set3 w3 w.heap.size (.int .u8 0) (.string ByteArray.empty) (.int .i64 0))
       obtain ⟨⟨k0, k1, k2⟩, HB4⟩ := fin3 hx3 HB3.out (.int .u8 0) (.string ByteArray.empty) (.int .i64 0) W4 hW4
       change bodyPost _ _ _ _ _ (set3 w3 w.heap.size (.int .u8 0) (.string ByteArray.empty) (.int .i64 0))
       rw [← hW4]
       refine bodyPost_ret (v := .tuple #[.agg #[.int .u8 0, .string ByteArray.empty, .int .i64 0], .int .i64 6]) (by simp [results, Tryz.results131, go_sem, k0, k1, k2]) rfl ⟨?_, HB4⟩
       rw [Hfin.out]
       rfl
      ·by_cases heq : textOf ⟨2, bl nm, n⟩ = bl s
       ·have hfin := parse_some_cnt (c := s[0]) hall0 hcn
        rw [← hsp] at hfin
        rw [hkd] at hfin
        rw [if_pos ⟨hok, heq⟩] at hfin
        have hTx := fun w => hTy w 2 n hok
        rw [hidd, heq, bsOf_bl] at hTx
        have hres : Ending.returned (.tuple #[.agg #[.int .u8 2, .string nm, .int .i64 n], .int .i64 0]) = Ending.returned (readV (some ⟨2, bl nm, n⟩)) := by simp only [readV, bsOf_bl]
        have Hres := lh hres
        clear hres
        rw [hcn] at hC
        have HC := lh hC
        have HTx := lh hTx
        have Hfin := lh hfin
        clear hC hTx hfin hT hTn hTy hidd hcn hsp hall0 hkd hnm hrest h58 hok heq
        go_wp2_with fail
        rw [← Hrest.out]
        refine (HC.out w0).mono ?_
        rintro e w1 ⟨rfl, rfl⟩
        unfold cntV
        go_wp2_with fail
        try rw [← Hnm.out]
        refine (HTx.out _).mono ?_
        rintro e w3 ⟨rfl, hb3⟩
        have hx3 := (hb3.block w.heap.size (by simp; omega)).trans ((Below.heap_alloc _ _ _ hl0).trans hx0)
        have hy3 := (hb3.block w0.heap.size (by simp)).trans (heap_new _ _)
        have HB3 := lh ((HB0.out.alloc HB0.out.size _).trans (hb3.mono (HB0.out.alloc HB0.out.size _).size))
        have hl3 := lt_row hx3
        have hm3 := lt_row hy3
        obtain ⟨hc3, hf3⟩ := row_facts hx3
        obtain ⟨hd3, hg3⟩ := row_facts hy3
        clear hb3 hc0 hf0
        go_wp2
        obtain ⟨W4, hW4⟩ := nXe (set3 w3 w.heap.size (.int .u8 2) (.string nm) (.int .i64 n))
        obtain ⟨⟨k0, k1, k2⟩, HB4⟩ := fin3 hx3 HB3.out (.int .u8 2) (.string nm) (.int .i64 n) W4 hW4
        change bodyPost _ _ _ _ _ (set3 w3 w.heap.size (.int .u8 2) (.string nm) (.int .i64 n))
        rw [← hW4]
        refine bodyPost_ret (v := .tuple #[.agg #[.int .u8 2, .string nm, .int .i64 n], .int .i64 0]) (by simp [results, Tryz.results131, go_sem, k0, k1, k2]) rfl ⟨?_, HB4⟩
        rw [Hfin.out]
        rw [Hres.out]
       ·have hne : textOf ⟨2, bl nm, n⟩ ≠ bl s := heq
        clear heq
        have hfin := parse_some_cnt (c := s[0]) hall0 hcn
        rw [← hsp] at hfin
        rw [hkd] at hfin
        rw [if_neg (fun h => hne h.2)] at hfin
        have hTx := fun w => hTy w 2 n hok
        rw [hidd] at hTx
        obtain ⟨T, hTT⟩ := nXe (bsOf (textOf ⟨2, bl nm, n⟩))
        rw [← hTT] at hTx
        have hTne : (T.toList == s.toList) = false := str_ne (fun h => hne (by rw [← h, hTT, bl_bsOf]))
        rw [hcn] at hC
        have HC := lh hC
        have HTx := lh hTx
        have Hfin := lh hfin
        clear hC hTx hfin hT hTn hTy hidd hcn hsp hall0 hkd hnm hrest h58 hok hne hTT
        go_wp2_with fail
        rw [← Hrest.out]
        refine (HC.out w0).mono ?_
        rintro e w1 ⟨rfl, rfl⟩
        unfold cntV
        go_wp2_with fail
        try rw [← Hnm.out]
        refine (HTx.out _).mono ?_
        rintro e w3 ⟨rfl, hb3⟩
        have hx3 := (hb3.block w.heap.size (by simp; omega)).trans ((Below.heap_alloc _ _ _ hl0).trans hx0)
        have hy3 := (hb3.block w0.heap.size (by simp)).trans (heap_new _ _)
        have HB3 := lh ((HB0.out.alloc HB0.out.size _).trans (hb3.mono (HB0.out.alloc HB0.out.size _).size))
        have hl3 := lt_row hx3
        have hm3 := lt_row hy3
        obtain ⟨hc3, hf3⟩ := row_facts hx3
        obtain ⟨hd3, hg3⟩ := row_facts hy3
        clear hb3 hc0 hf0
        go_wp2
        obtain ⟨W4, hW4⟩ := nXe (set3 w3 w.heap.size (.int .u8 0) (.string ByteArray.empty) (.int .i64 0))
        obtain ⟨⟨k0, k1, k2⟩, HB4⟩ := fin3 hx3 HB3.out (.int .u8 0) (.string ByteArray.empty) (.int .i64 0) W4 hW4
        change bodyPost _ _ _ _ _ (set3 w3 w.heap.size (.int .u8 0) (.string ByteArray.empty) (.int .i64 0))
        rw [← hW4]
        refine bodyPost_ret (v := .tuple #[.agg #[.int .u8 0, .string ByteArray.empty, .int .i64 0], .int .i64 6]) (by simp [results, Tryz.results131, go_sem, k0, k1, k2]) rfl ⟨?_, HB4⟩
        rw [Hfin.out]
        rfl
    ·cases hcn : cnt (bl rest) with
     | none =>
      have hfin := parse_none_cnt (c := s[0]) hall0 hcn
      rw [← hsp] at hfin
      have hTx := fun w => hT w 1 0
      rw [hcn] at hC
      have HC := lh hC
      have HTx := lh hTx
      have Hfin := lh hfin
      clear hC hTx hfin hT hTn hTy hidd hcn hsp hall0 hkd hnm hrest h58
      go_wp2_with fail
      rw [← Hrest.out]
      refine (HC.out w0).mono ?_
      rintro e w1 ⟨rfl, rfl⟩
      unfold cntV
      go_wp2_with fail
      try rw [← Hnm.out]
      refine (HTx.out _).mono ?_
      rintro e w3 ⟨⟨T, y, rfl⟩, hb3⟩
      have hx3 := (hb3.block w.heap.size (by simp; omega)).trans ((Below.heap_alloc _ _ _ hl0).trans hx0)
      have hy3 := (hb3.block w0.heap.size (by simp)).trans (heap_new _ _)
      have HB3 := lh ((HB0.out.alloc HB0.out.size _).trans (hb3.mono (HB0.out.alloc HB0.out.size _).size))
      have hl3 := lt_row hx3
      have hm3 := lt_row hy3
      obtain ⟨hc3, hf3⟩ := row_facts hx3
      obtain ⟨hd3, hg3⟩ := row_facts hy3
      clear hb3 hc0 hf0
      go_wp2
      obtain ⟨W4, hW4⟩ := nXe (set3 w3 w.heap.size (.int .u8 0) (.string ByteArray.empty) (.int .i64 0))
      obtain ⟨⟨k0, k1, k2⟩, HB4⟩ := fin3 hx3 HB3.out (.int .u8 0) (.string ByteArray.empty) (.int .i64 0) W4 hW4
      change bodyPost _ _ _ _ _ (set3 w3 w.heap.size (.int .u8 0) (.string ByteArray.empty) (.int .i64 0))
      rw [← hW4]
      refine bodyPost_ret (v := .tuple #[.agg #[.int .u8 0, .string ByteArray.empty, .int .i64 0], .int .i64 6]) (by simp [results, Tryz.results131, go_sem, k0, k1, k2]) rfl ⟨?_, HB4⟩
      rw [Hfin.out]
      rfl
     | some n =>
      have hn63 := (cnt_spec hcn).1
      cases hok : okB ⟨1, bl nm, n⟩
      ·have hfin := parse_some_cnt (c := s[0]) hall0 hcn
       rw [← hsp] at hfin
       rw [hkd] at hfin
       rw [if_neg (fun h => by rw [hok] at h; cases h.1)] at hfin
       have hTx := fun w => hTn w 1 n hok
       rw [hcn] at hC
       have HC := lh hC
       have HTx := lh hTx
       have Hfin := lh hfin
       clear hC hTx hfin hT hTn hTy hidd hcn hsp hall0 hkd hnm hrest h58 hok
       go_wp2_with fail
       rw [← Hrest.out]
       refine (HC.out w0).mono ?_
       rintro e w1 ⟨rfl, rfl⟩
       unfold cntV
       go_wp2_with fail
       try rw [← Hnm.out]
       refine (HTx.out _).mono ?_
       rintro e w3 ⟨rfl, hb3⟩
       have hx3 := (hb3.block w.heap.size (by simp; omega)).trans ((Below.heap_alloc _ _ _ hl0).trans hx0)
       have hy3 := (hb3.block w0.heap.size (by simp)).trans (heap_new _ _)
       have HB3 := lh ((HB0.out.alloc HB0.out.size _).trans (hb3.mono (HB0.out.alloc HB0.out.size _).size))
       have hl3 := lt_row hx3
       have hm3 := lt_row hy3
       obtain ⟨hc3, hf3⟩ := row_facts hx3
       obtain ⟨hd3, hg3⟩ := row_facts hy3
       clear hb3 hc0 hf0
       go_wp2
       obtain ⟨W4, hW4⟩ := nXe (set3 w3 w.heap.size (.int .u8 0) (.string ByteArray.empty) (.int .i64 0))
       obtain ⟨⟨k0, k1, k2⟩, HB4⟩ := fin3 hx3 HB3.out (.int .u8 0) (.string ByteArray.empty) (.int .i64 0) W4 hW4
       change bodyPost _ _ _ _ _ (set3 w3 w.heap.size (.int .u8 0) (.string ByteArray.empty) (.int .i64 0))
       rw [← hW4]
       refine bodyPost_ret (v := .tuple #[.agg #[.int .u8 0, .string ByteArray.empty, .int .i64 0], .int .i64 6]) (by simp [results, Tryz.results131, go_sem, k0, k1, k2]) rfl ⟨?_, HB4⟩
       rw [Hfin.out]
       rfl
      ·by_cases heq : textOf ⟨1, bl nm, n⟩ = bl s
       ·have hfin := parse_some_cnt (c := s[0]) hall0 hcn
        rw [← hsp] at hfin
        rw [hkd] at hfin
        rw [if_pos ⟨hok, heq⟩] at hfin
        have hTx := fun w => hTy w 1 n hok
        rw [hidd, heq, bsOf_bl] at hTx
        have hres : Ending.returned (.tuple #[.agg #[.int .u8 1, .string nm, .int .i64 n], .int .i64 0]) = Ending.returned (readV (some ⟨1, bl nm, n⟩)) := by simp only [readV, bsOf_bl]
        have Hres := lh hres
        clear hres
        rw [hcn] at hC
        have HC := lh hC
        have HTx := lh hTx
        have Hfin := lh hfin
        clear hC hTx hfin hT hTn hTy hidd hcn hsp hall0 hkd hnm hrest h58 hok heq
        go_wp2_with fail
        rw [← Hrest.out]
        refine (HC.out w0).mono ?_
        rintro e w1 ⟨rfl, rfl⟩
        unfold cntV
        go_wp2_with fail
        try rw [← Hnm.out]
        refine (HTx.out _).mono ?_
        rintro e w3 ⟨rfl, hb3⟩
        have hx3 := (hb3.block w.heap.size (by simp; omega)).trans ((Below.heap_alloc _ _ _ hl0).trans hx0)
        have hy3 := (hb3.block w0.heap.size (by simp)).trans (heap_new _ _)
        have HB3 := lh ((HB0.out.alloc HB0.out.size _).trans (hb3.mono (HB0.out.alloc HB0.out.size _).size))
        have hl3 := lt_row hx3
        have hm3 := lt_row hy3
        obtain ⟨hc3, hf3⟩ := row_facts hx3
        obtain ⟨hd3, hg3⟩ := row_facts hy3
        clear hb3 hc0 hf0
        go_wp2
        obtain ⟨W4, hW4⟩ := nXe (set3 w3 w.heap.size (.int .u8 1) (.string nm) (.int .i64 n))
        obtain ⟨⟨k0, k1, k2⟩, HB4⟩ := fin3 hx3 HB3.out (.int .u8 1) (.string nm) (.int .i64 n) W4 hW4
        change bodyPost _ _ _ _ _ (set3 w3 w.heap.size (.int .u8 1) (.string nm) (.int .i64 n))
        rw [← hW4]
        refine bodyPost_ret (v := .tuple #[.agg #[.int .u8 1, .string nm, .int .i64 n], .int .i64 0]) (by simp [results, Tryz.results131, go_sem, k0, k1, k2]) rfl ⟨?_, HB4⟩
        rw [Hfin.out]
        rw [Hres.out]
       ·have hne : textOf ⟨1, bl nm, n⟩ ≠ bl s := heq
        clear heq
        have hfin := parse_some_cnt (c := s[0]) hall0 hcn
        rw [← hsp] at hfin
        rw [hkd] at hfin
        rw [if_neg (fun h => hne h.2)] at hfin
        have hTx := fun w => hTy w 1 n hok
        rw [hidd] at hTx
        obtain ⟨T, hTT⟩ := nXe (bsOf (textOf ⟨1, bl nm, n⟩))
        rw [← hTT] at hTx
        have hTne : (T.toList == s.toList) = false := str_ne (fun h => hne (by rw [← h, hTT, bl_bsOf]))
        rw [hcn] at hC
        have HC := lh hC
        have HTx := lh hTx
        have Hfin := lh hfin
        clear hC hTx hfin hT hTn hTy hidd hcn hsp hall0 hkd hnm hrest h58 hok hne hTT
        go_wp2_with fail
        rw [← Hrest.out]
        refine (HC.out w0).mono ?_
        rintro e w1 ⟨rfl, rfl⟩
        unfold cntV
        go_wp2_with fail
        try rw [← Hnm.out]
        refine (HTx.out _).mono ?_
        rintro e w3 ⟨rfl, hb3⟩
        have hx3 := (hb3.block w.heap.size (by simp; omega)).trans ((Below.heap_alloc _ _ _ hl0).trans hx0)
        have hy3 := (hb3.block w0.heap.size (by simp)).trans (heap_new _ _)
        have HB3 := lh ((HB0.out.alloc HB0.out.size _).trans (hb3.mono (HB0.out.alloc HB0.out.size _).size))
        have hl3 := lt_row hx3
        have hm3 := lt_row hy3
        obtain ⟨hc3, hf3⟩ := row_facts hx3
        obtain ⟨hd3, hg3⟩ := row_facts hy3
        clear hb3 hc0 hf0
        go_wp2
        obtain ⟨W4, hW4⟩ := nXe (set3 w3 w.heap.size (.int .u8 0) (.string ByteArray.empty) (.int .i64 0))
        obtain ⟨⟨k0, k1, k2⟩, HB4⟩ := fin3 hx3 HB3.out (.int .u8 0) (.string ByteArray.empty) (.int .i64 0) W4 hW4
        change bodyPost _ _ _ _ _ (set3 w3 w.heap.size (.int .u8 0) (.string ByteArray.empty) (.int .i64 0))
        rw [← hW4]
        refine bodyPost_ret (v := .tuple #[.agg #[.int .u8 0, .string ByteArray.empty, .int .i64 0], .int .i64 6]) (by simp [results, Tryz.results131, go_sem, k0, k1, k2]) rfl ⟨?_, HB4⟩
        rw [Hfin.out]
        rfl
   ·have hb58 : (((s[k]).toNat : Int) != 58) = true := by
     simp only [bne_iff_ne]
     intro h
     apply h58
     apply UInt8.toNat_inj.1
     show (s[k]).toNat = 58
     omega
    have hnx : ∀ d ∈ bl (s.extract 1 (k + 1)), d ≠ 58 := by
     intro d hd
     have hg : ((bl s).drop 1)[k - 1]? = some s[k] := by
      rw [List.getElem?_drop, show 1 + (k - 1) = k by omega]
      exact bl_get s k hlt
     rw [bl_extract, show k + 1 - 1 = (k - 1) + 1 by omega, List.take_add_one, hg, List.mem_append] at hd
     rcases hd with hd | hd
     ·exact Hall.out d (by rw [bl_extract]; exact hd)
     ·simp only [Option.toList_some, List.mem_singleton] at hd
      rw [hd]
      exact h58
    have Hnx := lh hnx
    clear hsp hnx
    go_wp2
    go_round
    case rel => exact ⟨k + 1, by go_num, by omega, .inl (by omega), Hnx.out⟩
    case measure => simp [intOf]; omega
  ·have hfin : IdentS.parse (bl s) = none := by
    refine parse_colon fun c hc => Hall.out c ?_
    rw [bl_extract, List.take_of_length_le (by rw [List.length_drop, bl_length]; omega)]
    exact hc
   have Hfin := lh hfin
   clear hfin
   have hx3 := hx0
   have HB3 := HB0
   go_wp2
   obtain ⟨W4, hW4⟩ := nXe (set3 w0 w.heap.size (.int .u8 0) (.string ByteArray.empty) (.int .i64 0))
   obtain ⟨⟨k0, k1, k2⟩, HB4⟩ := fin3 hx3 HB3.out (.int .u8 0) (.string ByteArray.empty) (.int .i64 0) W4 hW4
   change bodyPost _ _ _ _ _ (set3 w0 w.heap.size (.int .u8 0) (.string ByteArray.empty) (.int .i64 0))
   rw [← hW4]
   refine bodyPost_ret (v := .tuple #[.agg #[.int .u8 0, .string ByteArray.empty, .int .i64 0], .int .i64 6]) (by simp [results, Tryz.results131, go_sem, k0, k1, k2]) rfl ⟨?_, HB4⟩
   rw [Hfin.out]
   rfl
end Go.Proofs.YtkcikadgnnjjjaaGreatDoor.RefP
namespace Go.Proofs.YtkcikadgnnjjjaaGreatDoor.RefU
open Go Go.RowKit IdentS IdentP IdentQ RefP
theorem Room_ok (w : World) (s : ByteArray) (hs : s.size ≤ 140737488351232) : Calls Tryz.prog 106 #[.string s] w (IdentR.ServPost (serverOf 2 (bl s)) w) := by
 have hp := Parse_ok w s hs
 cases he : IdentS.parse (bl s) with
 | none =>
  have hfin : serverOf 2 (bl s) = none := by unfold serverOf; rw [he]; rfl
  unfold ReadPost at hp
  rw [he] at hp
  rw [hfin]
  have Hp := lh hp
  clear hp he hfin
  go_enter Tryz.func106, Tryz.ntmps106
  go_wp2_with fail
  refine Hp.out.mono ?_
  rintro e w' ⟨rfl, hb⟩
  have HB := lh hb
  clear hb
  unfold readV
  go_wp2
  go_ret2
  exact ⟨rfl, HB.out.alloc HB.out.size _⟩
 | some x =>
  unfold ReadPost at hp
  rw [he] at hp
  by_cases hk : x.kind = 2
  ·have hfin : serverOf 2 (bl s) = some x.server := by unfold serverOf; rw [he]; exact if_pos hk
   have hkb : (x.kind != 2) = false := by simp [hk]
   rw [hfin]
   have Hp := lh hp
   clear hp he hfin hk
   go_enter Tryz.func106, Tryz.ntmps106
   go_wp2_with fail
   refine Hp.out.mono ?_
   rintro e w' ⟨rfl, hb⟩
   have HB := lh hb
   clear hb
   unfold readV
   go_wp2
   go_ret2
   exact ⟨rfl, HB.out.alloc HB.out.size _⟩
  ·have hfin : serverOf 2 (bl s) = none := by unfold serverOf; rw [he]; exact if_neg hk
   have hkb : (x.kind != 2) = true := by simp [hk]
   rw [hfin]
   have Hp := lh hp
   clear hp he hfin hk
   go_enter Tryz.func106, Tryz.ntmps106
   go_wp2_with fail
   refine Hp.out.mono ?_
   rintro e w' ⟨rfl, hb⟩
   have HB := lh hb
   clear hb
   unfold readV
   go_wp2
   go_ret2
   exact ⟨rfl, HB.out.alloc HB.out.size _⟩
end Go.Proofs.YtkcikadgnnjjjaaGreatDoor.RefU
namespace Go.Proofs.YtkcikadgnnjjjaaGreatDoor.EvRC
open Go Go.RowKit IdentS EventS OctP IdentP IdentQ IdentR EventP EventC
theorem room_at (s : ByteArray) (hs : s.size ≤ 140737488351232) : ∃ n : Int, ∀ w, Calls Tryz.prog 106 #[.string s] w (RB (.tuple #[.int .i64 n, .bool (roomB (bl s))]) w) := by
 unfold roomB
 cases h : serverOf 2 (bl s) with
 | none => exact ⟨0, fun w => by have := RefU.Room_ok w s hs; unfold ServPost at this; rw [h] at this; exact this⟩
 | some n => exact ⟨n, fun w => by have := RefU.Room_ok w s hs; unfold ServPost at this; rw [h] at this; exact this⟩
end Go.Proofs.YtkcikadgnnjjjaaGreatDoor.EvRC
namespace Go.Proofs.YtkcikadgnnjjjaaGreatDoor.DlT
open Go Go.RowKit Go.Shelf OctetS IdentS EntS OctP OctQ OctG IdentP EntP EventC ShaA Steps KeyA KeyS KeyK TreeA WireS WireT
theorem idx_0 (a b c d : Int) (w : World) : (Instr.index 123 (.agg #[.int .i64 a, .int .i64 b, .int .i64 c, .int .i64 d]) (.int .i64 0)).run Tryz.prog w = .ok (.int .i64 a) w := by kernel_rfl
theorem idx_1 (a b c d : Int) (w : World) : (Instr.index 123 (.agg #[.int .i64 a, .int .i64 b, .int .i64 c, .int .i64 d]) (.int .i64 1)).run Tryz.prog w = .ok (.int .i64 b) w := by kernel_rfl
theorem idx_2 (a b c d : Int) (w : World) : (Instr.index 123 (.agg #[.int .i64 a, .int .i64 b, .int .i64 c, .int .i64 d]) (.int .i64 2)).run Tryz.prog w = .ok (.int .i64 c) w := by kernel_rfl
theorem idx_3 (a b c d : Int) (w : World) : (Instr.index 123 (.agg #[.int .i64 a, .int .i64 b, .int .i64 c, .int .i64 d]) (.int .i64 3)).run Tryz.prog w = .ok (.int .i64 d) w := by kernel_rfl
attribute [local go_sem] idx_0 idx_1 idx_2 idx_3
attribute [-go_sem] run_equalIn_agg
end Go.Proofs.YtkcikadgnnjjjaaGreatDoor.DlT
namespace Go.Proofs.YtkcikadgnnjjjaaGreatDoor.PkS
open Go Go.RowKit Go.Shelf OctP OctG RowsX Lift ShaS KeyS ShaA ShaB Steps KeyA KeyB KeyG KeyI KeyK TreeA TreeE TreeF TreeG WireT
attribute [-go_sem] Builtin.append_
theorem Sign_over (w : World) (R : Nat) (s text : ByteArray) (h : Nat) (v : Value) (x : H32) (L : List Value) (hh : h ≤ 7) (hr : w.heap[R]? = some (.cells (ringA s h (2 ^ h : Nat) v x) 75 (0, 0))) (hv : Sl w v 32 (2 ^ h) L) :
  Calls Tryz.prog 40 #[.pointer (some ⟨R, 0, none⟩), .string text] w (RB (.tuple #[.string ⟨#[]⟩, .int .i64 10]) w) := by
 obtain ⟨a, cap, rfl, hcap, hm⟩ := hv.form
 obtain ⟨M, hM⟩ := nXe (2 ^ h)
 have hM128 : M ≤ 128 := by rw [hM]; exact Nat.le_trans (Nat.pow_le_pow_right (by omega) hh) (by omega)
 rw [← hM] at hr
 obtain ⟨g0, g1, g2, g3⟩ := ringA_get s h (M : Int) (.slice a M cap) x
 have c2 : w.cell? ⟨R, 2, none⟩ = some (.int .i64 (M : Int)) := (cell_row hr).trans g2
 have c3 : w.cell? ⟨R, 3, none⟩ = some (.slice a M cap) := (cell_row hr).trans g3
 clear hr hv hcap hm g0 g1 g2 g3 hM
 go_enter Tryz.func40, Tryz.ntmps40
 go_wp2
 go_ret2
 exact ⟨rfl, Below.refl _ _⟩
theorem Key_ok (w : World) (R : Nat) (s : ByteArray) (h nx : Int) (v : Value) (x : H32) (hr : w.heap[R]? = some (.cells (ringA s h nx v x) 75 (0, 0))) :
  Calls Tryz.prog 14 #[.pointer (some ⟨R, 0, none⟩)] w (RB (.agg (kyA s h nx)) w) := by
 obtain ⟨g0, g1, g2, _⟩ := ringA_get s h nx v x
 have hlt := lt_row hr
 obtain ⟨K, hK⟩ := nXe (kyA s h nx)
 rw [← hK]
 have hKn : K.size = 3 := by rw [hK]; rfl
 have HKS := lh (show (Tryz.prog.info? 23).map (·.size) = some K.size by rw [hKn]; kernel_rfl)
 have HKO := lh (show K.all (·.oneCell') = true by rw [hK]; simp [kyA, Value.oneCell'])
 have HKN := lh (show 3 = K.size from hKn.symm)
 have hc : ∀ (j : Nat) (u : Value), K.toList[j]? = some u → w.cell? ⟨R, 0 + j, none⟩ = some u := by
  intro j u hu
  rw [hK] at hu
  rw [Nat.zero_add, cell_row hr]
  rcases j with _ | _ | _ | j
  ·exact g0.trans hu
  ·exact g1.trans hu
  ·exact g2.trans hu
  ·simp [kyA] at hu
 obtain ⟨w0, hw0⟩ := nXe (w.alloc (.cells #[.string ⟨#[]⟩, .int .i64 0, .int .i64 0] 23))
 have hb0 : Below w.heap.size w w0 := by rw [hw0]; exact (Below.refl _ w).alloc (Nat.le_refl _) _
 have HX0 := lh (show w0.heap[w.heap.size]? = some (.cells #[.string ⟨#[]⟩, .int .i64 0, .int .i64 0] 23 (0, 0)) by rw [hw0]; exact heap_new _ _)
 have HB0 := lh hb0
 have HW0 := lh hw0
 have Hc := lh (show ∀ (j : Nat) (u : Value), K.toList[j]? = some u → w0.cell? ⟨R, 0 + j, none⟩ = some u from fun j u h => (hb0.cell (p := ⟨R, 0 + j, none⟩) hlt).trans (hc j u h))
 have hr0 := (hb0.block _ hlt).trans hr
 obtain ⟨cr, fr⟩ := row_facts hr0
 clear hc hK hw0 hb0 hr g0 g1 g2 hr0
 go_enter Tryz.func14, Tryz.ntmps14
 go_wp2_with (first | (rw [← HW0.out]; refine wpList_load_rowO rfl _ _ rfl R 0 rfl K Hc.out Tryz.underlying23 rfl HKS.out ?_) | (refine wpList_load_rowO rfl _ _ rfl R 0 rfl K Hc.out Tryz.underlying23 rfl HKS.out ?_) | (refine wpList_store_rowA rfl _ _ _ rfl w.heap.size K rfl rfl _ _ HX0.out HKS.out (by rw [← HKN.out]; rfl) HKO.out ?_) | fail)
 intro wf hwf
 go_wp2
 refine bodyPost_ret (v := .agg K) (results_cell_row rfl _ _ w.heap.size _ K (0, 0) _ rfl (by rw [hwf.out]; exact setRow_at HX0.out) Tryz.underlying23 rfl HKS.out) rfl ⟨rfl, by rw [hwf.out]; exact below_row HB0.out (Nat.le_refl _) _⟩
end Go.Proofs.YtkcikadgnnjjjaaGreatDoor.PkS
namespace Go.Proofs.YtkcikadgnnjjjaaGreatDoor.EgS
open Go Go.RowKit Go.Shelf OctetS IdentS EntS OctP OctQ OctG IdentP EntP EventC ShaA Steps KeyA KeyS KeyI KeyK TreeA WireS WireT
def signS (sd : ByteArray) (h nx : Nat) (chk : Bool) (t : List UInt8) (s : ByteArray) : ByteArray × Nat × Int :=
 if chk = true then (if nx = 2 ^ h then (s, nx, 10) else (bsOf (sigOf (bl sd) h nx t), nx + 1, 0)) else (s, nx, 2)
end Go.Proofs.YtkcikadgnnjjjaaGreatDoor.EgS
namespace Go.Proofs.YtkcikadgnnjjjaaGreatDoor.EgK
open Go Go.RowKit Go.Shelf OctetS IdentS EntS OctP OctQ OctG IdentP EntP EventC ShaA Steps KeyA KeyS KeyI KeyK TreeA WireS WireT
theorem eqKey (r1 r2 : ByteArray) (a1 a2 b1 b2 : Int) (w : World) : (Op.equalIn 10000 23 (.agg (kyA r1 a1 b1)) (.agg (kyA r2 a2 b2))).run Tryz.prog w =
  .ok (r1.toList == r2.toList && (a1 == a2 && b1 == b2)) w := by
 have u3 : Tryz.prog.underlying 3 = some (.int .i64) := by kernel_rfl
 have u9 : Tryz.prog.underlying 9 = some .string := by kernel_rfl
 have hS : Tryz.prog.underlying 23 = some (.struct (Tryz.prog.fieldsOf 23)) := by kernel_rfl
 have hF : (Tryz.prog.fieldsOf 23).toList = [⟨"Seed", 9, 0, false, "", "", 0⟩, ⟨"High", 3, 1, false, "", "", 16⟩, ⟨"Next", 3, 2, false, "", "", 24⟩] := by kernel_rfl
 have hp : Tryz.prog.stoodInHeld 23 = false := by kernel_rfl
 unfold kyA
 rw [show (10000 : Nat) = 9999 + 1 from rfl, run_equalIn_agg w 9999 23 _ _ hS hp, hF]
 go_simp
 cases h1 : r1.toList == r2.toList <;> cases h2 : a1 == a2 <;> cases h3 : b1 == b2 <;> simp_all
theorem guardKey : Go.Program.eqGuardType Tryz.prog Tryz.prog.depth 23 = false := by kernel_rfl
theorem eq_self (s : ByteArray) (h n : Int) (w : World) : (Op.equalIn 10000 23 (.agg (kyA s h n)) (.agg (kyA s h n))).run Tryz.prog w = .ok true w := by
 rw [eqKey]
 simp
theorem sign_size {sd : ByteArray} {h nx : Nat} {c : Bool} {t : List UInt8} {s G : ByteArray} {m : Nat} {y : Int} (hS : ((G, m, y) : ByteArray × Nat × Int) = EgS.signS sd h nx c t s) (hs : s.size ≤ maxLen) (hh : h ≤ 7) (hn : nx ≤ 2 ^ h) : G.size ≤ maxLen := by
 unfold EgS.signS at hS
 split at hS
 ·split at hS
  ·rw [(Prod.mk.inj hS).1]
   exact hs
  ·rename_i hne
   rw [(Prod.mk.inj hS).1, size_bsOf, sigOf_length (by omega)]
   unfold maxLen
   omega
 ·rw [(Prod.mk.inj hS).1]
  exact hs
end Go.Proofs.YtkcikadgnnjjjaaGreatDoor.EgK
