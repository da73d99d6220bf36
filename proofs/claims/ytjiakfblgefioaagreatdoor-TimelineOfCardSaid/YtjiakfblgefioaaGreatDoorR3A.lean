/-
  WHAT IS PROVED: what the document's own answer leaves of an event, and the sums that it makes of one. Condition: the strings are not longer than the theorems say, and the kind is a number of eight bits.
-/
import Derived.Test.YtjiakfblgefioaaGreatDoorRed
import Derived.Test.YtjiakfblgefioaaGreatDoorEvR
import Derived.Test.YtjiakfblgefioaaGreatDoorR2
namespace Go.Proofs.YtjiakfblgefioaaGreatDoor.R3A
open Go Go.RowKit Go.Proofs.YtjiakfblgefioaaGreatDoor Go.Proofs.YtjiakfblgefioaaGreatDoor.OctetS Go.Proofs.YtjiakfblgefioaaGreatDoor.IdentS Go.Proofs.YtjiakfblgefioaaGreatDoor.EventS Go.Proofs.YtjiakfblgefioaaGreatDoor.OctP Go.Proofs.YtjiakfblgefioaaGreatDoor.IdentP Go.Proofs.YtjiakfblgefioaaGreatDoor.EventP Go.Proofs.YtjiakfblgefioaaGreatDoor.EventC Go.Proofs.YtjiakfblgefioaaGreatDoor.EventB Go.Proofs.YtjiakfblgefioaaGreatDoor.ShaB Go.Proofs.YtjiakfblgefioaaGreatDoor.ShaA Go.Proofs.YtjiakfblgefioaaGreatDoor.Steps Go.Proofs.YtjiakfblgefioaaGreatDoor.RedactS Go.Proofs.YtjiakfblgefioaaGreatDoor.RedA Go.Proofs.YtjiakfblgefioaaGreatDoor.RedB
set_option linter.unusedVariables false
set_option linter.unusedSimpArgs false

set_option maxHeartbeats 1000000 in
theorem Redact_ok (w : World) (r s : ByteArray) (k : Int) (ky b : ByteArray) (n : Int) :
    Calls Tryz.prog 83 #[evV r s k ky b n] w (RB (evV r s k ky (bodyOf k b) n) w) := by
  obtain ⟨p, hp⟩ : ∃ p : Array Value, p = #[.string r, .string s, .int .u8 k, .string ky, .string (bodyOf k b), .int .i64 n] := ⟨_, rfl⟩
  have hps : p.size = 6 := by rw [hp]; rfl
  have hpo : p.all (·.oneCell') = true := by rw [hp]; simp [Value.oneCell']
  unfold evV
  rw [← hp]
  have hcase : k = 6 ∨ ((k == 6) = false ∧ k = 5) ∨ ((k == 6) = false ∧ (k == 5) = false) := by
    rcases Classical.em (k = 6) with h | h
    · exact .inl h
    · rcases Classical.em (k = 5) with h' | h'
      · exact .inr (.inl ⟨by simpa using h, h'⟩)
      · exact .inr (.inr ⟨by simpa using h, by simpa using h'⟩)
  have HP := Lib.hid hp
  have HPS := Lib.hid hps
  clear hp hps hpo
  have hi : (Tryz.prog.info? 56).map (·.size) = some 6 := by kernel_rfl
  have Hi := Lib.hid hi
  clear hi
  rcases hcase with rfl | ⟨h6, rfl⟩ | ⟨h6, h5⟩
  · go_enter Tryz.func83, Tryz.ntmps83
    go_wp2
    obtain ⟨W0, hW0⟩ : ∃ W0, W0 = w.alloc (.cells #[.string r, .string s, .int .u8 6, .string ky, .string ⟨#[]⟩, .int .i64 n] 56) := ⟨_, rfl⟩
    have hB0 : Below w.heap.size w W0 := by rw [hW0]; exact (Below.refl _ w).alloc (Nat.le_refl _) _
    have hz : W0.heap.size = w.heap.size + 1 := by rw [hW0]; simp
    rw [← hW0, ← hz]
    refine bodyPost_ret (v := .agg p) (results_cell_row rfl _ _ W0.heap.size 56 p (0, 0) _ rfl ((heap_new _ _).trans ?_) Tryz.underlying56 rfl (by rw [HPS.out]; exact Hi.out)) rfl ⟨rfl, hB0.alloc (by omega) _⟩
    rw [HP.out]
    rfl
  · go_enter Tryz.func83, Tryz.ntmps83
    go_wp2
    obtain ⟨W0, hW0⟩ : ∃ W0, W0 = w.alloc (.cells #[.string r, .string s, .int .u8 5, .string ky, .string ⟨#[]⟩, .int .i64 n] 56) := ⟨_, rfl⟩
    have hB0 : Below w.heap.size w W0 := by rw [hW0]; exact (Below.refl _ w).alloc (Nat.le_refl _) _
    have hz : W0.heap.size = w.heap.size + 1 := by rw [hW0]; simp
    rw [← hW0, ← hz]
    refine bodyPost_ret (v := .agg p) (results_cell_row rfl _ _ W0.heap.size 56 p (0, 0) _ rfl ((heap_new _ _).trans ?_) Tryz.underlying56 rfl (by rw [HPS.out]; exact Hi.out)) rfl ⟨rfl, hB0.alloc (by omega) _⟩
    rw [HP.out]
    rfl
  · go_enter Tryz.func83, Tryz.ntmps83
    go_wp2
    obtain ⟨W0, hW0⟩ : ∃ W0, W0 = w.alloc (.cells #[.string r, .string s, .int .u8 k, .string ky, .string b, .int .i64 n] 56) := ⟨_, rfl⟩
    have hB0 : Below w.heap.size w W0 := by rw [hW0]; exact (Below.refl _ w).alloc (Nat.le_refl _) _
    have hz : W0.heap.size = w.heap.size + 1 := by rw [hW0]; simp
    rw [← hW0, ← hz]
    refine bodyPost_ret (v := .agg p) (results_cell_row rfl _ _ W0.heap.size 56 p (0, 0) _ rfl ((heap_new _ _).trans ?_) Tryz.underlying56 rfl (by rw [HPS.out]; exact Hi.out)) rfl ⟨rfl, hB0.alloc (by omega) _⟩
    rw [HP.out]
    rw [show bodyOf k b = b from if_neg (by have a6 := ne_of_beq_false h6; have a5 := ne_of_beq_false h5; omega)]

/-- The text that is summed; empty: the event is not right. -/
def txt (c : ByteArray) (x : Ev) : ByteArray := if checkB x then c ++ bsOf (EventS.bytes x) else ⟨#[]⟩
theorem txt_size (c : ByteArray) (hc : c.size ≤ 1) (x : Ev) : (txt c x).size ≤ 700 := by
  unfold txt
  split
  · rename_i h
    have hl0 := (check_iff.1 h).length
    rw [ByteArray.size_append, size_bsOf]
    omega
  · exact Nat.zero_le _

set_option maxRecDepth 100000 in
set_option maxHeartbeats 1000000 in
theorem Text_ok (w : World) (c : ByteArray) (hc : c.size ≤ 1) (r s : ByteArray) (k : Int) (ky b : ByteArray) (n : Int) (h0 : 0 ≤ k) (h1 : k ≤ 255) (hr : r.size ≤ 140737488351232) (hs : s.size ≤ 140737488351232) (hk : ky.size ≤ 140737488351232) (hb : b.size ≤ maxLen) :
    Calls Tryz.prog 82 #[.string c, evV r s k ky b n] w (RB (.string (txt c (evOf r s k ky b n))) w) := by
  have hB := fun w => EvRB.Bytes_ok w r s k ky b n h0 h1 hr hs hk hb
  unfold bytesOf at hB
  obtain ⟨W0, hW0⟩ : ∃ W0, W0 = w.alloc (.cells #[.string r, .string s, .int .u8 k, .string ky, .string b, .int .i64 n] 56) := ⟨_, rfl⟩
  have hB0 : Below w.heap.size w W0 := by rw [hW0]; exact (Below.refl _ w).alloc (Nat.le_refl _) _
  have hx0 : W0.heap[w.heap.size]? = some (.cells #[.string r, .string s, .int .u8 k, .string ky, .string b, .int .i64 n] 56 (0, 0)) := by rw [hW0]; exact heap_new _ _
  have hc0 := row_facts hx0
  have hl := lt_row hx0
  have HW := Lib.hid hW0
  have HB := Lib.hid hB0
  have HS := Lib.hid hB
  clear hW0 hB0 hB
  unfold evV txt at *
  cases h : checkB (evOf r s k ky b n)
  · rw [h] at HS
    rw [if_neg (by decide)]
    go_enter Tryz.func82, Tryz.ntmps82
    go_wp2_with fail
    rw [← HW.out]
    refine (HS.out W0).mono ?_
    rintro e w1 ⟨rfl, hb1⟩
    have HB1 := Lib.hid (HB.out.trans (hb1.mono HB.out.size))
    clear hb1
    rw [show whyOf false = 2 from rfl]
    go_wp2
    go_ret
    exact ⟨rfl, HB1.out⟩
  · rw [h, if_pos rfl] at HS
    have hl0 := (check_iff.1 h).length
    rw [if_pos rfl]
    obtain ⟨T, hT⟩ : ∃ T, T = bsOf (EventS.bytes (evOf r s k ky b n)) := ⟨_, rfl⟩
    have hTs : T.size ≤ 620 := by rw [hT, size_bsOf]; exact hl0
    rw [← hT] at HS ⊢
    clear hT hl0
    go_enter Tryz.func82, Tryz.ntmps82
    go_wp2_with fail
    rw [← HW.out]
    refine (HS.out W0).mono ?_
    rintro e w1 ⟨rfl, hb1⟩
    have HB1 := Lib.hid (HB.out.trans (hb1.mono HB.out.size))
    clear hb1
    rw [show whyOf true = 0 from rfl]
    go_wp2
    go_ret
    exact ⟨rfl, HB1.out⟩

/-- The sum of a text that is not empty. -/
def sumT (s : ByteArray) : Value := if s.toList.isEmpty then .tuple #[hV [], .int .i64 2] else .tuple #[hV (ShaS.sum (bl s)), .int .i64 0]
set_option maxRecDepth 100000 in
set_option maxHeartbeats 1000000 in
theorem sum_ok (w : World) (s : ByteArray) (hs : s.size ≤ 140737488351232) :
    Calls Tryz.prog 81 #[.string s] w (RB (sumT s) w) := by
  have hS := fun w => R2M.Sum_ok w s hs
  obtain ⟨W0, hW0⟩ : ∃ W0, W0 = w.alloc (.cells (pB 32 []) 60) := ⟨_, rfl⟩
  have hB0 : Below w.heap.size w W0 := by rw [hW0]; exact (Below.refl _ w).alloc (Nat.le_refl _) _
  have hy0 : W0.heap[w.heap.size]? = some (.cells (pB 32 []) 60 (0, 0)) := by rw [hW0]; exact heap_new _ _
  have hz : (#[.int .u8 0, .int .u8 0, .int .u8 0, .int .u8 0, .int .u8 0, .int .u8 0, .int .u8 0, .int .u8 0, .int .u8 0, .int .u8 0, .int .u8 0, .int .u8 0, .int .u8 0, .int .u8 0, .int .u8 0, .int .u8 0, .int .u8 0, .int .u8 0, .int .u8 0, .int .u8 0, .int .u8 0, .int .u8 0, .int .u8 0, .int .u8 0, .int .u8 0, .int .u8 0, .int .u8 0, .int .u8 0, .int .u8 0, .int .u8 0, .int .u8 0, .int .u8 0] : Array Value) = pB 32 [] := by kernel_rfl
  have hi : (Tryz.prog.info? 60).map (·.size) = some 32 := by kernel_rfl
  have Hz := Lib.hid hz
  have Hi := Lib.hid hi
  have HW := Lib.hid hW0
  have HB := Lib.hid hB0
  have HY := Lib.hid hy0
  have HS := Lib.hid hS
  have hl1 := lt_row hy0
  clear hi hz hW0 hB0 hy0 hS
  unfold sumT
  cases h : s.toList.isEmpty
  · have hne : (s.toList == []) = false := by
      cases h' : s.toList with
      | nil => rw [h'] at h; exact absurd h (by decide)
      | cons a t => rfl
    rw [if_neg (by decide)]
    unfold hV
    obtain ⟨p, hp⟩ : ∃ p, p = pB 32 (ShaS.sum (bl s)) := ⟨_, rfl⟩
    have hps : p.size = 32 := by rw [hp]; exact pB_size (by rw [ShaS.sum_length]; omega)
    have hpo : p.all (·.oneCell') = true := by rw [hp]; exact pB_one _ _
    rw [← hp] at HS ⊢
    have HPS := Lib.hid hps
    have HPO := Lib.hid hpo
    clear hp hps hpo
    go_enter Tryz.func81, Tryz.ntmps81
    go_wp2_with fail
    rw [Hz.out, ← HW.out]
    refine (HS.out W0).mono ?_
    rintro e w2 ⟨rfl, hb2⟩
    have HY2 := Lib.hid ((hb2.block _ hl1).trans HY.out)
    have HB2 := Lib.hid (HB.out.trans (hb2.mono HB.out.size))
    clear hb2
    go_wp2_with (refine wpList_store_rowA rfl _ _ _ rfl w.heap.size p rfl rfl _ _ HY2.out (by rw [HPS.out]; exact Hi.out) (by rw [HPS.out]; rfl) HPO.out ?_)
    intro w3 hw3
    go_wp2
    refine bodyPost_ret (v := .tuple #[.agg p, .int .i64 0]) (results_cell_slot rfl _ _ w.heap.size 60 p (0, 0) _ rfl (by rw [hw3.out]; exact setRow_at HY2.out) Tryz.underlying60 rfl (by rw [HPS.out]; exact Hi.out) rfl) rfl ⟨rfl, by rw [hw3.out]; exact below_row HB2.out (Nat.le_refl _) _⟩
  · rw [if_pos rfl]
    unfold hV
    go_enter Tryz.func81, Tryz.ntmps81
    go_wp2_with (refine wpList_store_rowA rfl _ _ _ rfl w.heap.size (pB 32 []) rfl (by rw [← Hz.out]; rfl) _ _ (by rw [Hz.out, ← HW.out]; exact HY.out) (by rw [pB_size (by simp)]; exact Hi.out) rfl (pB_one _ _) ?_)
    intro w2 hw2
    have hw2' := hw2.out
    rw [Hz.out, ← HW.out] at hw2'
    have Hw2 := Lib.hid hw2'
    clear hw2 hw2'
    go_wp2
    refine bodyPost_ret (v := .tuple #[.agg (pB 32 []), .int .i64 2]) (results_cell_slot rfl _ _ w.heap.size 60 (pB 32 []) (0, 0) _ rfl (by rw [Hw2.out]; exact setRow_at HY.out) Tryz.underlying60 rfl (by rw [pB_size (by simp)]; exact Hi.out) rfl) rfl ⟨rfl, by rw [Hw2.out]; exact below_row HB.out (Nat.le_refl _) _⟩

theorem sumT_some (s : ByteArray) : ∃ (l : List UInt8) (E : Int), l.length ≤ 32 ∧ sumT s = .tuple #[.agg (pB 32 l), .int .i64 E] := by
  unfold sumT hV
  split
  · exact ⟨[], 2, by simp, rfl⟩
  · exact ⟨_, 0, Nat.le_of_eq (ShaS.sum_length _), rfl⟩
theorem sumT_txt (a : UInt8) (x : Ev) : sumT (txt ⟨#[a]⟩ x) = sumV [a] x := by
  unfold sumV txt
  cases h : checkB x
  · rw [if_neg (by decide), if_neg (by decide)]
    unfold sumT
    rw [bl_toList, show bl ⟨#[]⟩ = [] from rfl]
    rfl
  · rw [if_pos rfl, if_pos rfl]
    have e : bl (⟨#[a]⟩ ++ bsOf (EventS.bytes x)) = [a] ++ EventS.bytes x := by rw [bl_append, bl_bsOf]; rfl
    unfold sumT
    rw [bl_toList, e]
    rfl

set_option maxRecDepth 100000 in
set_option maxHeartbeats 1000000 in
theorem Ref_ok (w : World) (r s : ByteArray) (k : Int) (ky b : ByteArray) (n : Int) (h0 : 0 ≤ k) (h1 : k ≤ 255) (hr : r.size ≤ 140737488351232) (hs : s.size ≤ 140737488351232) (hk : ky.size ≤ 140737488351232) (hb : b.size ≤ maxLen) :
    Calls Tryz.prog 63 #[evV r s k ky b n] w (RB (refV (evOf r s k ky b n)) w) := by
  have hC := fun w => EvRC.Check_ok w r s k ky b n h0 h1 hr hs hk hb
  have hR := fun w => Redact_ok w r s k ky b n
  have hT := fun w => Text_ok w ⟨#[6]⟩ (by decide) r s k ky (bodyOf k b) n h0 h1 hr hs hk (Nat.le_trans (bodyOf_size k b) hb)
  rw [evOf_redact] at hT
  have hsz := txt_size ⟨#[6]⟩ (by decide) (redact (evOf r s k ky b n))
  have hq := sumT_txt 6 (redact (evOf r s k ky b n))
  obtain ⟨T, hTT⟩ : ∃ T, T = txt ⟨#[6]⟩ (redact (evOf r s k ky b n)) := ⟨_, rfl⟩
  rw [← hTT] at hT hsz hq
  have hS := fun w => sum_ok w T (by omega)
  rw [hq] at hS
  have HT := Lib.hid hT
  clear hT hTT hsz hq
  obtain ⟨W0, hW0⟩ : ∃ W0, W0 = (w.alloc (.cells #[.string r, .string s, .int .u8 k, .string ky, .string b, .int .i64 n] 56)).alloc (.cells (pB 32 []) 60) := ⟨_, rfl⟩
  have hB0 : Below w.heap.size w W0 := by rw [hW0]; exact ((Below.refl _ w).alloc (Nat.le_refl _) _).alloc (by simp) _
  have hx0 : W0.heap[w.heap.size]? = some (.cells #[.string r, .string s, .int .u8 k, .string ky, .string b, .int .i64 n] 56 (0, 0)) := by rw [hW0]; exact heap_at (heap_new _ _) _
  have hy0 : W0.heap[w.heap.size + 1]? = some (.cells (pB 32 []) 60 (0, 0)) := by rw [hW0]; exact heap_new' _ (by simp)
  have hz : (#[.int .u8 0, .int .u8 0, .int .u8 0, .int .u8 0, .int .u8 0, .int .u8 0, .int .u8 0, .int .u8 0, .int .u8 0, .int .u8 0, .int .u8 0, .int .u8 0, .int .u8 0, .int .u8 0, .int .u8 0, .int .u8 0, .int .u8 0, .int .u8 0, .int .u8 0, .int .u8 0, .int .u8 0, .int .u8 0, .int .u8 0, .int .u8 0, .int .u8 0, .int .u8 0, .int .u8 0, .int .u8 0, .int .u8 0, .int .u8 0, .int .u8 0, .int .u8 0] : Array Value) = pB 32 [] := by kernel_rfl
  have hi : (Tryz.prog.info? 60).map (·.size) = some 32 := by kernel_rfl
  have Hz := Lib.hid hz
  have Hi := Lib.hid hi
  have HW := Lib.hid hW0
  have HB := Lib.hid hB0
  have HY := Lib.hid hy0
  have hl := lt_row hx0
  have hl1 := lt_row hy0
  clear hi hz hW0 hB0 hy0
  have hc0 := row_facts hx0
  unfold refV
  cases h : checkB (evOf r s k ky b n)
  · clear hS hR
    rw [h] at hC
    rw [if_neg (by decide), hV_eq]
    have HC := Lib.hid hC
    clear hC
    unfold evV at HC ⊢
    go_enter Tryz.func63, Tryz.ntmps63
    go_wp2_with fail
    rw [Hz.out, ← HW.out]
    refine (HC.out W0).mono ?_
    rintro e w1 ⟨rfl, hb1⟩
    have HY1 := Lib.hid ((hb1.block _ hl1).trans HY.out)
    have HB1 := Lib.hid (HB.out.trans (hb1.mono HB.out.size))
    clear hb1
    go_wp2_with (refine wpList_store_rowA rfl _ _ _ rfl (w.heap.size + 1) (pB 32 []) rfl (by rw [← Hz.out]; rfl) _ _ HY1.out (by rw [pB_size (by simp)]; exact Hi.out) rfl (pB_one _ _) ?_)
    intro w2 hw2
    go_wp2
    refine bodyPost_ret (v := .tuple #[.agg (pB 32 []), .int .i64 2]) (results_cell_slot rfl _ _ (w.heap.size + 1) 60 (pB 32 []) (0, 0) _ rfl (by rw [hw2.out]; exact setRow_at HY1.out) Tryz.underlying60 rfl (by rw [pB_size (by simp)]; exact Hi.out) rfl) rfl ⟨rfl, by rw [hw2.out]; exact below_row HB1.out (by omega) _⟩
  · rw [h] at hC
    rw [sumV_ref h] at hS
    rw [if_pos rfl]
    rw [hV_eq] at hS ⊢
    obtain ⟨p, hp⟩ : ∃ p, p = pB 32 (refSum (evOf r s k ky b n)) := ⟨_, rfl⟩
    have hps : p.size = 32 := by rw [hp]; exact pB_size (by rw [refSum_length]; omega)
    have hpo : p.all (·.oneCell') = true := by rw [hp]; exact pB_one _ _
    rw [← hp] at hS ⊢
    have HC := Lib.hid hC
    have HR := Lib.hid hR
    have HS := Lib.hid hS
    have HPS := Lib.hid hps
    have HPO := Lib.hid hpo
    clear hC hR hS hp hps hpo
    unfold evV at HC HR HT ⊢
    go_enter Tryz.func63, Tryz.ntmps63
    go_wp2_with fail
    rw [Hz.out, ← HW.out]
    refine (HC.out W0).mono ?_
    rintro e w1 ⟨rfl, hb1⟩
    have HX1 := (hb1.block _ hl).trans hx0
    have HY1 := Lib.hid ((hb1.block _ hl1).trans HY.out)
    have HB1 := Lib.hid (HB.out.trans (hb1.mono HB.out.size))
    have hc1 := row_facts HX1
    have hk1 := lt_row HX1
    have hl2 := lt_row HY1.out
    clear hb1
    go_wp2_with fail
    refine (HR.out w1).mono ?_
    rintro e w2 ⟨rfl, hb2⟩
    have HY2 := Lib.hid ((hb2.block _ hl2).trans HY1.out)
    have HB2 := Lib.hid (HB1.out.trans (hb2.mono HB1.out.size))
    have hl3 := lt_row HY2.out
    clear hb2
    go_wp2_with fail
    refine (HT.out w2).mono ?_
    rintro e w2' ⟨rfl, hb3⟩
    have HY2' := Lib.hid ((hb3.block _ hl3).trans HY2.out)
    have HB2' := Lib.hid (HB2.out.trans (hb3.mono HB2.out.size))
    have hl3' := lt_row HY2'.out
    clear hb3
    go_wp2_with fail
    refine (HS.out w2').mono ?_
    rintro e w3 ⟨rfl, hb3⟩
    have HY3 := Lib.hid ((hb3.block _ hl3').trans HY2'.out)
    have HB3 := Lib.hid (HB2'.out.trans (hb3.mono HB2'.out.size))
    clear hb3
    go_wp2_with (refine wpList_store_rowA rfl _ _ _ rfl (w.heap.size + 1) p rfl rfl _ _ HY3.out (by rw [HPS.out]; exact Hi.out) (by rw [HPS.out]; rfl) HPO.out ?_)
    intro w4 hw4
    go_wp2
    refine bodyPost_ret (v := .tuple #[.agg p, .int .i64 0]) (results_cell_slot rfl _ _ (w.heap.size + 1) 60 p (0, 0) _ rfl (by rw [hw4.out]; exact setRow_at HY3.out) Tryz.underlying60 rfl (by rw [HPS.out]; exact Hi.out) rfl) rfl ⟨rfl, by rw [hw4.out]; exact below_row HB3.out (by omega) _⟩

end Go.Proofs.YtjiakfblgefioaaGreatDoor.R3A
