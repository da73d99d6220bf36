/-
  WHAT IS PROVED: what the program leaves of an event, and its sums. Condition: what each theorem names.
-/
import Derived.Test.YtjiakfblgefioaaGreatDoorLivesE
import Derived.Test.YtjiakfblgefioaaGreatDoorSha
import Derived.Test.YtjiakfblgefioaaGreatDoorPlain
namespace Go.Proofs.YtjiakfblgefioaaGreatDoor.RedA
open Go Go.RowKit Go.Proofs.YtjiakfblgefioaaGreatDoor Go.Proofs.YtjiakfblgefioaaGreatDoor.OctetS Go.Proofs.YtjiakfblgefioaaGreatDoor.IdentS Go.Proofs.YtjiakfblgefioaaGreatDoor.EventS Go.Proofs.YtjiakfblgefioaaGreatDoor.OctP Go.Proofs.YtjiakfblgefioaaGreatDoor.IdentP Go.Proofs.YtjiakfblgefioaaGreatDoor.EventP Go.Proofs.YtjiakfblgefioaaGreatDoor.EventC Go.Proofs.YtjiakfblgefioaaGreatDoor.EventB Go.Proofs.YtjiakfblgefioaaGreatDoor.EventR Go.Proofs.YtjiakfblgefioaaGreatDoor.LivesE Go.Proofs.YtjiakfblgefioaaGreatDoor.ShaB Go.Proofs.YtjiakfblgefioaaGreatDoor.ShaA Go.Proofs.YtjiakfblgefioaaGreatDoor.Steps Go.Proofs.YtjiakfblgefioaaGreatDoor.RedactS
set_option linter.unusedVariables false
set_option linter.unusedSimpArgs false

/-- What is left of a body. -/
def bodyOf (k : Int) (b : ByteArray) : ByteArray := if k = 6 ∨ k = 5 then ⟨#[]⟩ else b
theorem evOf_redact (r s : ByteArray) (k : Int) (ky b : ByteArray) (n : Int) : evOf r s k ky (bodyOf k b) n = redact (evOf r s k ky b n) := by
  have hk : (evOf r s k ky b n).kind = k := rfl
  unfold bodyOf redact
  rw [hk]
  by_cases h : k = 6 ∨ k = 5
  · rw [if_pos h, if_pos h]
    rfl
  · rw [if_neg h, if_neg h]
theorem bodyOf_twice (k : Int) (b : ByteArray) : bodyOf k (bodyOf k b) = bodyOf k b := by
  unfold bodyOf
  split <;> rfl
theorem bodyOf_size (k : Int) (b : ByteArray) : (bodyOf k b).size ≤ b.size := by
  unfold bodyOf
  split
  · exact Nat.zero_le _
  · exact Nat.le_refl _

set_option maxHeartbeats 1000000 in
theorem Redact_ok (w : World) (r s : ByteArray) (k : Int) (ky b : ByteArray) (n : Int) :
    Calls Tryz.prog 53 #[evV r s k ky b n] w (RB (evV r s k ky (bodyOf k b) n) w) := by
  obtain ⟨p, hp⟩ : ∃ p : Array Value, p = #[.string r, .string s, .int .u8 k, .string ky, .string (bodyOf k b), .int .i64 n] := ⟨_, rfl⟩
  have hps : p.size = 6 := by rw [hp]; rfl
  have hpo : p.all (·.oneCell') = true := by rw [hp]; simp [Value.oneCell']
  unfold evV
  rw [← hp]
  have hcase : k = 6 ∨ ((k == 6) = false ∧ k = 5) ∨ ((k == 6) = false ∧ (k == 5) = false) := by
    rcases Classical.em (k = 6) with h | h
    · exact .inl h
    · rcases Classical.em (k = 5) with h' | h'
      · exact .inr (.inl ⟨by simpa using h, h'⟩)
      · exact .inr (.inr ⟨by simpa using h, by simpa using h'⟩)
  have HP := Lib.hid hp
  have HPS := Lib.hid hps
  clear hp hps hpo
  have hi : (Tryz.prog.info? 56).map (·.size) = some 6 := by kernel_rfl
  have Hi := Lib.hid hi
  clear hi
  rcases hcase with rfl | ⟨h6, rfl⟩ | ⟨h6, h5⟩
  · go_enter Tryz.func53, Tryz.ntmps53
    go_wp2
    obtain ⟨W0, hW0⟩ : ∃ W0, W0 = w.alloc (.cells #[.string r, .string s, .int .u8 6, .string ky, .string ⟨#[]⟩, .int .i64 n] 56) := ⟨_, rfl⟩
    have hB0 : Below w.heap.size w W0 := by rw [hW0]; exact (Below.refl _ w).alloc (Nat.le_refl _) _
    have hz : W0.heap.size = w.heap.size + 1 := by rw [hW0]; simp
    rw [← hW0, ← hz]
    refine bodyPost_ret (v := .agg p) (results_cell_row rfl _ _ W0.heap.size 56 p (0, 0) _ rfl ((heap_new _ _).trans ?_) Tryz.underlying56 rfl (by rw [HPS.out]; exact Hi.out)) rfl ⟨rfl, hB0.alloc (by omega) _⟩
    rw [HP.out]
    rfl
  · go_enter Tryz.func53, Tryz.ntmps53
    go_wp2
    obtain ⟨W0, hW0⟩ : ∃ W0, W0 = w.alloc (.cells #[.string r, .string s, .int .u8 5, .string ky, .string ⟨#[]⟩, .int .i64 n] 56) := ⟨_, rfl⟩
    have hB0 : Below w.heap.size w W0 := by rw [hW0]; exact (Below.refl _ w).alloc (Nat.le_refl _) _
    have hz : W0.heap.size = w.heap.size + 1 := by rw [hW0]; simp
    rw [← hW0, ← hz]
    refine bodyPost_ret (v := .agg p) (results_cell_row rfl _ _ W0.heap.size 56 p (0, 0) _ rfl ((heap_new _ _).trans ?_) Tryz.underlying56 rfl (by rw [HPS.out]; exact Hi.out)) rfl ⟨rfl, hB0.alloc (by omega) _⟩
    rw [HP.out]
    rfl
  · go_enter Tryz.func53, Tryz.ntmps53
    go_wp2
    obtain ⟨W0, hW0⟩ : ∃ W0, W0 = w.alloc (.cells #[.string r, .string s, .int .u8 k, .string ky, .string b, .int .i64 n] 56) := ⟨_, rfl⟩
    have hB0 : Below w.heap.size w W0 := by rw [hW0]; exact (Below.refl _ w).alloc (Nat.le_refl _) _
    have hz : W0.heap.size = w.heap.size + 1 := by rw [hW0]; simp
    rw [← hW0, ← hz]
    refine bodyPost_ret (v := .agg p) (results_cell_row rfl _ _ W0.heap.size 56 p (0, 0) _ rfl ((heap_new _ _).trans ?_) Tryz.underlying56 rfl (by rw [HPS.out]; exact Hi.out)) rfl ⟨rfl, hB0.alloc (by omega) _⟩
    rw [HP.out]
    rw [show bodyOf k b = b from if_neg (by have a6 := ne_of_beq_false h6; have a5 := ne_of_beq_false h5; omega)]

/-- The results of a function: a row, and a slot. -/
theorem results_cell_slot {P : Program} {fn : Func} {p q : Tmp} {ty : TypeId} (h : fn.results = #[.cell p ty, .tmp q]) (tmps : Array Value) (w : World) (g : Nat) (t : TypeId) (cs : Array Value) (fr : Nat × Nat) (d : TypeDesc)
    (hp : tmps.getD p undef = .pointer (some ⟨g, 0, none⟩)) (hg : w.heap[g]? = some (.cells cs t fr))
    (hu : P.underlying ty = some d) (hd : (match d with | .struct _ | .array _ _ => true | _ => false) = true) (hi : (P.info? ty).map (·.size) = some cs.size) {v : Value} (hq : tmps.getD q undef = v) :
    (results fn tmps).run P w = .ok (.tuple #[.agg cs, v]) w := by
  have hp' : tmps[p]?.getD undef = .pointer (some ⟨g, 0, none⟩) := by simpa using hp
  have hq' : tmps[q]?.getD undef = v := by simpa using hq
  simp [results, h, hp', hq', asAddr, run_loadVar_row w g t ty cs fr d hg hu hd hi]

/-- What the package-level variables hold. -/
structure VarsR (w : World) : Prop where
  e : VarsE w
  h : VarsH w
theorem VarsR.below {w w' : World} (h : VarsR w) (hb : Below w.heap.size w w') : VarsR w' := ⟨h.e.below hb, h.h.below hb⟩

/-- A sum as a value, and the sum behind a first byte; where there is no right event: zeros, and why. -/
def hV (l : List UInt8) : Value := .agg (pB 32 l)
def sumV (first : List UInt8) (x : Ev) : Value := if checkB x then .tuple #[hV (ShaS.sum (first ++ EventS.bytes x)), .int .i64 0] else .tuple #[hV [], .int .i64 2]

set_option maxRecDepth 100000 in
set_option maxHeartbeats 1000000 in
theorem sum_ok (w : World) (c : ByteArray) (hc : c.size ≤ 1) (r s : ByteArray) (k : Int) (ky b : ByteArray) (n : Int) (hv : VarsR w) (hr : r.size ≤ 140737488351232) (hs : s.size ≤ 140737488351232) (hk : ky.size ≤ 140737488351232) (hb : b.size ≤ maxLen) :
    Calls Tryz.prog 52 #[.string c, evV r s k ky b n] w (RB (sumV (bl c) (evOf r s k ky b n)) w) := by
  have hB := fun w hv => Bytes_ok w r s k ky b n hv hr hs hk hb
  unfold bytesOf at hB
  obtain ⟨W0, hW0⟩ : ∃ W0, W0 = (w.alloc (.cells #[.string r, .string s, .int .u8 k, .string ky, .string b, .int .i64 n] 56)).alloc (.cells (pB 32 []) 60) := ⟨_, rfl⟩
  have hB0 : Below w.heap.size w W0 := by rw [hW0]; exact ((Below.refl _ w).alloc (Nat.le_refl _) _).alloc (by simp) _
  have hx0 : W0.heap[w.heap.size]? = some (.cells #[.string r, .string s, .int .u8 k, .string ky, .string b, .int .i64 n] 56 (0, 0)) := by rw [hW0]; exact heap_at (heap_new _ _) _
  have hy0 : W0.heap[w.heap.size + 1]? = some (.cells (pB 32 []) 60 (0, 0)) := by rw [hW0]; exact heap_new' _ (by simp)
  have hV0 := hv.below hB0
  have hz : (#[.int .u8 0, .int .u8 0, .int .u8 0, .int .u8 0, .int .u8 0, .int .u8 0, .int .u8 0, .int .u8 0, .int .u8 0, .int .u8 0, .int .u8 0, .int .u8 0, .int .u8 0, .int .u8 0, .int .u8 0, .int .u8 0, .int .u8 0, .int .u8 0, .int .u8 0, .int .u8 0, .int .u8 0, .int .u8 0, .int .u8 0, .int .u8 0, .int .u8 0, .int .u8 0, .int .u8 0, .int .u8 0, .int .u8 0, .int .u8 0, .int .u8 0, .int .u8 0] : Array Value) = pB 32 [] := by kernel_rfl
  have Hz := Lib.hid hz
  clear hz
  have hi : (Tryz.prog.info? 60).map (·.size) = some 32 := by kernel_rfl
  have Hi := Lib.hid hi
  have HW := Lib.hid hW0
  have HB := Lib.hid hB0
  have HY := Lib.hid hy0
  have HV := Lib.hid hV0
  have HS := Lib.hid hB
  have hc0 := row_facts hx0
  have hl := lt_row hx0
  have hl1 := lt_row hy0
  clear hi hW0 hB0 hy0 hV0 hB hv
  unfold evV sumV
  cases h : checkB (evOf r s k ky b n)
  · rw [h] at HS
    go_enter Tryz.func52, Tryz.ntmps52
    go_wp2_with fail
    rw [Hz.out, ← HW.out]
    refine (HS.out W0 HV.out.e).mono ?_
    rintro e w1 ⟨rfl, hb1⟩
    have HY1 := Lib.hid ((hb1.block _ hl1).trans HY.out)
    have HB1 := Lib.hid (HB.out.trans (hb1.mono HB.out.size))
    clear hb1
    go_wp2_with (refine wpList_store_rowA rfl _ _ _ rfl (w.heap.size + 1) (pB 32 []) rfl (by rw [← Hz.out]; rfl) _ _ HY1.out (by rw [pB_size (by simp)]; exact Hi.out) rfl (pB_one _ _) ?_)
    intro w2 hw2
    go_wp2
    refine bodyPost_ret (v := .tuple #[hV [], .int .i64 2]) (results_cell_slot rfl _ _ (w.heap.size + 1) 60 (pB 32 []) (0, 0) _ rfl (by rw [hw2.out]; exact setRow_at HY1.out) Tryz.underlying60 rfl (by rw [pB_size (by simp)]; exact Hi.out) rfl) rfl ⟨rfl, by rw [hw2.out]; exact below_row HB1.out (by omega) _⟩
  · rw [h, if_pos rfl] at HS
    have hl0 := (check_iff.1 h).length
    obtain ⟨T, hT⟩ : ∃ T, T = bsOf (EventS.bytes (evOf r s k ky b n)) := ⟨_, rfl⟩
    have hTs : T.size ≤ 620 := by rw [hT, size_bsOf]; exact hl0
    have hbl : bl c ++ EventS.bytes (evOf r s k ky b n) = bl (c ++ T) := by rw [hT, bl_append, bl_bsOf]
    have hS := fun w (hv : VarsH w) => ShaM.Sum_ok w (c ++ T) (by rw [ByteArray.size_append]; omega) hv
    rw [if_pos rfl, hbl]
    rw [← hT] at HS
    rw [← pB_full (n := 32) (ShaS.sum_length _)] at hS
    unfold hV
    obtain ⟨p, hp⟩ : ∃ p, p = pB 32 (ShaS.sum (bl (c ++ T))) := ⟨_, rfl⟩
    have hps : p.size = 32 := by rw [hp]; exact pB_size (by rw [ShaS.sum_length]; omega)
    have hpo : p.all (·.oneCell') = true := by rw [hp]; exact pB_one _ _
    rw [← hp] at hS ⊢
    have HSum := Lib.hid hS
    have HPS := Lib.hid hps
    have HPO := Lib.hid hpo
    clear hS hp hps hpo hT hbl
    go_enter Tryz.func52, Tryz.ntmps52
    go_wp2_with fail
    rw [Hz.out, ← HW.out]
    refine (HS.out W0 HV.out.e).mono ?_
    rintro e w1 ⟨rfl, hb1⟩
    have HY1 := Lib.hid ((hb1.block _ hl1).trans HY.out)
    have HB1 := Lib.hid (HB.out.trans (hb1.mono HB.out.size))
    have HV1 := Lib.hid (HV.out.below hb1)
    have hl2 := lt_row HY1.out
    clear hb1
    go_wp2_with fail
    refine (HSum.out w1 HV1.out.h).mono ?_
    rintro e w2 ⟨rfl, hb2⟩
    have HY2 := Lib.hid ((hb2.block _ hl2).trans HY1.out)
    have HB2 := Lib.hid (HB1.out.trans (hb2.mono HB1.out.size))
    clear hb2
    go_wp2_with (refine wpList_store_rowA rfl _ _ _ rfl (w.heap.size + 1) p rfl rfl _ _ HY2.out (by rw [HPS.out]; exact Hi.out) (by rw [HPS.out]; rfl) HPO.out ?_)
    intro w3 hw3
    go_wp2
    refine bodyPost_ret (v := .tuple #[.agg p, .int .i64 0]) (results_cell_slot rfl _ _ (w.heap.size + 1) 60 p (0, 0) _ rfl (by rw [hw3.out]; exact setRow_at HY2.out) Tryz.underlying60 rfl (by rw [HPS.out]; exact Hi.out) rfl) rfl ⟨rfl, by rw [hw3.out]; exact below_row HB2.out (by omega) _⟩

end Go.Proofs.YtjiakfblgefioaaGreatDoor.RedA

namespace Go.Proofs.YtjiakfblgefioaaGreatDoor.RedB
open Go Go.RowKit Go.Proofs.YtjiakfblgefioaaGreatDoor Go.Proofs.YtjiakfblgefioaaGreatDoor.OctetS Go.Proofs.YtjiakfblgefioaaGreatDoor.IdentS Go.Proofs.YtjiakfblgefioaaGreatDoor.EventS Go.Proofs.YtjiakfblgefioaaGreatDoor.OctP Go.Proofs.YtjiakfblgefioaaGreatDoor.IdentP Go.Proofs.YtjiakfblgefioaaGreatDoor.EventP Go.Proofs.YtjiakfblgefioaaGreatDoor.EventC Go.Proofs.YtjiakfblgefioaaGreatDoor.EventB Go.Proofs.YtjiakfblgefioaaGreatDoor.EventR Go.Proofs.YtjiakfblgefioaaGreatDoor.LivesE Go.Proofs.YtjiakfblgefioaaGreatDoor.ShaB Go.Proofs.YtjiakfblgefioaaGreatDoor.ShaA Go.Proofs.YtjiakfblgefioaaGreatDoor.Steps Go.Proofs.YtjiakfblgefioaaGreatDoor.RedactS Go.Proofs.YtjiakfblgefioaaGreatDoor.RedA
set_option linter.unusedVariables false
set_option linter.unusedSimpArgs false

theorem hV_eq (l : List UInt8) : hV l = .agg (pB 32 l) := rfl
/-- The sum of what is left, and of all; where there is no right event: zeros, and why. -/
def refV (x : Ev) : Value := if checkB x then .tuple #[hV (refSum x), .int .i64 0] else .tuple #[hV [], .int .i64 2]
def allV (x : Ev) : Value := if checkB x then .tuple #[hV (allSum x), .int .i64 0] else .tuple #[hV [], .int .i64 2]
theorem sumV_ref {x : Ev} (h : checkB x = true) : sumV [6] (redact x) = .tuple #[hV (refSum x), .int .i64 0] := by
  unfold sumV
  rw [check_iff.2 (right_redact (check_iff.1 h)), if_pos rfl]
  rfl
theorem sumV_all (x : Ev) : ∃ (l : List UInt8) (E : Int), l.length ≤ 32 ∧ sumV [7] x = .tuple #[.agg (pB 32 l), .int .i64 E] ∧ allV x = .tuple #[.agg (pB 32 l), .int .i64 E] := by
  unfold sumV allV hV
  cases checkB x
  · exact ⟨[], 2, by simp, rfl, rfl⟩
  · exact ⟨_, 0, Nat.le_of_eq (ShaS.sum_length _), rfl, rfl⟩

set_option maxRecDepth 100000 in
set_option maxHeartbeats 1000000 in
theorem Ref_ok (w : World) (r s : ByteArray) (k : Int) (ky b : ByteArray) (n : Int) (hv : VarsR w) (hr : r.size ≤ 140737488351232) (hs : s.size ≤ 140737488351232) (hk : ky.size ≤ 140737488351232) (hb : b.size ≤ maxLen) :
    Calls Tryz.prog 32 #[evV r s k ky b n] w (RB (refV (evOf r s k ky b n)) w) := by
  have hC := fun w (hv : VarsR w) => Check_ok w r s k ky b n hv.e.i hr hs hk hb
  have hR := fun w => Redact_ok w r s k ky b n
  have hS := fun w hv => sum_ok w ⟨#[6]⟩ (by decide) r s k ky (bodyOf k b) n hv hr hs hk (Nat.le_trans (bodyOf_size k b) hb)
  rw [evOf_redact, show bl ⟨#[6]⟩ = [6] from rfl] at hS
  obtain ⟨W0, hW0⟩ : ∃ W0, W0 = (w.alloc (.cells #[.string r, .string s, .int .u8 k, .string ky, .string b, .int .i64 n] 56)).alloc (.cells (pB 32 []) 60) := ⟨_, rfl⟩
  have hB0 : Below w.heap.size w W0 := by rw [hW0]; exact ((Below.refl _ w).alloc (Nat.le_refl _) _).alloc (by simp) _
  have hx0 : W0.heap[w.heap.size]? = some (.cells #[.string r, .string s, .int .u8 k, .string ky, .string b, .int .i64 n] 56 (0, 0)) := by rw [hW0]; exact heap_at (heap_new _ _) _
  have hy0 : W0.heap[w.heap.size + 1]? = some (.cells (pB 32 []) 60 (0, 0)) := by rw [hW0]; exact heap_new' _ (by simp)
  have hV0 := hv.below hB0
  have hz : (#[.int .u8 0, .int .u8 0, .int .u8 0, .int .u8 0, .int .u8 0, .int .u8 0, .int .u8 0, .int .u8 0, .int .u8 0, .int .u8 0, .int .u8 0, .int .u8 0, .int .u8 0, .int .u8 0, .int .u8 0, .int .u8 0, .int .u8 0, .int .u8 0, .int .u8 0, .int .u8 0, .int .u8 0, .int .u8 0, .int .u8 0, .int .u8 0, .int .u8 0, .int .u8 0, .int .u8 0, .int .u8 0, .int .u8 0, .int .u8 0, .int .u8 0, .int .u8 0] : Array Value) = pB 32 [] := by kernel_rfl
  have hi : (Tryz.prog.info? 60).map (·.size) = some 32 := by kernel_rfl
  have Hz := Lib.hid hz
  have Hi := Lib.hid hi
  have HW := Lib.hid hW0
  have HB := Lib.hid hB0
  have HY := Lib.hid hy0
  have HV := Lib.hid hV0
  have hl := lt_row hx0
  have hl1 := lt_row hy0
  clear hi hz hW0 hB0 hy0 hV0 hv
  have hc0 := row_facts hx0
  unfold refV
  cases h : checkB (evOf r s k ky b n)
  · rw [h] at hC
    rw [if_neg (by decide), hV_eq]
    have HC := Lib.hid hC
    clear hC
    unfold evV at HC ⊢
    go_enter Tryz.func32, Tryz.ntmps32
    go_wp2_with fail
    rw [Hz.out, ← HW.out]
    refine (HC.out W0 HV.out).mono ?_
    rintro e w1 ⟨rfl, hb1⟩
    have HY1 := Lib.hid ((hb1.block _ hl1).trans HY.out)
    have HB1 := Lib.hid (HB.out.trans (hb1.mono HB.out.size))
    clear hb1
    go_wp2_with (refine wpList_store_rowA rfl _ _ _ rfl (w.heap.size + 1) (pB 32 []) rfl (by rw [← Hz.out]; rfl) _ _ HY1.out (by rw [pB_size (by simp)]; exact Hi.out) rfl (pB_one _ _) ?_)
    intro w2 hw2
    go_wp2
    refine bodyPost_ret (v := .tuple #[.agg (pB 32 []), .int .i64 2]) (results_cell_slot rfl _ _ (w.heap.size + 1) 60 (pB 32 []) (0, 0) _ rfl (by rw [hw2.out]; exact setRow_at HY1.out) Tryz.underlying60 rfl (by rw [pB_size (by simp)]; exact Hi.out) rfl) rfl ⟨rfl, by rw [hw2.out]; exact below_row HB1.out (by omega) _⟩
  · rw [h] at hC
    rw [sumV_ref h] at hS
    rw [if_pos rfl]
    rw [hV_eq] at hS ⊢
    obtain ⟨p, hp⟩ : ∃ p, p = pB 32 (refSum (evOf r s k ky b n)) := ⟨_, rfl⟩
    have hps : p.size = 32 := by rw [hp]; exact pB_size (by rw [refSum_length]; omega)
    have hpo : p.all (·.oneCell') = true := by rw [hp]; exact pB_one _ _
    rw [← hp] at hS ⊢
    have HC := Lib.hid hC
    have HR := Lib.hid hR
    have HS := Lib.hid hS
    have HPS := Lib.hid hps
    have HPO := Lib.hid hpo
    clear hC hR hS hp hps hpo
    unfold evV at HC HR HS ⊢
    go_enter Tryz.func32, Tryz.ntmps32
    go_wp2_with fail
    rw [Hz.out, ← HW.out]
    refine (HC.out W0 HV.out).mono ?_
    rintro e w1 ⟨rfl, hb1⟩
    have HX1 := (hb1.block _ hl).trans hx0
    have HY1 := Lib.hid ((hb1.block _ hl1).trans HY.out)
    have HB1 := Lib.hid (HB.out.trans (hb1.mono HB.out.size))
    have HV1 := Lib.hid (HV.out.below hb1)
    have hc1 := row_facts HX1
    have hk1 := lt_row HX1
    have hl2 := lt_row HY1.out
    clear hb1
    go_wp2_with fail
    refine (HR.out w1).mono ?_
    rintro e w2 ⟨rfl, hb2⟩
    have HY2 := Lib.hid ((hb2.block _ hl2).trans HY1.out)
    have HB2 := Lib.hid (HB1.out.trans (hb2.mono HB1.out.size))
    have HV2 := Lib.hid (HV1.out.below hb2)
    have hl3 := lt_row HY2.out
    clear hb2
    go_wp2_with fail
    refine (HS.out w2 HV2.out).mono ?_
    rintro e w3 ⟨rfl, hb3⟩
    have HY3 := Lib.hid ((hb3.block _ hl3).trans HY2.out)
    have HB3 := Lib.hid (HB2.out.trans (hb3.mono HB2.out.size))
    clear hb3
    go_wp2_with (refine wpList_store_rowA rfl _ _ _ rfl (w.heap.size + 1) p rfl rfl _ _ HY3.out (by rw [HPS.out]; exact Hi.out) (by rw [HPS.out]; rfl) HPO.out ?_)
    intro w4 hw4
    go_wp2
    refine bodyPost_ret (v := .tuple #[.agg p, .int .i64 0]) (results_cell_slot rfl _ _ (w.heap.size + 1) 60 p (0, 0) _ rfl (by rw [hw4.out]; exact setRow_at HY3.out) Tryz.underlying60 rfl (by rw [HPS.out]; exact Hi.out) rfl) rfl ⟨rfl, by rw [hw4.out]; exact below_row HB3.out (by omega) _⟩

end Go.Proofs.YtjiakfblgefioaaGreatDoor.RedB
