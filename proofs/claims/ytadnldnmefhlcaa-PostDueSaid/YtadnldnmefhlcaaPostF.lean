/-
  WHAT IS PROVED: what the box of letters does, function by function: what is done is taken out, all are taken out, how many were lost. No condition beside those that each theorem names.
-/
import Derived.Test.YtadnldnmefhlcaaPostT
import Derived.RangeFuncCalls
import Derived.Shelf.Abstract
import Derived.Deep.QuietTactic
import Derived.BigQuiet
namespace Go.Proofs.Ytadnldnmefhlcaa.PostF
open Go Go.RowKit Go.Shelf Go.Conc Go.Proofs.Ytadnldnmefhlcaa Go.Proofs.Ytadnldnmefhlcaa.PostA Go.Proofs.Ytadnldnmefhlcaa.PostT
set_option linter.unusedVariables false
set_option linter.unusedSimpArgs false

/-- A box of letters that lies at block p, its channel at block c. -/
structure PostAt (w : World) (p c cap : Nat) (gap : Int) (L : List Lt) (last lost : Int) : Prop where
  blk : w.heap[p]? = some (.cells #[.chan (some c), .int .i64 gap, .int .i64 last, .int .i64 lost] 60 (0, 0))
  box : InBox w c cap L
  cap0 : cap ≤ 256
theorem PostAt.ne {w : World} {p c cap : Nat} {gap : Int} {L : List Lt} {last lost : Int} (h : PostAt w p c cap gap L last lost) : p ≠ c := by
  rintro rfl
  obtain ⟨_, s, r, hc⟩ := h.box
  rw [h.blk] at hc
  cases hc

def endOf (L : List Lt) (id : Int) : List Lt := L.filter fun x => x.id != id
def DonePost (w : World) (p c cap : Nat) (gap : Int) (L : List Lt) (last lost id : Int) (e : Ending) (w' : World) : Prop :=
  e = .returned (.int .i64 (if (endOf L id).length = L.length then 3 else 0)) ∧ PostAt w' p c cap gap (endOf L id) last lost ∧ Ext (fun k => k = c) w w'

theorem done1_ok (W : World) (B K : Nat) (x : Lt) (id : Int) (hB : W.heap[B]? = some (.cells x.cs 64 (0, 0))) (hK : W.heap[K]? = some (.cells #[.int .i64 id] 3 (0, 0))) :
    Calls Try.prog 24 #[.pointer (some ⟨B, 0, none⟩), .pointer (some ⟨K, 0, none⟩)] W fun e W' => e = .returned (.bool (x.id != id)) ∧ ∃ n, W' = W.drewN n := by
  unfold Lt.cs at hB
  obtain ⟨hcB, hfB⟩ := row_facts hB
  obtain ⟨hcK, hfK⟩ := row_facts hK
  clear hB hK
  go_enter Try.func24, Try.ntmps24
  go_wp2
  go_quiet (fail)
  go_wp2
  go_ret
  exact ⟨rfl, _, rfl⟩

set_option maxHeartbeats 1000000 in
theorem Done_ok (w : World) (p c cap : Nat) (gap : Int) (L : List Lt) (last lost id : Int) (h : PostAt w p c cap gap L last lost) :
    Calls Try.prog 14 #[.pointer (some ⟨p, 0, none⟩), .int .i64 id] w (DonePost w p c cap gap L last lost id) := by
  have hne := h.ne
  obtain ⟨hlen, s0, r0, hc⟩ := h.box
  have hcl := lt_row hc
  obtain ⟨W0, hW0⟩ : ∃ W0, W0 = w.alloc (.cells #[.int .i64 id] 3) := ⟨_, rfl⟩
  have hE0 : Ext (fun k => k = c) w W0 := by rw [hW0]; exact (Ext.refl _ w).alloc _
  have hb0 : W0.heap[p]? = some (.cells #[.chan (some c), .int .i64 gap, .int .i64 last, .int .i64 lost] 60 (0, 0)) := by rw [hW0]; exact heap_at h.blk _
  have hk0 : W0.heap[w.heap.size]? = some (.cells #[.int .i64 id] 3 (0, 0)) := by rw [hW0]; exact heap_new _ _
  have hi0 : InBox W0 c cap L := ⟨hlen, s0, r0, by rw [hW0]; exact heap_at hc _⟩
  have hz0 := lt_row hk0
  have hT := turn_ok W0 c cap L hi0 h.cap0 24 #[.pointer (some ⟨w.heap.size, 0, none⟩)] (enters_of Try.func24 (by kernel_rfl) rfl)
    (fun pre kept W => kept = endOf pre id ∧ Ext (fun k => k = c) W0 W) ⟨rfl, Ext.refl _ _⟩ (fun pre kept W W' hj _ he => ⟨hj.1, hj.2.trans he⟩)
    (fun pre kept x W B hj _ hB1 hW1 hB => by
      have hK : W.heap[w.heap.size]? = some (.cells #[.int .i64 id] 3 (0, 0)) := hj.2.blockOf hk0 (by omega)
      refine (done1_ok W B w.heap.size x id hB hK).mono ?_
      rintro e W' ⟨rfl, n, rfl⟩
      refine ⟨_, x, rfl, hB, rfl, rfl, Nat.le_refl _, ?_, hj.2.drewN n⟩
      rw [hj.1]
      unfold endOf
      rw [List.filter_append]
      cases hx : (x.id != id) <;> simp [hx])
  have HW0 := Lib.hid hW0
  have HE0 := Lib.hid hE0
  have HT := Lib.hid hT
  have HB0 := Lib.hid hb0
  have hbl := lt_row h.blk
  obtain ⟨hcb, hfb⟩ := row_facts h.blk
  have H := Lib.hid h
  clear hW0 hE0 hT hb0 hk0 hi0 hc h
  go_enter Try.func14, Try.ntmps14
  go_wp2_with fail
  rw [show w.alloc (.cells #[.int .i64 id] 3) = W0 from HW0.out.symm]
  refine HT.out.mono ?_
  rintro e W1 ⟨kept, rfl, hbox, hkl, hke, hE⟩
  have HE := Lib.hid (HE0.out.trans hE)
  have hB1 := hE.blockOf HB0.out hne
  have HBX := Lib.hid hbox
  subst hke
  have HB1 := Lib.hid hB1
  have Hlen := Lib.hid (show (endOf L id).length ≤ L.length from hkl)
  clear hE hbox hB1 hcb hfb
  by_cases he : (endOf L id).length = L.length
  · have hb : ((L.length : Int) - (endOf L id).length == 0) = true := by simp; omega
    have He := Lib.hid he
    clear he
    go_wp2
    go_ret
    exact ⟨by rw [if_pos He.out]; rfl, ⟨HB1.out, HBX.out, H.out.cap0⟩, HE.out⟩
  · have hb : ((L.length : Int) - (endOf L id).length == 0) = false := by simp; omega
    have He := Lib.hid he
    clear he
    go_wp2
    go_ret
    exact ⟨by rw [if_neg He.out]; rfl, ⟨HB1.out, HBX.out, H.out.cap0⟩, HE.out⟩

theorem clear1_ok (W : World) (B : Nat) : Calls Try.prog 25 #[.pointer (some ⟨B, 0, none⟩)] W fun e W' => e = .returned (.bool false) ∧ W = W' := by
  go_enter Try.func25, Try.ntmps25
  go_wp2
  go_ret
  exact ⟨rfl, rfl⟩

def ClearPost (w : World) (p c cap : Nat) (gap : Int) (L : List Lt) (last lost : Int) (e : Ending) (w' : World) : Prop :=
  e = .returned (.int .i64 L.length) ∧ PostAt w' p c cap gap [] last lost ∧ Ext (fun k => k = c) w w'
set_option maxHeartbeats 1000000 in
theorem Clear_ok (w : World) (p c cap : Nat) (gap : Int) (L : List Lt) (last lost : Int) (h : PostAt w p c cap gap L last lost) :
    Calls Try.prog 15 #[.pointer (some ⟨p, 0, none⟩)] w (ClearPost w p c cap gap L last lost) := by
  have hne := h.ne
  have hT := turn_ok w c cap L h.box h.cap0 25 #[] (enters_of Try.func25 (by kernel_rfl) rfl)
    (fun pre kept W => kept = [] ∧ Ext (fun k => k = c) w W) ⟨rfl, Ext.refl _ _⟩ (fun pre kept W W' hj _ he => ⟨hj.1, hj.2.trans he⟩)
    (fun pre kept x W B hj _ hB1 hW1 hB => by
      refine (clear1_ok W B).mono ?_
      rintro e W' ⟨rfl, rfl⟩
      exact ⟨false, x, rfl, hB, rfl, rfl, Nat.le_refl _, hj.1, hj.2⟩)
  have HT := Lib.hid hT
  have hbl := lt_row h.blk
  obtain ⟨hcb, hfb⟩ := row_facts h.blk
  have H := Lib.hid h
  clear hT h
  go_enter Try.func15, Try.ntmps15
  go_wp2_with fail
  refine HT.out.mono ?_
  rintro e W1 ⟨kept, rfl, hbox, hkl, hke, hE⟩
  have HE := Lib.hid hE
  have HB1 := Lib.hid (hE.blockOf H.out.blk hne)
  subst hke
  have HBX := Lib.hid hbox
  clear hE hbox hcb hfb
  rw [show ((L.length : Int) - ([] : List Lt).length) = L.length by simp]
  go_wp2
  go_ret
  exact ⟨rfl, ⟨HB1.out, HBX.out, H.out.cap0⟩, HE.out⟩

theorem Lost_ok (w : World) (p c cap : Nat) (gap : Int) (L : List Lt) (last lost : Int) (h : PostAt w p c cap gap L last lost) :
    Calls Try.prog 18 #[.pointer (some ⟨p, 0, none⟩)] w fun e w' => e = .returned (.int .i64 lost) ∧ w = w' := by
  obtain ⟨hcb, hfb⟩ := row_facts h.blk
  clear h
  go_enter Try.func18, Try.ntmps18
  go_wp2
  go_ret
  exact ⟨rfl, rfl⟩

def timeB (t : Int) : Bool := decide (0 ≤ t) && decide (t ≤ 1099511627776)
theorem time_ok (w : World) (t : Int) : Calls Try.prog 19 #[.int .i64 t] w fun e w' => e = .returned (.bool (timeB t)) ∧ w = w' := by
  by_cases h0 : 0 ≤ t
  · go_enter Try.func19, Try.ntmps19
    go_wp2
    go_ret
    exact ⟨by simp [timeB, h0], rfl⟩
  · have h1 : decide (0 ≤ t) = false := by simpa using h0
    go_enter Try.func19, Try.ntmps19
    go_wp2
    go_ret
    exact ⟨by simp [timeB, h1], rfl⟩

end Go.Proofs.Ytadnldnmefhlcaa.PostF
