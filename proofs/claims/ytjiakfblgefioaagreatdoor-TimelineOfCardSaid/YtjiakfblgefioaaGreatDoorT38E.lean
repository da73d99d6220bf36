/-
  WHAT IS PROVED: the document's event of an entry, and whether it is of a kind. Condition: the entry's bytes are not longer than the theorem says.
-/
import Derived.Test.YtjiakfblgefioaaGreatDoorEvRP
import Derived.Test.YtjiakfblgefioaaGreatDoorT38S
namespace Go.Proofs.YtjiakfblgefioaaGreatDoor.T38E
open Go Go.RowKit Go.Shelf Go.Proofs.YtjiakfblgefioaaGreatDoor Go.Proofs.YtjiakfblgefioaaGreatDoor.OctetS Go.Proofs.YtjiakfblgefioaaGreatDoor.IdentS Go.Proofs.YtjiakfblgefioaaGreatDoor.EventS Go.Proofs.YtjiakfblgefioaaGreatDoor.OctP Go.Proofs.YtjiakfblgefioaaGreatDoor.IdentP Go.Proofs.YtjiakfblgefioaaGreatDoor.EventP Go.Proofs.YtjiakfblgefioaaGreatDoor.EventC Go.Proofs.YtjiakfblgefioaaGreatDoor.EventR Go.Proofs.YtjiakfblgefioaaGreatDoor.RedA Go.Proofs.YtjiakfblgefioaaGreatDoor.Tread Go.Proofs.YtjiakfblgefioaaGreatDoor.T38S
set_option linter.unusedVariables false
set_option linter.unusedSimpArgs false

def evKV (k : Int) : Option Ev → Value
  | some x => .tuple #[evV (bsOf x.room) (bsOf x.sender) x.kind (bsOf x.key) (bsOf x.body) x.nonce, .bool (x.kind == k)]
  | none => .tuple #[evV ByteArray.empty ByteArray.empty 0 ByteArray.empty ByteArray.empty 0, .bool false]
theorem read_form (o : Option Ev) (k : Int) : ∃ (a b : ByteArray) (c : Int) (d f : ByteArray) (g y : Int), readEV o = .tuple #[.agg #[.string a, .string b, .int .u8 c, .string d, .string f, .int .i64 g], .int .i64 y] ∧
    evKV k o = .tuple #[.agg #[.string a, .string b, .int .u8 c, .string d, .string f, .int .i64 g], .bool ((y == 0) && (c == k))] := by
  cases o with
  | none => exact ⟨_, _, _, _, _, _, _, rfl, rfl⟩
  | some x => exact ⟨_, _, _, _, _, _, _, rfl, by unfold evKV evV; simp⟩

set_option maxRecDepth 100000 in
set_option maxHeartbeats 1000000 in
theorem event_ok (w : World) (x : En) (hb : x.ev.size ≤ 140737488351232) (k : Int) :
    Calls Tryz.prog 39 #[.agg x.cs.toArray, .int .u8 k] w (RB (evKV k (EventS.parse (bl x.ev))) w) := by
  have hP := fun w => EvRP.Parse_ok w x.ev hb
  unfold EvPost at hP
  obtain ⟨a, b, c, d, f, g, y, h1, h2⟩ := read_form (EventS.parse (bl x.ev)) k
  rw [h1] at hP
  rw [h2]
  clear h1 h2
  obtain ⟨p, hp⟩ : ∃ p, p = x.cs.toArray := ⟨_, rfl⟩
  have hps : p.size = 37 := by rw [hp]; simp [en_len]
  have hev : p[35]? = some (.string x.ev) := by rw [hp]; simpa using en_ev x
  have hpi : (Tryz.prog.info? 62).map (·.size) = some 37 := by kernel_rfl
  have hpe : (Tryz.prog.info? 56).map (·.size) = some 6 := by kernel_rfl
  rw [← hp]
  obtain ⟨w0, hw0⟩ : ∃ w0, w0 = (w.alloc (.cells p 62)).alloc (.cells #[.string ⟨#[]⟩, .string ⟨#[]⟩, .int .u8 0, .string ⟨#[]⟩, .string ⟨#[]⟩, .int .i64 0] 56) := ⟨_, rfl⟩
  have hB0 : Below w.heap.size w w0 := by rw [hw0]; exact ((Below.refl _ w).alloc (Nat.le_refl _) _).alloc (by simp) _
  have hx0 : w0.heap[w.heap.size]? = some (.cells p 62 (0, 0)) := by rw [hw0]; exact heap_at (heap_new _ _) _
  have hy0 : w0.heap[w.heap.size + 1]? = some (.cells #[.string ⟨#[]⟩, .string ⟨#[]⟩, .int .u8 0, .string ⟨#[]⟩, .string ⟨#[]⟩, .int .i64 0] 56 (0, 0)) := by rw [hw0]; exact heap_new' _ (by simp)
  have hc35 : w0.cell? ⟨w.heap.size, 35, none⟩ = some (.string x.ev) := by rw [cell_row hx0]; exact hev
  have hf35 := frozen_row (j := 35) hx0
  have hl0 := lt_row hx0
  have HP := Lib.hid hP
  have HW := Lib.hid hw0
  have HB := Lib.hid hB0
  have HY := Lib.hid hy0
  have HE := Lib.hid hpe
  clear hP hp hps hpi hpe hw0 hB0 hx0
  go_enter Tryz.func39, Tryz.ntmps39
  go_wp2_with fail
  rw [← HW.out]
  refine (HP.out w0).mono ?_
  rintro e w1 ⟨rfl, hb1⟩
  have hy1 := (hb1.block _ (lt_row HY.out)).trans HY.out
  have HB1 := Lib.hid (HB.out.trans (hb1.mono HB.out.size))
  have hl1 := lt_row hy1
  obtain ⟨hc1, hf1⟩ := row_facts hy1
  clear hb1 hc35 hf35 hl0 hy0 hev
  go_wp2_with fail
  obtain ⟨w6, hw6⟩ : ∃ w6, w6 = w1.alloc (.cells #[.string a, .string b, .int .u8 c, .string d, .string f, .int .i64 g] 56) := ⟨_, rfl⟩
  have hb6 : Below w1.heap.size w1 w6 := by rw [hw6]; exact (Below.refl _ _).alloc (Nat.le_refl _) _
  have hs6 : w6.heap[w1.heap.size]? = some (.cells #[.string a, .string b, .int .u8 c, .string d, .string f, .int .i64 g] 56 (0, 0)) := by rw [hw6]; exact heap_new _ _
  have hy6 := (hb6.block _ (lt_row hy1)).trans hy1
  have HB6 := Lib.hid (HB1.out.trans (hb6.mono HB1.out.size))
  rw [← hw6]
  have hl6 := lt_row hs6
  have hl7 := lt_row hy6
  have hne : ¬ w.heap.size + 1 = w1.heap.size := by omega
  obtain ⟨cs6, fs6⟩ := row_facts hs6
  obtain ⟨cy6, fy6⟩ := row_facts hy6
  clear hw6 hb6 hy1 hc1 hf1
  cases hyz : (y == 0)
  · go_region
    go_wp2
    obtain ⟨W4, hW4⟩ : ∃ W4, W4 = set6 w6 (w.heap.size + 1) (.string a) (.string b) (.int .u8 c) (.string d) (.string f) (.int .i64 g) := ⟨_, rfl⟩
    have hr0 : W4.heap[w.heap.size + 1]? = some (.cells #[.string a, .string b, .int .u8 c, .string d, .string f, .int .i64 g] 56 (0, 0)) := by rw [hW4]; exact set6_row hy6 ..
    have hb0 : Below w.heap.size w W4 := by rw [hW4]; exact set6_below HB6.out (by omega) ..
    have hr4 : W4.drew.heap[w.heap.size + 1]? = some (.cells #[.string a, .string b, .int .u8 c, .string d, .string f, .int .i64 g] 56 (0, 0)) := hr0
    have hb4 : Below w.heap.size w W4.drew := Bl.drew hb0
    change bodyPost _ _ _ _ _ (set6 w6 (w.heap.size + 1) (.string a) (.string b) (.int .u8 c) (.string d) (.string f) (.int .i64 g)).drew
    rw [← hW4]
    exact bodyPost_ret (v := .tuple #[.agg #[.string a, .string b, .int .u8 c, .string d, .string f, .int .i64 g], .bool (false && c == k)]) (results_cell_slot rfl _ _ (w.heap.size + 1) 56 #[.string a, .string b, .int .u8 c, .string d, .string f, .int .i64 g] (0, 0) _ rfl hr4 Tryz.underlying56 rfl HE.out rfl) rfl ⟨by rw [hyz], hb4⟩
  · go_region
    go_wp2
    obtain ⟨W4, hW4⟩ : ∃ W4, W4 = set6 w6 (w.heap.size + 1) (.string a) (.string b) (.int .u8 c) (.string d) (.string f) (.int .i64 g) := ⟨_, rfl⟩
    have hr0 : W4.heap[w.heap.size + 1]? = some (.cells #[.string a, .string b, .int .u8 c, .string d, .string f, .int .i64 g] 56 (0, 0)) := by rw [hW4]; exact set6_row hy6 ..
    have hb0 : Below w.heap.size w W4 := by rw [hW4]; exact set6_below HB6.out (by omega) ..
    have hr4 : W4.drew.heap[w.heap.size + 1]? = some (.cells #[.string a, .string b, .int .u8 c, .string d, .string f, .int .i64 g] 56 (0, 0)) := hr0
    have hb4 : Below w.heap.size w W4.drew := Bl.drew hb0
    change bodyPost _ _ _ _ _ (set6 w6 (w.heap.size + 1) (.string a) (.string b) (.int .u8 c) (.string d) (.string f) (.int .i64 g)).drew
    rw [← hW4]
    exact bodyPost_ret (v := .tuple #[.agg #[.string a, .string b, .int .u8 c, .string d, .string f, .int .i64 g], .bool (true && c == k)]) (results_cell_slot rfl _ _ (w.heap.size + 1) 56 #[.string a, .string b, .int .u8 c, .string d, .string f, .int .i64 g] (0, 0) _ rfl hr4 Tryz.underlying56 rfl HE.out rfl) rfl ⟨by rw [hyz], hb4⟩

end Go.Proofs.YtjiakfblgefioaaGreatDoor.T38E
