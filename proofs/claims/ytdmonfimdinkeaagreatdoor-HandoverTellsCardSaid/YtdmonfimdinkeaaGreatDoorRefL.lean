/-
  WHAT IS PROVED: by the document a list whose first text is too long has no bytes. Condition: what the theorem names.
-/
import Derived.Test.YtdmonfimdinkeaaGreatDoorKeyP
import Derived.Test.YtdmonfimdinkeaaGreatDoorRef1
namespace Go.Proofs.YtdmonfimdinkeaaGreatDoor.EntZ
open Go Go.RowKit Go.Shelf Go.Proofs.YtdmonfimdinkeaaGreatDoor Go.Proofs.YtdmonfimdinkeaaGreatDoor.OctetS Go.Proofs.YtdmonfimdinkeaaGreatDoor.EntS Go.Proofs.YtdmonfimdinkeaaGreatDoor.OctP Go.Proofs.YtdmonfimdinkeaaGreatDoor.OctQ Go.Proofs.YtdmonfimdinkeaaGreatDoor.OctG Go.Proofs.YtdmonfimdinkeaaGreatDoor.KeyA
set_option linter.unusedVariables false
set_option linter.unusedSimpArgs false

set_option maxRecDepth 100000 in
set_option maxHeartbeats 1000000 in
theorem List_long (w : World) (v : Value) (t : ByteArray) (r : List ByteArray) (h : Rd w v (t :: r)) (hr : r.length ≤ 100) (ht : 8192 < t.size) (ht2 : t.size ≤ 140737488351232) :
    Calls Tryz.prog 43 #[v] w (KeyA.RB (.tuple #[.string ⟨#[]⟩, .int .i64 7]) w) := by
  have hT := fun w => Ref1T.Text_no w t (by unfold maxLen; omega) ht
  obtain ⟨a, cap, rfl, hcap, hm⟩ := h.form
  obtain ⟨b, off, rfl, hbl, hcell⟩ := h.plain (by rw [strV_length]; simp)
  have hc0 : w.cell? ⟨b, off + 0, none⟩ = some (.string t) := hcell 0 _ rfl
  rw [Nat.add_zero] at hc0
  obtain ⟨n, hn⟩ : ∃ n, n = (t :: r).length := ⟨_, rfl⟩
  have hn1 : 0 < n := by rw [hn]; simp
  have hn2 : n ≤ 256 := by rw [hn]; simp; omega
  rw [← hn]
  have hN := fun w => Ref1N.Num_ok w n (by unfold OctetS.maxNum; omega)
  have Hc := Lib.hid hc0
  have HT := Lib.hid hT
  have HN := Lib.hid hN
  clear hcell hc0 h hn hcap hm hT hN
  go_enter Tryz.func43, Tryz.ntmps43
  go_wp2_with fail
  refine (HN.out w).mono ?_
  rintro e w1 ⟨rfl, hb⟩
  have hc1 : w1.cell? ⟨b, off, none⟩ = some (.string t) := (hb.cell (p := ⟨b, off, none⟩) hbl).trans Hc.out
  have HB := Lib.hid hb
  clear hb
  go_wp2
  refine wp_loop_rounds 1 ?_
  rw [rounds_succ]
  go_wp2_with fail
  refine (HT.out w1).mono ?_
  rintro e w2 ⟨rfl, rfl⟩
  go_wp2
  go_ret2
  exact ⟨rfl, HB.out⟩

end Go.Proofs.YtdmonfimdinkeaaGreatDoor.EntZ
