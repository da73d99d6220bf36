/-
  WHAT IS PROVED: contracts and plain laws. Condition: each names its own.
-/
import Derived.Test.YtceiajepcokacaaGreatDoorS0
import Derived.Test.YtceiajepcokacaaGreatDoorZHF18
import Derived.Test.YtceiajepcokacaaGreatDoorZH28
set_option linter.unusedVariables false
set_option linter.unusedSimpArgs false
set_option maxRecDepth 100000
set_option maxHeartbeats 4000000
namespace Go.Proofs.YtceiajepcokacaaGreatDoor.SnN
open Go.Proofs.Tryz
open Go Go.RowKit Go.ChangeMaps OctetS OctG ShaS EntS WireS WireT BookA RowsX Steps BkC SnK SnT SnM SnF
attribute [-go_sem] Builtin.append_
theorem Kv (w : World) (v : Value) (B : List Gr') (hB : Sl w v 36 B.length (B.flatMap Gr'.cs)) (hl : B.length ≤ maxLen) (hb : B.length * 64 ≤ 140737488355328) :
 Calls Tryz.prog 7 #[v] w fun e w' => ∃ v', e = .returned (.tuple #[.agg #[v', .slice none 0 0], .bool (C9 B)]) ∧ Ow w' w.heap.size 65 36 v' B.length (B.flatMap Gr'.cs) ∧ Below w.heap.size w w' := by
 obtain ⟨q, hq⟩ := nXe (C9 B)
 rw [← hq]
 obtain ⟨HB, HQ⟩ := l2h hB hq
 obtain ⟨w1, hw1⟩ := nXe (w.alloc (.cells #[.slice none 0 0, .slice none 0 0] 31))
 have hb1 : Below w.heap.size w w1 := by rw [hw1]; exact Bl.new (Below.refl _ _) _
 have HB1 := lh hb1
 have HX1 := lh (show w1.heap[w.heap.size]? = some (.cells #[.slice none 0 0, .slice none 0 0] 31 (0, 0)) by rw [hw1]; exact AL _ _)
 obtain ⟨HS1, HW1⟩ := l2h (Sl.below hB hb1) hw1
 have hz1 : w1.heap.size = w.heap.size + 1 := by rw [hw1]; simp
 clear hq hB hw1 hb1
 go_enter func7, ntmps7
 go_wp2_with (at_builtin; rw [← HW1.out]; go_must (refine GU tyG grF HS1.out rfl _ _ rfl (by rw [hz1]; rfl) rfl hl hb ?go))
 case go =>
 intro v2 w2 hA
 obtain ⟨a', c', rfl, _, _⟩ := hA.own.form
 have hC := RkH.JO w2 v B (Sl.below HS1.out hA.bel)
 obtain ⟨HA, HC⟩ := l2h hA hC
 have HX2 := lh ((hA.bel.block _ (by omega)).trans HX1.out)
 have z2 := hA.bel.size
 clear hA hC
 go_wp2_with fail
 refine HC.out.mono ?_
 rintro e w3 ⟨rfl, hb3⟩
 have HX3 := lh ((hb3.block _ (by omega)).trans HX2.out)
 have HB3 := lh hb3
 obtain ⟨x0, x1⟩ := AA HX3.out
 clear hb3
 have hres : (if C9 B = true then (0 : Int) else 2) = (if q then 0 else 2) := by rw [← HQ.out]
 cases q
 ·have e2 : (if C9 B = true then (0 : Int) else 2) = 2 := by rw [hres]; rfl
  rw [e2]
  clear hres e2
  go_wp2
  change bodyPost _ _ _ _ _ ((w3.setCell ⟨w.heap.size, 0, none⟩ (.slice a' B.length c')).setCell ⟨w.heap.size, 1, none⟩ (.slice none 0 0))
  obtain ⟨wF, hwF⟩ := nXe ((w3.setCell ⟨w.heap.size, 0, none⟩ (.slice a' B.length c')).setCell ⟨w.heap.size, 1, none⟩ (.slice none 0 0))
  rw [← hwF]
  have hF : wF.heap[w.heap.size]? = some (.cells #[.slice a' B.length c', .slice none 0 0] 31 (0, 0)) := by rw [hwF]; exact heap_setCell_same (heap_setCell_same HX3.out _) _
  have HEF := lh (show Ext (fun k => k = w.heap.size) w3 wF by rw [hwF]; exact (Ext.set1 w3 w.heap.size 0 _).trans (Ext.set1 _ w.heap.size 1 _))
  obtain ⟨cF, fF⟩ := AA hF
  clear hwF hF
  refine bodyPost_ret (v := .tuple #[.agg #[.slice a' B.length c', .slice none 0 0], .bool false]) (by simp [results, Tryz.results7, go_sem, cF, fF]; done) rfl ⟨_, rfl, ?_, ?_⟩
  ·exact ((HA.out.own.ext (Ext.ofB HB3.out) (fun _ _ h => h)).ext HEF.out (fun k hk e => by have := (HA.out.own.lt k hk).1; omega)).rebase (fun k hk => by have := (HA.out.own.lt k hk).1; omega)
  ·exact Bl.ext (Bl.call (Bl.call HB1.out HA.out.bel) HB3.out) HEF.out (fun k hk e => by omega)
 ·have e2 : (if C9 B = true then (0 : Int) else 2) = 0 := by rw [hres]; rfl
  rw [e2]
  clear hres e2
  go_wp2
  change bodyPost _ _ _ _ _ ((w3.setCell ⟨w.heap.size, 0, none⟩ (.slice a' B.length c')).setCell ⟨w.heap.size, 1, none⟩ (.slice none 0 0))
  obtain ⟨wF, hwF⟩ := nXe ((w3.setCell ⟨w.heap.size, 0, none⟩ (.slice a' B.length c')).setCell ⟨w.heap.size, 1, none⟩ (.slice none 0 0))
  rw [← hwF]
  have hF : wF.heap[w.heap.size]? = some (.cells #[.slice a' B.length c', .slice none 0 0] 31 (0, 0)) := by rw [hwF]; exact heap_setCell_same (heap_setCell_same HX3.out _) _
  have HEF := lh (show Ext (fun k => k = w.heap.size) w3 wF by rw [hwF]; exact (Ext.set1 w3 w.heap.size 0 _).trans (Ext.set1 _ w.heap.size 1 _))
  obtain ⟨cF, fF⟩ := AA hF
  clear hwF hF
  refine bodyPost_ret (v := .tuple #[.agg #[.slice a' B.length c', .slice none 0 0], .bool true]) (by simp [results, Tryz.results7, go_sem, cF, fF]; done) rfl ⟨_, rfl, ?_, ?_⟩
  ·exact ((HA.out.own.ext (Ext.ofB HB3.out) (fun _ _ h => h)).ext HEF.out (fun k hk e => by have := (HA.out.own.lt k hk).1; omega)).rebase (fun k hk => by have := (HA.out.own.lt k hk).1; omega)
  ·exact Bl.ext (Bl.call (Bl.call HB1.out HA.out.bel) HB3.out) HEF.out (fun k hk e => by omega)
end Go.Proofs.YtceiajepcokacaaGreatDoor.SnN
