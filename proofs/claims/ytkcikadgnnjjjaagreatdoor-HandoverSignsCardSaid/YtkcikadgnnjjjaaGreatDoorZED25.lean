/-
  WHAT IS PROVED: a book of one right grant. entries' sums, bytes, signatures, and the statements' own check of them. Condition: what each theorem names.
-/
import Derived.Test.YtkcikadgnnjjjaaGreatDoorS0
import Derived.Test.YtkcikadgnnjjjaaGreatDoorZEHD12
set_option linter.unusedVariables false
set_option linter.unusedSimpArgs false
set_option maxRecDepth 100000
set_option maxHeartbeats 4000000
namespace Go.Proofs.YtkcikadgnnjjjaaGreatDoor.BookE
open Go Go.RowKit Go.Shelf Steps RowsX Lift ShaS KeyS ShaA KeyA TreeA BookA BookB BookC BookD
theorem Verify_none (w : World) (v : Value) (g : Gr') (sv at' : Int) (text sig : ByteArray) (hg : g.Right) (hv : Sl w v 36 1 ([g].flatMap Gr'.cs)) (hf : foundB g sv at' = false) :
 Calls Tryz.prog 33 #[v, .int .i64 sv, .int .i64 at', .string text, .string sig] w (RB (.int .i64 3) w) := by
 have hF := Find_one w v g sv at' hg hv
 rw [hf] at hF
 rw [if_neg (by simp), if_neg (by simp)] at hF
 obtain ⟨C, hC⟩ := nXe (zeroG.A)
 rw [← hC] at hF
 have HCS := lh (show (Tryz.prog.info? 66).map (·.size) = some C.size by rw [hC]; exact gr_info _)
 have HCN := lh (show 36 = C.size by rw [hC]; exact (gr_size _).symm)
 have HCO := lh (show C.all (·.oneCell') = true by rw [hC]; kernel_rfl)
 have HF := lh hF
 clear hF hC hv hf
 go_enter Tryz.func33, Tryz.ntmps33
 go_wp2_with fail
 refine HF.out.mono ?_
 rintro e w1 ⟨rfl, hb⟩
 have HB1 := lh hb
 clear hb
 go_wp2_with (first | (refine wpList_store_rowA rfl _ _ _ rfl w1.heap.size C rfl rfl _ _ (heap_new _ _) HCS.out (by rw [← HCN.out]; rfl) HCO.out ?_) | fail)
 intro u1 hu1
 have HB2 := lh (show Below w.heap.size w u1 by rw [hu1.out]; exact below_row (HB1.out.alloc HB1.out.size _) HB1.out.size _)
 clear hu1
 go_wp2
 go_ret
 exact ⟨rfl, HB2.out⟩
end Go.Proofs.YtkcikadgnnjjjaaGreatDoor.BookE
namespace Go.Proofs.YtkcikadgnnjjjaaGreatDoor.EntL
open Go Go.RowKit Go.Shelf OctetS IdentS EntS OctG IdentP EntP EventC ShaA Steps KeyA KeyS KeyI KeyK TreeA EntK BookA
theorem found_no (ix : Int) : foundB gr 1 ix = false := by
 unfold foundB gr
 simp
end Go.Proofs.YtkcikadgnnjjjaaGreatDoor.EntL
