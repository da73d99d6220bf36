/-
  WHAT IS PROVED: whether any grant is right, and may stand behind another one, by the program and by the document. the program's check of any book. Condition: what each theorem names.
-/
import Derived.Test.YtkcikadgnnjjjaaGreatDoorS0
import Derived.Test.YtkcikadgnnjjjaaGreatDoorZEHD11
set_option linter.unusedVariables false
set_option linter.unusedSimpArgs false
set_option maxRecDepth 100000
set_option maxHeartbeats 4000000
namespace Go.Proofs.YtkcikadgnnjjjaaGreatDoor.BkR
open Go Go.RowKit Go.Shelf Steps RowsX Lift KeyA TreeA BookA BookB
def rightV (sv fr to hi : Int) : Bool := decide (0 ≤ sv) && (decide (sv ≤ 63) && (decide (0 ≤ hi) && (decide (hi ≤ 7) && (decide (0 ≤ fr) && (decide (fr ≤ to) && decide (to ≤ 1099511627776))))))
def rightB (g : Gr') : Bool := rightV g.sv g.fr g.to g.hi
theorem rightB_iff {g : Gr'} : rightB g = true ↔ g.Right := by
 unfold rightB rightV
 simp only [Bool.and_eq_true, decide_eq_true_eq]
 exact ⟨fun ⟨a, b, c, d, e, f, h⟩ => ⟨a, b, e, f, h, c, d⟩, fun h => ⟨h.s0, h.s1, h.h0, h.h1, h.f0, h.f1, h.t1⟩⟩
def apartV (s1 t1 s2 f2 : Int) : Bool := decide (s1 < s2) || ((s1 == s2) && decide (t1 < f2))
def apartB (a b : Gr') : Bool := apartV a.sv a.to b.sv b.fr
theorem right_casesP (sv fr to hi : Int) : (sv < 0 ∧ rightV sv fr to hi = false)
  ∨ (0 ≤ sv ∧ 63 < sv ∧ rightV sv fr to hi = false)
  ∨ (0 ≤ sv ∧ sv ≤ 63 ∧ hi < 0 ∧ rightV sv fr to hi = false)
  ∨ (0 ≤ sv ∧ sv ≤ 63 ∧ 0 ≤ hi ∧ 7 < hi ∧ rightV sv fr to hi = false)
  ∨ (0 ≤ sv ∧ sv ≤ 63 ∧ 0 ≤ hi ∧ hi ≤ 7 ∧ fr < 0 ∧ rightV sv fr to hi = false)
  ∨ (0 ≤ sv ∧ sv ≤ 63 ∧ 0 ≤ hi ∧ hi ≤ 7 ∧ 0 ≤ fr ∧ to < fr ∧ rightV sv fr to hi = false)
  ∨ (0 ≤ sv ∧ sv ≤ 63 ∧ 0 ≤ hi ∧ hi ≤ 7 ∧ 0 ≤ fr ∧ fr ≤ to ∧ 1099511627776 < to ∧ rightV sv fr to hi = false)
  ∨ (0 ≤ sv ∧ sv ≤ 63 ∧ 0 ≤ hi ∧ hi ≤ 7 ∧ 0 ≤ fr ∧ fr ≤ to ∧ to ≤ 1099511627776 ∧ rightV sv fr to hi = true) := by
 unfold rightV
 by_cases h0 : 0 ≤ sv
 ·skip
  by_cases h1 : sv ≤ 63
  ·skip
   by_cases h2 : 0 ≤ hi
   ·skip
    by_cases h3 : hi ≤ 7
    ·skip
     by_cases h4 : 0 ≤ fr
     ·skip
      by_cases h5 : fr ≤ to
      ·skip
       by_cases h6 : to ≤ 1099511627776
       ·skip
        exact .inr (.inr (.inr (.inr (.inr (.inr (.inr (⟨h0, h1, h2, h3, h4, h5, h6, by simp [h0, h1, h2, h3, h4, h5, h6]⟩)))))))
       ·exact .inr (.inr (.inr (.inr (.inr (.inr (.inl ⟨h0, h1, h2, h3, h4, h5, by omega, by simp [h6]⟩))))))
      ·exact .inr (.inr (.inr (.inr (.inr (.inl ⟨h0, h1, h2, h3, h4, by omega, by simp [h5]⟩)))))
     ·exact .inr (.inr (.inr (.inr (.inl ⟨h0, h1, h2, h3, by omega, by simp [h4]⟩))))
    ·exact .inr (.inr (.inr (.inl ⟨h0, h1, h2, by omega, by simp [h3]⟩)))
   ·exact .inr (.inr (.inl ⟨h0, h1, by omega, by simp [h2]⟩))
  ·exact .inr (.inl ⟨h0, by omega, by simp [h1]⟩)
 ·exact .inl ⟨by omega, by simp [h0]⟩
theorem right_casesR (sv fr to hi : Int) : (sv < 0 ∧ rightV sv fr to hi = false)
  ∨ (0 ≤ sv ∧ 63 < sv ∧ rightV sv fr to hi = false)
  ∨ (0 ≤ sv ∧ sv ≤ 63 ∧ fr < 0 ∧ rightV sv fr to hi = false)
  ∨ (0 ≤ sv ∧ sv ≤ 63 ∧ 0 ≤ fr ∧ to < fr ∧ rightV sv fr to hi = false)
  ∨ (0 ≤ sv ∧ sv ≤ 63 ∧ 0 ≤ fr ∧ fr ≤ to ∧ 1099511627776 < to ∧ rightV sv fr to hi = false)
  ∨ (0 ≤ sv ∧ sv ≤ 63 ∧ 0 ≤ fr ∧ fr ≤ to ∧ to ≤ 1099511627776 ∧ hi < 0 ∧ rightV sv fr to hi = false)
  ∨ (0 ≤ sv ∧ sv ≤ 63 ∧ 0 ≤ fr ∧ fr ≤ to ∧ to ≤ 1099511627776 ∧ 0 ≤ hi ∧ 7 < hi ∧ rightV sv fr to hi = false)
  ∨ (0 ≤ sv ∧ sv ≤ 63 ∧ 0 ≤ fr ∧ fr ≤ to ∧ to ≤ 1099511627776 ∧ 0 ≤ hi ∧ hi ≤ 7 ∧ rightV sv fr to hi = true) := by
 unfold rightV
 by_cases h0 : 0 ≤ sv
 ·skip
  by_cases h1 : sv ≤ 63
  ·skip
   by_cases h2 : 0 ≤ fr
   ·skip
    by_cases h3 : fr ≤ to
    ·skip
     by_cases h4 : to ≤ 1099511627776
     ·skip
      by_cases h5 : 0 ≤ hi
      ·skip
       by_cases h6 : hi ≤ 7
       ·skip
        exact .inr (.inr (.inr (.inr (.inr (.inr (.inr (⟨h0, h1, h2, h3, h4, h5, h6, by simp [h0, h1, h2, h3, h4, h5, h6]⟩)))))))
       ·exact .inr (.inr (.inr (.inr (.inr (.inr (.inl ⟨h0, h1, h2, h3, h4, h5, by omega, by simp [h6]⟩))))))
      ·exact .inr (.inr (.inr (.inr (.inr (.inl ⟨h0, h1, h2, h3, h4, by omega, by simp [h5]⟩)))))
     ·exact .inr (.inr (.inr (.inr (.inl ⟨h0, h1, h2, h3, by omega, by simp [h4]⟩))))
    ·exact .inr (.inr (.inr (.inl ⟨h0, h1, h2, by omega, by simp [h3]⟩)))
   ·exact .inr (.inr (.inl ⟨h0, h1, by omega, by simp [h2]⟩))
  ·exact .inr (.inl ⟨h0, by omega, by simp [h1]⟩)
 ·exact .inl ⟨by omega, by simp [h0]⟩
theorem right_ok (w : World) (g : Gr') : Calls Tryz.prog 129 #[.agg g.A] w (RB (.bool (rightB g)) w) := by
 unfold rightB
 obtain ⟨p, hp⟩ := nXe (g.A)
 have p0 := g.c0
 have p1 := g.c1
 have p2 := g.c2
 have p3 := g.c3
 rw [← hp] at p0 p1 p2 p3 ⊢
 obtain ⟨sv, hsv⟩ := nXe (g.sv)
 obtain ⟨fr, hfr⟩ := nXe (g.fr)
 obtain ⟨to, hto⟩ := nXe (g.to)
 obtain ⟨hi, hhi⟩ := nXe (g.hi)
 rw [← hsv, ← hfr, ← hto, ← hhi]
 rw [← hsv] at p0
 rw [← hfr] at p1
 rw [← hto] at p2
 rw [← hhi] at p3
 clear hsv hfr hto hhi hp
 rcases right_casesP sv fr to hi with ⟨h0, hv⟩ | ⟨h0, h1, hv⟩ | ⟨h0, h1, h2, hv⟩ | ⟨h0, h1, h2, h3, hv⟩ | ⟨h0, h1, h2, h3, h4, hv⟩ | ⟨h0, h1, h2, h3, h4, h5, hv⟩ | ⟨h0, h1, h2, h3, h4, h5, h6, hv⟩ | ⟨h0, h1, h2, h3, h4, h5, h6, hv⟩
 ·rw [hv]
  clear hv
  have d0 : decide (sv < 0) = true := decide_eq_true (by omega)
  go_enter Tryz.func129, Tryz.ntmps129
  go_wp2
  go_ret
  exact ⟨by first | rfl | simp_all, bAx⟩
 ·rw [hv]
  clear hv
  have d0 : decide (sv < 0) = false := decide_eq_false (by omega)
  have d1 : decide (63 < sv) = true := decide_eq_true (by omega)
  go_enter Tryz.func129, Tryz.ntmps129
  go_wp2
  go_ret
  exact ⟨by first | rfl | simp_all, bAx⟩
 ·rw [hv]
  clear hv
  have d0 : decide (sv < 0) = false := decide_eq_false (by omega)
  have d1 : decide (63 < sv) = false := decide_eq_false (by omega)
  have d2 : decide (hi < 0) = true := decide_eq_true (by omega)
  go_enter Tryz.func129, Tryz.ntmps129
  go_wp2
  go_ret
  exact ⟨by first | rfl | simp_all, bAx⟩
 ·rw [hv]
  clear hv
  have d0 : decide (sv < 0) = false := decide_eq_false (by omega)
  have d1 : decide (63 < sv) = false := decide_eq_false (by omega)
  have d2 : decide (hi < 0) = false := decide_eq_false (by omega)
  have d3 : decide (7 < hi) = true := decide_eq_true (by omega)
  go_enter Tryz.func129, Tryz.ntmps129
  go_wp2
  go_ret
  exact ⟨by first | rfl | simp_all, bAx⟩
 ·rw [hv]
  clear hv
  have d0 : decide (sv < 0) = false := decide_eq_false (by omega)
  have d1 : decide (63 < sv) = false := decide_eq_false (by omega)
  have d2 : decide (hi < 0) = false := decide_eq_false (by omega)
  have d3 : decide (7 < hi) = false := decide_eq_false (by omega)
  have d4 : decide (0 ≤ fr) = false := decide_eq_false (by omega)
  go_enter Tryz.func129, Tryz.ntmps129
  go_wp2
  go_ret
  exact ⟨by first | rfl | simp_all, bAx⟩
 ·rw [hv]
  clear hv
  have d0 : decide (sv < 0) = false := decide_eq_false (by omega)
  have d1 : decide (63 < sv) = false := decide_eq_false (by omega)
  have d2 : decide (hi < 0) = false := decide_eq_false (by omega)
  have d3 : decide (7 < hi) = false := decide_eq_false (by omega)
  have d4 : decide (0 ≤ fr) = true := decide_eq_true (by omega)
  have d5 : decide (fr ≤ to) = false := decide_eq_false (by omega)
  go_enter Tryz.func129, Tryz.ntmps129
  go_wp2
  go_ret
  exact ⟨by first | rfl | simp_all, bAx⟩
 ·rw [hv]
  clear hv
  have d0 : decide (sv < 0) = false := decide_eq_false (by omega)
  have d1 : decide (63 < sv) = false := decide_eq_false (by omega)
  have d2 : decide (hi < 0) = false := decide_eq_false (by omega)
  have d3 : decide (7 < hi) = false := decide_eq_false (by omega)
  have d4 : decide (0 ≤ fr) = true := decide_eq_true (by omega)
  have d5 : decide (fr ≤ to) = true := decide_eq_true (by omega)
  have d6 : decide (to ≤ 1099511627776) = false := decide_eq_false (by omega)
  go_enter Tryz.func129, Tryz.ntmps129
  go_wp2
  go_ret
  exact ⟨by first | rfl | simp_all, bAx⟩
 ·rw [hv]
  clear hv
  have d0 : decide (sv < 0) = false := decide_eq_false (by omega)
  have d1 : decide (63 < sv) = false := decide_eq_false (by omega)
  have d2 : decide (hi < 0) = false := decide_eq_false (by omega)
  have d3 : decide (7 < hi) = false := decide_eq_false (by omega)
  have d4 : decide (0 ≤ fr) = true := decide_eq_true (by omega)
  have d5 : decide (fr ≤ to) = true := decide_eq_true (by omega)
  have d6 : decide (to ≤ 1099511627776) = true := decide_eq_true (by omega)
  go_enter Tryz.func129, Tryz.ntmps129
  go_wp2
  go_ret
  exact ⟨by first | rfl | simp_all, bAx⟩
theorem right2_ok (w : World) (g : Gr') : Calls Tryz.prog 132 #[.agg g.A] w (RB (.bool (rightB g)) w) := by
 unfold rightB
 obtain ⟨p, hp⟩ := nXe (g.A)
 have p0 := g.c0
 have p1 := g.c1
 have p2 := g.c2
 have p3 := g.c3
 rw [← hp] at p0 p1 p2 p3 ⊢
 obtain ⟨sv, hsv⟩ := nXe (g.sv)
 obtain ⟨fr, hfr⟩ := nXe (g.fr)
 obtain ⟨to, hto⟩ := nXe (g.to)
 obtain ⟨hi, hhi⟩ := nXe (g.hi)
 rw [← hsv, ← hfr, ← hto, ← hhi]
 rw [← hsv] at p0
 rw [← hfr] at p1
 rw [← hto] at p2
 rw [← hhi] at p3
 clear hsv hfr hto hhi hp
 rcases right_casesR sv fr to hi with ⟨h0, hv⟩ | ⟨h0, h1, hv⟩ | ⟨h0, h1, h2, hv⟩ | ⟨h0, h1, h2, h3, hv⟩ | ⟨h0, h1, h2, h3, h4, hv⟩ | ⟨h0, h1, h2, h3, h4, h5, hv⟩ | ⟨h0, h1, h2, h3, h4, h5, h6, hv⟩ | ⟨h0, h1, h2, h3, h4, h5, h6, hv⟩
 ·rw [hv]
  clear hv
  have d0 : decide (0 ≤ sv) = false := decide_eq_false (by omega)
  go_enter Tryz.func132, Tryz.ntmps132
  go_wp2
  go_ret
  exact ⟨by first | rfl | simp_all, bAx⟩
 ·rw [hv]
  clear hv
  have d0 : decide (0 ≤ sv) = true := decide_eq_true (by omega)
  have d1 : decide (sv ≤ 63) = false := decide_eq_false (by omega)
  go_enter Tryz.func132, Tryz.ntmps132
  go_wp2
  go_ret
  exact ⟨by first | rfl | simp_all, bAx⟩
 ·rw [hv]
  clear hv
  have d0 : decide (0 ≤ sv) = true := decide_eq_true (by omega)
  have d1 : decide (sv ≤ 63) = true := decide_eq_true (by omega)
  have d2 : decide (0 ≤ fr) = false := decide_eq_false (by omega)
  go_enter Tryz.func132, Tryz.ntmps132
  go_wp2
  go_ret
  exact ⟨by first | rfl | simp_all, bAx⟩
 ·rw [hv]
  clear hv
  have d0 : decide (0 ≤ sv) = true := decide_eq_true (by omega)
  have d1 : decide (sv ≤ 63) = true := decide_eq_true (by omega)
  have d2 : decide (0 ≤ fr) = true := decide_eq_true (by omega)
  have d3 : decide (fr ≤ to) = false := decide_eq_false (by omega)
  go_enter Tryz.func132, Tryz.ntmps132
  go_wp2
  go_ret
  exact ⟨by first | rfl | simp_all, bAx⟩
 ·rw [hv]
  clear hv
  have d0 : decide (0 ≤ sv) = true := decide_eq_true (by omega)
  have d1 : decide (sv ≤ 63) = true := decide_eq_true (by omega)
  have d2 : decide (0 ≤ fr) = true := decide_eq_true (by omega)
  have d3 : decide (fr ≤ to) = true := decide_eq_true (by omega)
  have d4 : decide (to ≤ 1099511627776) = false := decide_eq_false (by omega)
  go_enter Tryz.func132, Tryz.ntmps132
  go_wp2
  go_ret
  exact ⟨by first | rfl | simp_all, bAx⟩
 ·rw [hv]
  clear hv
  have d0 : decide (0 ≤ sv) = true := decide_eq_true (by omega)
  have d1 : decide (sv ≤ 63) = true := decide_eq_true (by omega)
  have d2 : decide (0 ≤ fr) = true := decide_eq_true (by omega)
  have d3 : decide (fr ≤ to) = true := decide_eq_true (by omega)
  have d4 : decide (to ≤ 1099511627776) = true := decide_eq_true (by omega)
  have d5 : decide (0 ≤ hi) = false := decide_eq_false (by omega)
  go_enter Tryz.func132, Tryz.ntmps132
  go_wp2
  go_ret
  exact ⟨by first | rfl | simp_all, bAx⟩
 ·rw [hv]
  clear hv
  have d0 : decide (0 ≤ sv) = true := decide_eq_true (by omega)
  have d1 : decide (sv ≤ 63) = true := decide_eq_true (by omega)
  have d2 : decide (0 ≤ fr) = true := decide_eq_true (by omega)
  have d3 : decide (fr ≤ to) = true := decide_eq_true (by omega)
  have d4 : decide (to ≤ 1099511627776) = true := decide_eq_true (by omega)
  have d5 : decide (0 ≤ hi) = true := decide_eq_true (by omega)
  have d6 : decide (hi ≤ 7) = false := decide_eq_false (by omega)
  go_enter Tryz.func132, Tryz.ntmps132
  go_wp2
  go_ret
  exact ⟨by first | rfl | simp_all, bAx⟩
 ·rw [hv]
  clear hv
  have d0 : decide (0 ≤ sv) = true := decide_eq_true (by omega)
  have d1 : decide (sv ≤ 63) = true := decide_eq_true (by omega)
  have d2 : decide (0 ≤ fr) = true := decide_eq_true (by omega)
  have d3 : decide (fr ≤ to) = true := decide_eq_true (by omega)
  have d4 : decide (to ≤ 1099511627776) = true := decide_eq_true (by omega)
  have d5 : decide (0 ≤ hi) = true := decide_eq_true (by omega)
  have d6 : decide (hi ≤ 7) = true := decide_eq_true (by omega)
  go_enter Tryz.func132, Tryz.ntmps132
  go_wp2
  go_ret
  exact ⟨by first | rfl | simp_all, bAx⟩
theorem apart_ok (w : World) (a b : Gr') : Calls Tryz.prog 130 #[.agg a.A, .agg b.A] w (RB (.bool (apartB a b)) w) := by
 unfold apartB apartV
 obtain ⟨p, hp⟩ := nXe (a.A)
 obtain ⟨q, hq⟩ := nXe (b.A)
 have p0 := a.c0
 have p2 := a.c2
 have q0 := b.c0
 have q1 := b.c1
 rw [← hp] at p0 p2 ⊢
 rw [← hq] at q0 q1 ⊢
 obtain ⟨s1, h1⟩ := nXe (a.sv)
 obtain ⟨t1, h2⟩ := nXe (a.to)
 obtain ⟨s2, h3⟩ := nXe (b.sv)
 obtain ⟨f2, h4⟩ := nXe (b.fr)
 rw [← h1, ← h2, ← h3, ← h4]
 rw [← h1] at p0
 rw [← h2] at p2
 rw [← h3] at q0
 rw [← h4] at q1
 clear h1 h2 h3 h4 hp hq
 obtain ⟨w0, hw0⟩ := nXe ((w.alloc (.cells p 66)).alloc (.cells q 66))
 have hb0 : Below w.heap.size w w0 := by rw [hw0]; exact bAx.alloc (by simp) _
 have hx0 : w0.heap[w.heap.size]? = some (.cells p 66 (0, 0)) := by rw [hw0]; exact heap_at (heap_new _ _) _
 have hy0 : w0.heap[w.heap.size + 1]? = some (.cells q 66 (0, 0)) := by rw [hw0]; exact heap_new' _ (by simp)
 have c0 : w0.cell? ⟨w.heap.size, 0, none⟩ = some _ := (cell_row hx0).trans p0
 have c2 : w0.cell? ⟨w.heap.size, 2, none⟩ = some _ := (cell_row hx0).trans p2
 have e0 : w0.cell? ⟨w.heap.size + 1, 0, none⟩ = some _ := (cell_row hy0).trans q0
 have e1 : w0.cell? ⟨w.heap.size + 1, 1, none⟩ = some _ := (cell_row hy0).trans q1
 have HB0 := lh hb0
 have HW0 := lh hw0
 clear hx0 hy0 hb0 hw0 p0 p2 q0 q1
 rcases Int.lt_trichotomy s1 s2 with h | h | h
 ·skip
  have d0 : decide (s1 < s2) = true := decide_eq_true h
  rw [d0]
  go_enter Tryz.func130, Tryz.ntmps130
  go_wp2_with (first | (rw [← HW0.out]; skip) | fail)
  go_ret
  exact ⟨by first | rfl | simp_all, HB0.out⟩
 ·skip
  subst h
  have d0 : decide (s1 < s1) = false := decide_eq_false (by omega)
  have d1 : (s1 == s1) = true := by simp
  rw [d0, d1]
  go_enter Tryz.func130, Tryz.ntmps130
  go_wp2_with (first | (rw [← HW0.out]; skip) | fail)
  go_ret
  exact ⟨by first | rfl | simp_all, HB0.out⟩
 ·skip
  have d0 : decide (s1 < s2) = false := decide_eq_false (by omega)
  have d1 : (s1 == s2) = false := by simp; omega
  rw [d0, d1]
  go_enter Tryz.func130, Tryz.ntmps130
  go_wp2_with (first | (rw [← HW0.out]; skip) | fail)
  go_ret
  exact ⟨by first | rfl | simp_all, HB0.out⟩
end Go.Proofs.YtkcikadgnnjjjaaGreatDoor.BkR
namespace Go.Proofs.YtkcikadgnnjjjaaGreatDoor.BkC
open Go Go.RowKit Go.Shelf Steps RowsX Lift KeyA TreeA BookA BookB BkR
theorem exec_load_rowO {P : Program} {o : Oper} {a : Act} {w : World} (ty : TypeId) (x : Operand) (ho : o.op = .load ty x) (b off : Nat) (hx : a.eval x = .pointer (some ⟨b, off, none⟩)) (cs : Array Value)
  (hc : ∀ j v, cs.toList[j]? = some v → w.cell? ⟨b, off + j, none⟩ = some v) {d : TypeDesc}
  (hu : P.underlying ty = some d) (hd : (match d with | .struct _ | .array _ _ => true | _ => false) = true) (hi : (P.info? ty).map (·.size) = some cs.size) : (execOp a.eval o).run P w = .ok (.value (.agg cs)) w := by
 have hl : (loadCells ⟨b, off, none⟩ cs.toList.length).run P w = .ok cs.toList.toArray w :=
  run_loadCells_list (P := P) w ⟨b, off, none⟩ cs.toList (fun j v hv => by
   have hadd : (⟨b, off, none⟩ : Addr).add j = ⟨b, off + j, none⟩ := by unfold Addr.add; split <;> simp_all
   rw [hadd]
   exact hc j v hv)
 have hrun : (loadVar ty ⟨b, off, none⟩).run P w = .ok (.agg cs) w := by
  cases hq : P.info? ty with
  | none => simp [hq] at hi
  | some i =>
   have hs : i.size = cs.size := by simpa [hq] using hi
   have hagg : (isAgg ty).run P w = .ok true w := by
    unfold isAgg
    rw [Sem.run_bind, run_underlying hu w]
    cases d <;> simp_all
   simp only [Array.length_toList, Array.toArray_toList] at hl
   simp [loadVar, Sem.run_bind, hagg, sizeOf, typeInfo, hq, hs, hl]
 unfold execOp
 simp only [ho, hx, Instr.loadAt, Instr.sureAddr, Sem.run_bind, Sem.run_pure, Result.andThen_ok, hrun]
def okF : Option Gr' → List Gr' → Bool
 | _, [] => true
 | none, g :: r => rightB g && okF (some g) r
 | some q, g :: r => rightB g && (apartB q g && okF (some g) r)
def bookB (L : List Gr') : Bool := decide (L.length ≤ 256) && okF none L
def prevAt (L : List Gr') (k : Nat) : Option Gr' := if k = 0 then none else L[k - 1]?
theorem okF_at {L : List Gr'} {k : Nat} {g : Gr'} (h : L[k]? = some g) : okF (prevAt L k) (L.drop k) = (rightB g && ((match prevAt L k with | none => true | some q => apartB q g) && okF (prevAt L (k + 1)) (L.drop (k + 1)))) := by
 have hlt : k < L.length := by
  rcases Nat.lt_or_ge k L.length with h' | h'
  ·exact h'
  ·rw [List.getElem?_eq_none h'] at h; cases h
 have hd : L.drop k = g :: L.drop (k + 1) := by
  rw [List.drop_eq_getElem_cons hlt]
  rw [List.getElem?_eq_getElem hlt] at h
  rw [Option.some.inj h]
 have hp : prevAt L (k + 1) = some g := by
  unfold prevAt
  rw [if_neg (by omega), Nat.add_sub_cancel]
  exact h
 rw [hd, hp]
 cases prevAt L k with
 | none => simp [okF]
 | some q => rfl
theorem Check_ok (w : World) (v : Value) (L : List Gr') (hv : Sl w v 36 L.length (L.flatMap Gr'.cs)) : Calls Tryz.prog 99 #[v] w (RB (.int .i64 (if bookB L = true then 0 else 2)) w) := by
 obtain ⟨a, cap, rfl, hcap, hm⟩ := hv.form
 unfold bookB
 by_cases hbig : 256 < L.length
 ·rw [decide_eq_false (by omega)]
  obtain ⟨n, hn⟩ := nXe (L.length)
  rw [← hn] at hbig ⊢
  have hnm : n ≤ maxLen := by omega
  unfold maxLen at hnm
  clear hv hn hcap hm
  show Calls _ _ _ _ (RB (.int .i64 2) w)
  go_enter Tryz.func99, Tryz.ntmps99
  go_wp2
  go_ret
  exact ⟨rfl, Below.refl _ _⟩
 ·rw [decide_eq_true (by omega), Bool.true_and]
  have Hrow := lh (fun (k : Nat) (g : Gr') (hx : L[k]? = some g) => row_cells grF (by omega) hv hx)
  obtain ⟨RES, hRES⟩ := nXe (okF none L)
  rw [← hRES]
  have HRES := lh hRES
  obtain ⟨y, hy⟩ : ∃ y : Int, y = (if RES = true then 0 else 2) := ⟨_, rfl⟩
  rw [← hy]
  have HYQ := lh hy
  clear hy
  obtain ⟨n, hn⟩ := nXe (L.length)
  rw [← hn] at hbig ⊢
  have Hn := lh hn
  clear hv hRES hn hcap hm
  go_enter Tryz.func99, Tryz.ntmps99
  go_wp2
  go_loopw [10] (fun i wr => ∃ (k : Nat), i = .int .i64 k ∧ k ≤ n ∧ Hid (okF (prevAt L k) (L.drop k) = RES) ∧ Below w.heap.size w wr) (fun i _ => n - (intOf i).toNat)
  case atStart => exact ⟨0, rfl, by omega, lh HRES.out.symm, Below.refl _ _⟩
  case round =>
   obtain ⟨k, rfl, hk, hR, hb⟩ := hrel
   have HBr := lh hb
   have HR : Hid (okF (prevAt L k) (L.drop k) = RES) := hR
   clear hb hR
   by_cases hlt : k < n
   ·skip
    obtain ⟨g, hg⟩ : ∃ g, L[k]? = some g := ⟨_, List.getElem?_eq_getElem (by rw [← Hn.out]; exact hlt)⟩
    obtain ⟨b, o, rfl, hblt, hcc⟩ := Hrow.out k g hg
    have hstep := okF_at hg
    rw [HR.out] at hstep
    have hRt := fun w => right_ok w g
    have hAp := fun w q => apart_ok w q g
    obtain ⟨C, hC⟩ := nXe (g.A)
    rw [← hC] at hRt hAp
    have Hcc := lh (show ∀ (j : Nat) (u : Value), C.toList[j]? = some u → wr.cell? ⟨b, o + k * 36 + j, none⟩ = some u from fun j u h => (HBr.out.cell (p := ⟨b, o + k * 36 + j, none⟩) hblt).trans (hcc j u (by rw [hC] at h; exact h)))
    have HCS := lh (show (Tryz.prog.info? 66).map (·.size) = some C.size by rw [hC]; exact gr_info g)
    have HCN := lh (show 36 = C.size by rw [hC]; exact (gr_size g).symm)
    have HCO := lh (show C.all (·.oneCell') = true by
     rw [hC, Array.all_eq_true_iff_forall_mem]
     intro u hu
     exact grF.one g u (by simpa [Gr'.A] using hu))
    have HRt := lh hRt
    have HAp := lh hAp
    have Hstep := lh hstep
    clear hRt hAp hcc hstep hC
    go_wp2_with (first | (refine wpList_load_rowO rfl _ _ rfl b (o + k * 36) rfl C Hcc.out Tryz.underlying66 rfl HCS.out ?_) | (refine wpList_store_rowA rfl _ _ _ rfl wr.heap.size C rfl rfl _ _ (heap_new _ _) HCS.out (by rw [← HCN.out]; rfl) HCO.out ?_) | fail)
    intro u1 hu1
    have hb : Below wr.heap.size wr u1 := by rw [hu1.out]; exact below_row bAx (Nat.le_refl _) _
    have hyy : u1.heap[wr.heap.size]? = some (.cells C 66 (0, 0)) := by rw [hu1.out]; exact setRow_at (heap_new _ _)
    clear hu1
    obtain ⟨w2, hww⟩ : ∃ w', w' = u1 := ⟨_, rfl⟩
    rw [← hww] at hb hyy ⊢
    clear hww
    have HB2 := tbB HBr hb
    have HY2 := lh hyy
    clear hb hyy
    obtain ⟨BG, hBG⟩ := nXe (wr.heap.size)
    rw [← hBG] at HY2 ⊢
    clear hBG
    obtain ⟨rb, hrb⟩ := nXe (rightB g)
    rw [← hrb] at HRt Hstep
    clear hrb
    have HBa := lh hblt
    clear hblt
    go_wp2_with fail
    cases rb
    ·skip
     have hE : RES = false := Hstep.out.trans (by simp)
     have hyE : y = 2 := by rw [HYQ.out, hE]; rfl
     subst hyE
     clear hE
     refine Uniform.region_chain (S := (fun W => W.heap[BG]? = some (.cells C 66 (0, 0)) ∧ Below w.heap.size w W)) (List.range 17) (by kernel_rfl) (by kernel_rfl) ⟨HY2.out, (HB2.out).drew⟩ ?_
     refine ⟨_, _, rfl, Or.inl ⟨by rfl, fun wq hSw => Uniform.UStep.value (w' := wq) (EqHash.exec_load_row 66 _ rfl _ rfl hSw.1 Tryz.underlying66 rfl HCS.out) hSw⟩, ?_⟩
     simp only [Act.put, sxx]
     refine ⟨_, ?_, rfl, Or.inl ⟨by rfl, fun wq hSw => Uniform.UStep.call (w' := wq) ?_ ((HRt.out wq).mono ?_)⟩, ?_⟩
     rotate_left
     ·obtain ⟨q0, q1⟩ := hSw
      obtain ⟨qc0, qf0⟩ := row_facts q0
      go_simp
      all_goals (and_intros <;> rfl)
     ·have hSk := hSw
      obtain ⟨q0, q1⟩ := hSw
      rintro e wq2 ⟨rfl, hbq⟩
      refine ⟨?_, (hbq.block _ (lt_row q0)).trans q0, q1.trans (hbq.mono q1.size)⟩
      rfl
     iterate 2
      simp only [Act.put, sxx]
      refine ⟨_, ?_, rfl, .inl ⟨by rfl, fun wq hSw => .value (w' := wq) ?_ hSw⟩, ?_⟩
      rotate_left
      ·obtain ⟨q0, q1⟩ := hSw
       obtain ⟨qc0, qf0⟩ := row_facts q0
       go_simp
       rfl
     iterate 12
      simp only [Act.put, sxx]
      refine ⟨_, undef, rfl, Or.inr ⟨by rfl, rfl⟩, ?_⟩
     simp only [Act.put, sxx]
     refine ⟨_, ?_, rfl, .inl ⟨by rfl, fun wq hSw => .value (w' := wq) ?_ hSw⟩, ?_⟩
     rotate_left
     ·obtain ⟨q0, q1⟩ := hSw
      obtain ⟨qc0, qf0⟩ := row_facts q0
      go_simp
      rfl
     simp only [Act.put, sxx]
     intro wz hSz
     obtain ⟨_, q1⟩ := hSz
     have HBZ := lh q1
     clear q1
     go_wp2
     go_ret
     exact ⟨rfl, HBZ.out⟩
    rcases Nat.eq_zero_or_pos k with h0 | hp
    ·skip
     subst h0
     have hE : RES = okF (prevAt L 1) (L.drop 1) := Hstep.out.trans (by simp [prevAt])
     have HE := lh hE.symm
     clear hE
     refine Uniform.region_chain (S := (fun W => W.heap[BG]? = some (.cells C 66 (0, 0)) ∧ Below w.heap.size w W)) (List.range 17) (by kernel_rfl) (by kernel_rfl) ⟨HY2.out, (HB2.out).drew⟩ ?_
     refine ⟨_, _, rfl, Or.inl ⟨by rfl, fun wq hSw => Uniform.UStep.value (w' := wq) (EqHash.exec_load_row 66 _ rfl _ rfl hSw.1 Tryz.underlying66 rfl HCS.out) hSw⟩, ?_⟩
     simp only [Act.put, sxx]
     refine ⟨_, ?_, rfl, Or.inl ⟨by rfl, fun wq hSw => Uniform.UStep.call (w' := wq) ?_ ((HRt.out wq).mono ?_)⟩, ?_⟩
     rotate_left
     ·obtain ⟨q0, q1⟩ := hSw
      obtain ⟨qc0, qf0⟩ := row_facts q0
      go_simp
      all_goals (and_intros <;> rfl)
     ·have hSk := hSw
      obtain ⟨q0, q1⟩ := hSw
      rintro e wq2 ⟨rfl, hbq⟩
      refine ⟨?_, (hbq.block _ (lt_row q0)).trans q0, q1.trans (hbq.mono q1.size)⟩
      rfl
     iterate 5
      simp only [Act.put, sxx]
      refine ⟨_, ?_, rfl, .inl ⟨by rfl, fun wq hSw => .value (w' := wq) ?_ hSw⟩, ?_⟩
      rotate_left
      ·obtain ⟨q0, q1⟩ := hSw
       obtain ⟨qc0, qf0⟩ := row_facts q0
       go_simp
       rfl
     iterate 8
      simp only [Act.put, sxx]
      refine ⟨_, undef, rfl, Or.inr ⟨by rfl, rfl⟩, ?_⟩
     iterate 2
      simp only [Act.put, sxx]
      refine ⟨_, ?_, rfl, .inl ⟨by rfl, fun wq hSw => .value (w' := wq) ?_ hSw⟩, ?_⟩
      rotate_left
      ·obtain ⟨q0, q1⟩ := hSw
       obtain ⟨qc0, qf0⟩ := row_facts q0
       go_simp
       rfl
     simp only [Act.put, sxx]
     intro wz hSz
     obtain ⟨_, q1⟩ := hSz
     have HBZ := lh q1
     clear q1
     go_wp2
     go_roundw
     case rel => exact ⟨1, by go_num, by omega, HE.out, HBZ.out⟩
     case measure => simp [intOf]; omega
    ·skip
     obtain ⟨k1, rfl⟩ : ∃ q, k = q + 1 := ⟨k - 1, by omega⟩
     obtain ⟨pv, hpv⟩ : ∃ q, L[k1]? = some q := ⟨_, List.getElem?_eq_getElem (by rw [← Hn.out]; omega)⟩
     obtain ⟨b', o', hbo, _, hcp⟩ := Hrow.out k1 pv hpv
     have hpr : prevAt L (k1 + 1) = some pv := by unfold prevAt; rw [if_neg (by omega), Nat.add_sub_cancel]; exact hpv
     have hst := Hstep.out
     rw [hpr] at hst
     have hst : RES = (apartB pv g && okF (prevAt L (k1 + 1 + 1)) (L.drop (k1 + 1 + 1))) := hst.trans (by simp)
     obtain ⟨rfl, rfl⟩ : b = b' ∧ o = o' := by simpa using hbo
     obtain ⟨D, hD⟩ := nXe (pv.A)
     have HDS := lh (show (Tryz.prog.info? 66).map (·.size) = some D.size by rw [hD]; exact gr_info pv)
     have Hcp := lh (show ∀ (j : Nat) (u : Value), D.toList[j]? = some u → w.cell? ⟨b, o + k1 * 36 + j, none⟩ = some u from fun j u h => hcp j u (by rw [hD] at h; exact h))
     have hap := fun w => HAp.out w pv
     rw [← hD] at hap
     obtain ⟨ab, hab⟩ := nXe (apartB pv g)
     rw [← hab] at hap hst
     have HAP := lh hap
     have HST := lh hst
     have hw1 : IntKind.i64.wrap (k1 : Int) = (k1 : Int) := by rw [IntKind.wrap_i64]; omega
     have hk1 : (k1 : Int) < (n : Int) := by omega
     clear hcp hpr hst hap hab hD hbo HR Hstep
     cases ab
     ·skip
      have hE : RES = false := HST.out.trans (by simp)
      have hyE : y = 2 := by rw [HYQ.out, hE]; rfl
      subst hyE
      clear hE
      refine Uniform.region_chain (S := (fun W => W.heap[BG]? = some (.cells C 66 (0, 0)) ∧ Below w.heap.size w W)) (List.range 17) (by kernel_rfl) (by kernel_rfl) ⟨HY2.out, (HB2.out).drew⟩ ?_
      refine ⟨_, _, rfl, Or.inl ⟨by rfl, fun wq hSw => Uniform.UStep.value (w' := wq) (EqHash.exec_load_row 66 _ rfl _ rfl hSw.1 Tryz.underlying66 rfl HCS.out) hSw⟩, ?_⟩
      simp only [Act.put, sxx]
      refine ⟨_, ?_, rfl, Or.inl ⟨by rfl, fun wq hSw => Uniform.UStep.call (w' := wq) ?_ ((HRt.out wq).mono ?_)⟩, ?_⟩
      rotate_left
      ·obtain ⟨q0, q1⟩ := hSw
       obtain ⟨qc0, qf0⟩ := row_facts q0
       go_simp
       all_goals (and_intros <;> rfl)
      ·have hSk := hSw
       obtain ⟨q0, q1⟩ := hSw
       rintro e wq2 ⟨rfl, hbq⟩
       refine ⟨?_, (hbq.block _ (lt_row q0)).trans q0, q1.trans (hbq.mono q1.size)⟩
       rfl
      iterate 8
       simp only [Act.put, sxx]
       refine ⟨_, ?_, rfl, .inl ⟨by rfl, fun wq hSw => .value (w' := wq) ?_ hSw⟩, ?_⟩
       rotate_left
       ·obtain ⟨q0, q1⟩ := hSw
        obtain ⟨qc0, qf0⟩ := row_facts q0
        go_simp
        rfl
      simp only [Act.put, sxx]
      refine ⟨_, .pointer (some ⟨b, o + k1 * 36, none⟩), rfl, .inl ⟨by rfl, fun wq hSw => .value (w' := wq) ?_ hSw⟩, ?_⟩
      ·obtain ⟨q0, q1⟩ := hSw
       obtain ⟨qc0, qf0⟩ := row_facts q0
       go_simp
      simp only [Act.put, sxx]
      refine ⟨_, _, rfl, Or.inl ⟨by rfl, fun wq hSw => Uniform.UStep.value (w' := wq) (exec_load_rowO 66 _ rfl b (o + k1 * 36) rfl D (fun j u h => (hSw.2.cell (p := ⟨b, o + k1 * 36 + j, none⟩) HBa.out).trans (Hcp.out j u h)) Tryz.underlying66 rfl HDS.out) hSw⟩, ?_⟩
      simp only [Act.put, sxx]
      refine ⟨_, _, rfl, Or.inl ⟨by rfl, fun wq hSw => Uniform.UStep.value (w' := wq) (EqHash.exec_load_row 66 _ rfl _ rfl hSw.1 Tryz.underlying66 rfl HCS.out) hSw⟩, ?_⟩
      simp only [Act.put, sxx]
      refine ⟨_, ?_, rfl, Or.inl ⟨by rfl, fun wq hSw => Uniform.UStep.call (w' := wq) ?_ ((HAP.out wq).mono ?_)⟩, ?_⟩
      rotate_left
      ·obtain ⟨q0, q1⟩ := hSw
       obtain ⟨qc0, qf0⟩ := row_facts q0
       go_simp
       all_goals (and_intros <;> rfl)
      ·have hSk := hSw
       obtain ⟨q0, q1⟩ := hSw
       rintro e wq2 ⟨rfl, hbq⟩
       refine ⟨?_, (hbq.block _ (lt_row q0)).trans q0, q1.trans (hbq.mono q1.size)⟩
       rfl
      iterate 3
       simp only [Act.put, sxx]
       refine ⟨_, ?_, rfl, .inl ⟨by rfl, fun wq hSw => .value (w' := wq) ?_ hSw⟩, ?_⟩
       rotate_left
       ·obtain ⟨q0, q1⟩ := hSw
        obtain ⟨qc0, qf0⟩ := row_facts q0
        go_simp
        rfl
      simp only [Act.put, sxx]
      intro wz hSz
      obtain ⟨_, q1⟩ := hSz
      have HBZ := lh q1
      clear q1
      go_wp2
      go_ret
      exact ⟨rfl, HBZ.out⟩
     ·skip
      have HE := lh (show okF (prevAt L (k1 + 1 + 1)) (L.drop (k1 + 1 + 1)) = RES from (HST.out.trans (by simp)).symm)
      refine Uniform.region_chain (S := (fun W => W.heap[BG]? = some (.cells C 66 (0, 0)) ∧ Below w.heap.size w W)) (List.range 17) (by kernel_rfl) (by kernel_rfl) ⟨HY2.out, (HB2.out).drew⟩ ?_
      refine ⟨_, _, rfl, Or.inl ⟨by rfl, fun wq hSw => Uniform.UStep.value (w' := wq) (EqHash.exec_load_row 66 _ rfl _ rfl hSw.1 Tryz.underlying66 rfl HCS.out) hSw⟩, ?_⟩
      simp only [Act.put, sxx]
      refine ⟨_, ?_, rfl, Or.inl ⟨by rfl, fun wq hSw => Uniform.UStep.call (w' := wq) ?_ ((HRt.out wq).mono ?_)⟩, ?_⟩
      rotate_left
      ·obtain ⟨q0, q1⟩ := hSw
       obtain ⟨qc0, qf0⟩ := row_facts q0
       go_simp
       all_goals (and_intros <;> rfl)
      ·have hSk := hSw
       obtain ⟨q0, q1⟩ := hSw
       rintro e wq2 ⟨rfl, hbq⟩
       refine ⟨?_, (hbq.block _ (lt_row q0)).trans q0, q1.trans (hbq.mono q1.size)⟩
       rfl
      iterate 8
       simp only [Act.put, sxx]
       refine ⟨_, ?_, rfl, .inl ⟨by rfl, fun wq hSw => .value (w' := wq) ?_ hSw⟩, ?_⟩
       rotate_left
       ·obtain ⟨q0, q1⟩ := hSw
        obtain ⟨qc0, qf0⟩ := row_facts q0
        go_simp
        rfl
      simp only [Act.put, sxx]
      refine ⟨_, .pointer (some ⟨b, o + k1 * 36, none⟩), rfl, .inl ⟨by rfl, fun wq hSw => .value (w' := wq) ?_ hSw⟩, ?_⟩
      ·obtain ⟨q0, q1⟩ := hSw
       obtain ⟨qc0, qf0⟩ := row_facts q0
       go_simp
      simp only [Act.put, sxx]
      refine ⟨_, _, rfl, Or.inl ⟨by rfl, fun wq hSw => Uniform.UStep.value (w' := wq) (exec_load_rowO 66 _ rfl b (o + k1 * 36) rfl D (fun j u h => (hSw.2.cell (p := ⟨b, o + k1 * 36 + j, none⟩) HBa.out).trans (Hcp.out j u h)) Tryz.underlying66 rfl HDS.out) hSw⟩, ?_⟩
      simp only [Act.put, sxx]
      refine ⟨_, _, rfl, Or.inl ⟨by rfl, fun wq hSw => Uniform.UStep.value (w' := wq) (EqHash.exec_load_row 66 _ rfl _ rfl hSw.1 Tryz.underlying66 rfl HCS.out) hSw⟩, ?_⟩
      simp only [Act.put, sxx]
      refine ⟨_, ?_, rfl, Or.inl ⟨by rfl, fun wq hSw => Uniform.UStep.call (w' := wq) ?_ ((HAP.out wq).mono ?_)⟩, ?_⟩
      rotate_left
      ·obtain ⟨q0, q1⟩ := hSw
       obtain ⟨qc0, qf0⟩ := row_facts q0
       go_simp
       all_goals (and_intros <;> rfl)
      ·have hSk := hSw
       obtain ⟨q0, q1⟩ := hSw
       rintro e wq2 ⟨rfl, hbq⟩
       refine ⟨?_, (hbq.block _ (lt_row q0)).trans q0, q1.trans (hbq.mono q1.size)⟩
       rfl
      iterate 3
       simp only [Act.put, sxx]
       refine ⟨_, ?_, rfl, .inl ⟨by rfl, fun wq hSw => .value (w' := wq) ?_ hSw⟩, ?_⟩
       rotate_left
       ·obtain ⟨q0, q1⟩ := hSw
        obtain ⟨qc0, qf0⟩ := row_facts q0
        go_simp
        rfl
      simp only [Act.put, sxx]
      intro wz hSz
      obtain ⟨_, q1⟩ := hSz
      have HBZ := lh q1
      clear q1
      go_wp2
      go_roundw
      case rel => exact ⟨k1 + 1 + 1, by go_num, by omega, HE.out, HBZ.out⟩
      case measure => simp [intOf]; omega
   ·skip
    obtain rfl : k = n := by omega
    have hE : RES = true := by
     rw [← HR.out, List.drop_of_length_le (by rw [← Hn.out]; exact Nat.le_refl _)]
     cases prevAt L k <;> rfl
    have hyE : y = 0 := by rw [HYQ.out, hE]; rfl
    subst hyE
    clear hE
    go_wp2
    go_ret
    exact ⟨rfl, HBr.out⟩
end Go.Proofs.YtkcikadgnnjjjaaGreatDoor.BkC
