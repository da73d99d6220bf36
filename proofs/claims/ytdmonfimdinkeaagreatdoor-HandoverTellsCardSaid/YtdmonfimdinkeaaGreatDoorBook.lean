/-
  WHAT IS PROVED: a book of one right grant. Condition: what each theorem names.
-/
import Derived.Test.YtdmonfimdinkeaaGreatDoorKeyQ
namespace Go.Proofs.YtdmonfimdinkeaaGreatDoor.BookA
open Go Go.RowKit Go.Shelf Go.Proofs.YtdmonfimdinkeaaGreatDoor Go.Proofs.YtdmonfimdinkeaaGreatDoor.Steps Go.Proofs.YtdmonfimdinkeaaGreatDoor.KeyA Go.Proofs.YtdmonfimdinkeaaGreatDoor.TreeA
set_option linter.unusedVariables false
set_option linter.unusedSimpArgs false

/-- A grant. -/
structure Gr' where
  sv : Int
  fr : Int
  to : Int
  hi : Int
  rt : H32
def Gr'.cs (g : Gr') : List Value := [.int .i64 g.sv, .int .i64 g.fr, .int .i64 g.to, .int .i64 g.hi] ++ byV g.rt.l
def Gr'.A (g : Gr') : Array Value := g.cs.toArray
theorem grF : RowsX.RowFn 36 Gr'.cs := ⟨fun g => by unfold Gr'.cs; simp [byV_length, g.rt.len], fun g u hu => by
  unfold Gr'.cs at hu
  rcases List.mem_append.1 hu with h | h
  · simp only [List.mem_cons, List.not_mem_nil, or_false] at h
    rcases h with rfl | rfl | rfl | rfl <;> rfl
  · obtain ⟨b, _, rfl⟩ := List.mem_map.1 h
    rfl⟩
theorem Gr'.c0 (g : Gr') : g.A[0]? = some (.int .i64 g.sv) := rfl
theorem Gr'.c1 (g : Gr') : g.A[1]? = some (.int .i64 g.fr) := rfl
theorem Gr'.c2 (g : Gr') : g.A[2]? = some (.int .i64 g.to) := rfl
theorem Gr'.c3 (g : Gr') : g.A[3]? = some (.int .i64 g.hi) := rfl
/-- A right grant. -/
structure Gr'.Right (g : Gr') : Prop where
  s0 : 0 ≤ g.sv
  s1 : g.sv ≤ 63
  f0 : 0 ≤ g.fr
  f1 : g.fr ≤ g.to
  t1 : g.to ≤ 1099511627776
  h0 : 0 ≤ g.hi
  h1 : g.hi ≤ 7

set_option maxRecDepth 100000 in
set_option maxHeartbeats 1000000 in
theorem right_yes (w : World) (g : Gr') (h : g.Right) : Calls Tryz.prog 133 #[.agg g.A] w (RB (.bool true) w) := by
  obtain ⟨p, hp⟩ : ∃ p, p = g.A := ⟨_, rfl⟩
  have p0 := g.c0
  have p1 := g.c1
  have p2 := g.c2
  have p3 := g.c3
  rw [← hp] at p0 p1 p2 p3 ⊢
  obtain ⟨s0, s1, f0, f1, t1, h0, h1⟩ := h
  obtain ⟨sv, hsv⟩ : ∃ x, x = g.sv := ⟨_, rfl⟩
  obtain ⟨fr, hfr⟩ : ∃ x, x = g.fr := ⟨_, rfl⟩
  obtain ⟨to, hto⟩ : ∃ x, x = g.to := ⟨_, rfl⟩
  obtain ⟨hi, hhi⟩ : ∃ x, x = g.hi := ⟨_, rfl⟩
  rw [← hsv] at p0 s0 s1
  rw [← hfr] at p1 f0 f1
  rw [← hto] at p2 f1 t1
  rw [← hhi] at p3 h0 h1
  have d1 : decide (sv < 0) = false := decide_eq_false (by omega)
  have d2 : decide (63 < sv) = false := decide_eq_false (by omega)
  have d3 : decide (hi < 0) = false := decide_eq_false (by omega)
  have d4 : decide (7 < hi) = false := decide_eq_false (by omega)
  have d5 : decide (0 ≤ fr) = true := decide_eq_true (by omega)
  have d6 : decide (fr ≤ to) = true := decide_eq_true (by omega)
  have d7 : decide (to ≤ 1099511627776) = true := decide_eq_true (by omega)
  clear hsv hfr hto hhi hp
  go_enter Tryz.func133, Tryz.ntmps133
  go_wp2
  go_ret
  exact ⟨by first | rfl | simp_all, (Below.refl _ _).alloc (Nat.le_refl _) _⟩

/-- Whether a grant is a server's at a time. -/
def foundB (g : Gr') (sv at' : Int) : Bool := g.sv == sv && (decide (g.fr ≤ at') && decide (at' ≤ g.to))
set_option maxRecDepth 100000 in
set_option maxHeartbeats 1000000 in
theorem found_ok (w : World) (g : Gr') (b1 b2 : Nat) (sv at' : Int) (h1 : w.heap[b1]? = some (.cells #[.int .i64 sv] 3 (0, 0))) (h2 : w.heap[b2]? = some (.cells #[.int .i64 at'] 2 (0, 0))) :
    Calls Tryz.prog 113 #[.agg g.A, .pointer (some ⟨b1, 0, none⟩), .pointer (some ⟨b2, 0, none⟩)] w (RB (.bool (foundB g sv at')) w) := by
  unfold foundB
  obtain ⟨p, hp⟩ : ∃ p, p = g.A := ⟨_, rfl⟩
  have p0 := g.c0
  have p1 := g.c1
  have p2 := g.c2
  rw [← hp] at p0 p1 p2 ⊢
  obtain ⟨s2, hsv⟩ : ∃ x, x = g.sv := ⟨_, rfl⟩
  obtain ⟨fr, hfr⟩ : ∃ x, x = g.fr := ⟨_, rfl⟩
  obtain ⟨to, hto⟩ : ∃ x, x = g.to := ⟨_, rfl⟩
  rw [← hsv] at p0 ⊢
  rw [← hfr] at p1 ⊢
  rw [← hto] at p2 ⊢
  have l1 := lt_row h1
  have l2 := lt_row h2
  have n1 : ¬ b1 = w.heap.size := by omega
  have n2 : ¬ b2 = w.heap.size := by omega
  have c1 := cell_row (j := 0) h1
  have c2 := cell_row (j := 0) h2
  clear hsv hfr hto hp h1 h2
  cases e1 : (s2 == sv) <;> cases e2 : decide (fr ≤ at') <;> cases e3 : decide (at' ≤ to)
  all_goals
    go_enter Tryz.func113, Tryz.ntmps113
    go_wp2
    go_ret
    exact ⟨by first | rfl | simp_all, (Below.refl _ _).alloc (Nat.le_refl _) _⟩

end Go.Proofs.YtdmonfimdinkeaaGreatDoor.BookA

namespace Go.Proofs.YtdmonfimdinkeaaGreatDoor.BookB
open Go Go.RowKit Go.Shelf Go.Proofs.YtdmonfimdinkeaaGreatDoor Go.Proofs.YtdmonfimdinkeaaGreatDoor.Steps Go.Proofs.YtdmonfimdinkeaaGreatDoor.RowsX Go.Proofs.YtdmonfimdinkeaaGreatDoor.Lift Go.Proofs.YtdmonfimdinkeaaGreatDoor.KeyA Go.Proofs.YtdmonfimdinkeaaGreatDoor.TreeA Go.Proofs.YtdmonfimdinkeaaGreatDoor.BookA
set_option linter.unusedVariables false
set_option linter.unusedSimpArgs false

/-- The number of the first that is found; -1: none is. -/
def firstAt (sv at' : Int) : List Gr' → Nat → Int
  | [], _ => -1
  | g :: r, k => if foundB g sv at' = true then (k : Int) else firstAt sv at' r (k + 1)
theorem gr_size (g : Gr') : g.A.size = 36 := by unfold Gr'.A; simp [grF.len]
theorem gr_info (g : Gr') : (Tryz.prog.info? 60).map (·.size) = some g.A.size := by rw [gr_size]; kernel_rfl

set_option maxRecDepth 100000 in
set_option maxHeartbeats 1000000 in
theorem index_ok (w : World) (v : Value) (L : List Gr') (b1 b2 : Nat) (sv at' : Int) (hv : Sl w v 36 L.length (L.flatMap Gr'.cs)) (hL : L.length ≤ 100000) (h1 : w.heap[b1]? = some (.cells #[.int .i64 sv] 3 (0, 0))) (h2 : w.heap[b2]? = some (.cells #[.int .i64 at'] 2 (0, 0))) :
    Calls Tryz.prog 112 #[v, .func (.func 113) #[] #[.pointer (some ⟨b1, 0, none⟩), .pointer (some ⟨b2, 0, none⟩)]] w (RB (.int .i64 (firstAt sv at' L 0)) w) := by
  obtain ⟨a, cap, rfl, hcap, hm⟩ := hv.form
  obtain ⟨R, hR⟩ : ∃ R, R = firstAt sv at' L 0 := ⟨_, rfl⟩
  obtain ⟨n, hn⟩ : ∃ n, n = L.length := ⟨_, rfl⟩
  rw [← hR]
  rw [← hn] at hv hL hcap ⊢
  have HR := Lib.hid hR
  have Hn := Lib.hid hn
  have Hv := Lib.hid hv
  have H1 := Lib.hid h1
  have H2 := Lib.hid h2
  clear hR hn hv h1 h2 hm hcap
  go_enter Tryz.func112, Tryz.ntmps112
  go_wp2
  go_loopw [8] (fun j wr => ∃ (k : Nat), j = .int .i64 k ∧ k ≤ n ∧ Hid (firstAt sv at' (L.drop k) k = R) ∧ Below w.heap.size w wr)
    (fun j _ => n - (intOf j).toNat)
  case atStart => exact ⟨0, rfl, by omega, Lib.hid HR.out.symm, Below.refl _ _⟩
  case round =>
    obtain ⟨k, rfl, hk, hR, hb⟩ := hrel
    have HB := Lib.hid hb
    have hvw := Hv.out.ext (Ext.of_below (S := fun _ => False) hb) (fun _ _ h => h)
    clear hb
    by_cases hlt : k < n
    · skip
      obtain ⟨c, hc⟩ : ∃ c, L[k]? = some c := ⟨_, List.getElem?_eq_getElem (by rw [← Hn.out]; exact hlt)⟩
      rw [Hn.out] at hvw
      obtain ⟨b, o, rfl, hblt, hcc⟩ := row_cells grF (by omega) hvw hc
      have hdr : L.drop k = c :: L.drop (k + 1) := by
        have hl : k < L.length := by rw [← Hn.out]; exact hlt
        rw [List.drop_eq_getElem_cons hl]
        rw [List.getElem?_eq_getElem hl] at hc
        rw [Option.some.inj hc]
      have hR' := hR.out
      rw [hdr, firstAt] at hR'
      have Hcc := Lib.hid (show ∀ (j : Nat) (u : Value), c.A.toList[j]? = some u → wr.cell? ⟨b, o + k * 36 + j, none⟩ = some u from hcc)
      have hF := found_ok wr c b1 b2 sv at' ((HB.out.block _ (lt_row H1.out)).trans H1.out) ((HB.out.block _ (lt_row H2.out)).trans H2.out)
      obtain ⟨C, hC⟩ : ∃ C, C = c.A := ⟨_, rfl⟩
      rw [← hC] at Hcc hF
      have HCS := Lib.hid (show (Tryz.prog.info? 60).map (·.size) = some C.size by rw [hC]; exact gr_info c)
      obtain ⟨q, hq⟩ : ∃ q, q = foundB c sv at' := ⟨_, rfl⟩
      rw [← hq] at hF hR'
      have HF := Lib.hid hF
      have HR2 := Lib.hid hR'
      clear hc hdr hR' hvw hcc hC hF hq
      go_wp2_with (first | (refine wpList_load_rowO rfl _ _ rfl b (o + k * 36) rfl C Hcc.out Tryz.underlying60 rfl HCS.out ?_) | fail)
      refine HF.out.mono ?_
      rintro e w2 ⟨rfl, hb⟩
      have HB2 := Lib.hid (HB.out.trans (hb.mono HB.out.size))
      clear hb
      cases q
      · have h3 := HR2.out
        rw [if_neg (by simp)] at h3
        go_wp2
        go_roundw
        case rel => exact ⟨k + 1, by go_num, by omega, Lib.hid h3, HB2.out⟩
        case measure => simp [intOf]; omega
      · have h3 := HR2.out
        rw [if_pos rfl] at h3
        subst h3
        go_wp2
        go_ret
        exact ⟨rfl, HB2.out⟩
    · skip
      obtain rfl : k = n := by omega
      have hR' := hR.out
      rw [List.drop_of_length_le (by rw [← Hn.out]; exact Nat.le_refl _), firstAt] at hR'
      subst hR'
      go_wp2
      go_ret
      exact ⟨rfl, HB.out⟩

end Go.Proofs.YtdmonfimdinkeaaGreatDoor.BookB

namespace Go.Proofs.YtdmonfimdinkeaaGreatDoor.BookC
open Go Go.RowKit Go.Shelf Go.Proofs.YtdmonfimdinkeaaGreatDoor Go.Proofs.YtdmonfimdinkeaaGreatDoor.Steps Go.Proofs.YtdmonfimdinkeaaGreatDoor.RowsX Go.Proofs.YtdmonfimdinkeaaGreatDoor.Lift Go.Proofs.YtdmonfimdinkeaaGreatDoor.KeyA Go.Proofs.YtdmonfimdinkeaaGreatDoor.TreeA Go.Proofs.YtdmonfimdinkeaaGreatDoor.BookA Go.Proofs.YtdmonfimdinkeaaGreatDoor.BookB
set_option linter.unusedVariables false
set_option linter.unusedSimpArgs false

set_option maxRecDepth 100000 in
set_option maxHeartbeats 1000000 in
theorem Check_one (w : World) (v : Value) (g : Gr') (hg : g.Right) (hv : Sl w v 36 1 ([g].flatMap Gr'.cs)) : Calls Tryz.prog 111 #[v] w (RB (.int .i64 0) w) := by
  obtain ⟨a, cap, rfl, hcap, hm⟩ := hv.form
  obtain ⟨b, o, rfl, hblt, hcc⟩ := row_cells grF (by omega) (l := [g]) hv (k := 0) rfl
  have Hcc := Lib.hid (show ∀ (j : Nat) (u : Value), g.A.toList[j]? = some u → w.cell? ⟨b, o + 0 * 36 + j, none⟩ = some u from hcc)
  have hRt := fun w => right_yes w g hg
  obtain ⟨C, hC⟩ : ∃ C, C = g.A := ⟨_, rfl⟩
  rw [← hC] at Hcc hRt
  have HCS := Lib.hid (show (Tryz.prog.info? 60).map (·.size) = some C.size by rw [hC]; exact gr_info g)
  have HCN := Lib.hid (show 36 = C.size by rw [hC]; exact (gr_size g).symm)
  have HCO := Lib.hid (show C.all (·.oneCell') = true by
    rw [hC, Array.all_eq_true_iff_forall_mem]
    intro u hu
    exact grF.one g u (by simpa [Gr'.A] using hu))
  have HRt := Lib.hid hRt
  have Hcc0 := Lib.hid (show ∀ (j : Nat) (u : Value), C.toList[j]? = some u → w.cell? ⟨b, o + j, none⟩ = some u from fun j u h => by have := Hcc.out j u h; rw [Nat.zero_mul, Nat.add_zero] at this; exact this)
  clear hcc hRt hC hv hcap hm Hcc
  go_enter Tryz.func111, Tryz.ntmps111
  go_wp2
  refine wp_loop_rounds 2 ?_
  rw [rounds_succ]
  go_wp2_with (first | (refine wpList_load_rowO rfl _ _ rfl b o rfl C Hcc0.out Tryz.underlying60 rfl HCS.out ?_) | (refine wpList_store_rowA rfl _ _ _ rfl w.heap.size C rfl rfl _ _ (heap_new _ _) HCS.out (by rw [← HCN.out]; rfl) HCO.out ?_) | fail)
  intro u1 hu1
  have hb : Below w.heap.size w u1 := by rw [hu1.out]; exact below_row ((Below.refl _ _).alloc (Nat.le_refl _) _) (Nat.le_refl _) _
  have hyy : u1.heap[w.heap.size]? = some (.cells C 60 (0, 0)) := by rw [hu1.out]; exact setRow_at (heap_new _ _)
  clear hu1
  obtain ⟨w2, hww⟩ : ∃ w', w' = u1 := ⟨_, rfl⟩
  rw [← hww] at hb hyy ⊢
  clear hww
  go_wp2
  refine Uniform.region_chain (S := (fun W => W.heap[w.heap.size]? = some (.cells C 60 (0, 0)) ∧ Below w.heap.size w W)) (List.range 17) (by kernel_rfl) (by kernel_rfl) ⟨hyy, (hb).drew⟩ ?_
  refine ⟨_, _, rfl, Or.inl ⟨by rfl, fun wq hSw => Uniform.UStep.value (w' := wq) (EqHash.exec_load_row 60 _ rfl _ rfl hSw.1 Tryz.underlying60 rfl HCS.out) hSw⟩, ?_⟩
  simp only [Act.put, List.getElem_toArray, List.getElem_cons_zero, List.getElem_cons_succ, List.setIfInBounds_toArray, List.set_cons_zero, List.set_cons_succ]
  refine ⟨_, ?_, rfl, Or.inl ⟨by rfl, fun wq hSw => Uniform.UStep.call (w' := wq) ?_ ((HRt.out wq).mono ?_)⟩, ?_⟩
  rotate_left
  · obtain ⟨q0, q1⟩ := hSw
    go_simp
    first | done | rfl | exact ⟨⟨rfl, rfl⟩, rfl⟩ | exact ⟨rfl, rfl⟩
  · have hSk := hSw
    obtain ⟨q0, q1⟩ := hSw
    rintro e wq2 ⟨rfl, hbq⟩
    refine ⟨?_, (hbq.block _ (lt_row q0)).trans q0, q1.trans (hbq.mono q1.size)⟩
    rfl
  simp only [Act.put, List.getElem_toArray, List.getElem_cons_zero, List.getElem_cons_succ, List.setIfInBounds_toArray, List.set_cons_zero, List.set_cons_succ]
  refine ⟨_, ?_, rfl, Or.inl ⟨by rfl, fun wq hSw => Uniform.UStep.value (w' := wq) ?_ hSw⟩, ?_⟩
  rotate_left
  · obtain ⟨q0, q1⟩ := hSw
    go_simp
    rfl
  simp only [Act.put, List.getElem_toArray, List.getElem_cons_zero, List.getElem_cons_succ, List.setIfInBounds_toArray, List.set_cons_zero, List.set_cons_succ]
  refine ⟨_, ?_, rfl, Or.inl ⟨by rfl, fun wq hSw => Uniform.UStep.value (w' := wq) ?_ hSw⟩, ?_⟩
  rotate_left
  · obtain ⟨q0, q1⟩ := hSw
    go_simp
    rfl
  simp only [Act.put, List.getElem_toArray, List.getElem_cons_zero, List.getElem_cons_succ, List.setIfInBounds_toArray, List.set_cons_zero, List.set_cons_succ]
  refine ⟨_, ?_, rfl, Or.inl ⟨by rfl, fun wq hSw => Uniform.UStep.value (w' := wq) ?_ hSw⟩, ?_⟩
  rotate_left
  · obtain ⟨q0, q1⟩ := hSw
    go_simp
    rfl
  simp only [Act.put, List.getElem_toArray, List.getElem_cons_zero, List.getElem_cons_succ, List.setIfInBounds_toArray, List.set_cons_zero, List.set_cons_succ]
  refine ⟨_, ?_, rfl, Or.inl ⟨by rfl, fun wq hSw => Uniform.UStep.value (w' := wq) ?_ hSw⟩, ?_⟩
  rotate_left
  · obtain ⟨q0, q1⟩ := hSw
    go_simp
    rfl
  simp only [Act.put, List.getElem_toArray, List.getElem_cons_zero, List.getElem_cons_succ, List.setIfInBounds_toArray, List.set_cons_zero, List.set_cons_succ]
  refine ⟨_, ?_, rfl, Or.inl ⟨by rfl, fun wq hSw => Uniform.UStep.value (w' := wq) ?_ hSw⟩, ?_⟩
  rotate_left
  · obtain ⟨q0, q1⟩ := hSw
    go_simp
    rfl
  simp only [Act.put, List.getElem_toArray, List.getElem_cons_zero, List.getElem_cons_succ, List.setIfInBounds_toArray, List.set_cons_zero, List.set_cons_succ]
  refine ⟨_, undef, rfl, Or.inr ⟨by rfl, rfl⟩, ?_⟩
  simp only [Act.put, List.getElem_toArray, List.getElem_cons_zero, List.getElem_cons_succ, List.setIfInBounds_toArray, List.set_cons_zero, List.set_cons_succ]
  refine ⟨_, undef, rfl, Or.inr ⟨by rfl, rfl⟩, ?_⟩
  simp only [Act.put, List.getElem_toArray, List.getElem_cons_zero, List.getElem_cons_succ, List.setIfInBounds_toArray, List.set_cons_zero, List.set_cons_succ]
  refine ⟨_, undef, rfl, Or.inr ⟨by rfl, rfl⟩, ?_⟩
  simp only [Act.put, List.getElem_toArray, List.getElem_cons_zero, List.getElem_cons_succ, List.setIfInBounds_toArray, List.set_cons_zero, List.set_cons_succ]
  refine ⟨_, undef, rfl, Or.inr ⟨by rfl, rfl⟩, ?_⟩
  simp only [Act.put, List.getElem_toArray, List.getElem_cons_zero, List.getElem_cons_succ, List.setIfInBounds_toArray, List.set_cons_zero, List.set_cons_succ]
  refine ⟨_, undef, rfl, Or.inr ⟨by rfl, rfl⟩, ?_⟩
  simp only [Act.put, List.getElem_toArray, List.getElem_cons_zero, List.getElem_cons_succ, List.setIfInBounds_toArray, List.set_cons_zero, List.set_cons_succ]
  refine ⟨_, undef, rfl, Or.inr ⟨by rfl, rfl⟩, ?_⟩
  simp only [Act.put, List.getElem_toArray, List.getElem_cons_zero, List.getElem_cons_succ, List.setIfInBounds_toArray, List.set_cons_zero, List.set_cons_succ]
  refine ⟨_, undef, rfl, Or.inr ⟨by rfl, rfl⟩, ?_⟩
  simp only [Act.put, List.getElem_toArray, List.getElem_cons_zero, List.getElem_cons_succ, List.setIfInBounds_toArray, List.set_cons_zero, List.set_cons_succ]
  refine ⟨_, undef, rfl, Or.inr ⟨by rfl, rfl⟩, ?_⟩
  simp only [Act.put, List.getElem_toArray, List.getElem_cons_zero, List.getElem_cons_succ, List.setIfInBounds_toArray, List.set_cons_zero, List.set_cons_succ]
  refine ⟨_, ?_, rfl, Or.inl ⟨by rfl, fun wq hSw => Uniform.UStep.value (w' := wq) ?_ hSw⟩, ?_⟩
  rotate_left
  · obtain ⟨q0, q1⟩ := hSw
    go_simp
    rfl
  simp only [Act.put, List.getElem_toArray, List.getElem_cons_zero, List.getElem_cons_succ, List.setIfInBounds_toArray, List.set_cons_zero, List.set_cons_succ]
  refine ⟨_, ?_, rfl, Or.inl ⟨by rfl, fun wq hSw => Uniform.UStep.value (w' := wq) ?_ hSw⟩, ?_⟩
  rotate_left
  · obtain ⟨q0, q1⟩ := hSw
    go_simp
    rfl
  simp only [Act.put, List.getElem_toArray, List.getElem_cons_zero, List.getElem_cons_succ, List.setIfInBounds_toArray, List.set_cons_zero, List.set_cons_succ]
  rintro w3 ⟨_, hB3⟩
  have HB3 := Lib.hid hB3
  clear hB3 hb hyy
  go_wp2
  rw [rounds_succ]
  go_wp2
  go_ret
  exact ⟨rfl, HB3.out⟩

end Go.Proofs.YtdmonfimdinkeaaGreatDoor.BookC

namespace Go.Proofs.YtdmonfimdinkeaaGreatDoor.BookD
open Go Go.RowKit Go.Shelf Go.Proofs.YtdmonfimdinkeaaGreatDoor Go.Proofs.YtdmonfimdinkeaaGreatDoor.Steps Go.Proofs.YtdmonfimdinkeaaGreatDoor.RowsX Go.Proofs.YtdmonfimdinkeaaGreatDoor.Lift Go.Proofs.YtdmonfimdinkeaaGreatDoor.KeyA Go.Proofs.YtdmonfimdinkeaaGreatDoor.TreeA Go.Proofs.YtdmonfimdinkeaaGreatDoor.BookA Go.Proofs.YtdmonfimdinkeaaGreatDoor.BookB Go.Proofs.YtdmonfimdinkeaaGreatDoor.BookC
set_option linter.unusedVariables false
set_option linter.unusedSimpArgs false

def zeroG : Gr' := ⟨0, 0, 0, 0, zeroH⟩
set_option maxRecDepth 100000 in
set_option maxHeartbeats 1000000 in
theorem Find_one (w : World) (v : Value) (g : Gr') (sv at' : Int) (hg : g.Right) (hv : Sl w v 36 1 ([g].flatMap Gr'.cs)) :
    Calls Tryz.prog 92 #[v, .int .i64 sv, .int .i64 at'] w (RB (.tuple #[.agg (if foundB g sv at' = true then g else zeroG).A, .int .i64 (if foundB g sv at' = true then 0 else 3)]) w) := by
  obtain ⟨a, cap, rfl, hcap, hm⟩ := hv.form
  obtain ⟨b, o, rfl, hblt, hcc⟩ := row_cells grF (by omega) (l := [g]) hv (k := 0) rfl
  obtain ⟨Z, hZ⟩ : ∃ Z, Z = zeroG.A := ⟨_, rfl⟩
  have HLIT : Hid ((#[.int .i64 0, .int .i64 0, .int .i64 0, .int .i64 0, .int .u8 0, .int .u8 0, .int .u8 0, .int .u8 0, .int .u8 0, .int .u8 0, .int .u8 0, .int .u8 0, .int .u8 0, .int .u8 0, .int .u8 0, .int .u8 0, .int .u8 0, .int .u8 0, .int .u8 0, .int .u8 0, .int .u8 0, .int .u8 0, .int .u8 0, .int .u8 0, .int .u8 0, .int .u8 0, .int .u8 0, .int .u8 0, .int .u8 0, .int .u8 0, .int .u8 0, .int .u8 0, .int .u8 0, .int .u8 0, .int .u8 0, .int .u8 0] : Array Value) = Z) := Lib.hid (by rw [hZ]; kernel_rfl)
  have HZN : Hid (Z.size = 36) := Lib.hid (by rw [hZ]; exact gr_size _)
  have HZS : Hid ((Tryz.prog.info? 60).map (·.size) = some Z.size) := Lib.hid (by rw [hZ]; exact gr_info _)
  have HZO : Hid (Z.all (·.oneCell') = true) := Lib.hid (by rw [hZ]; kernel_rfl)
  obtain ⟨w0, hw0⟩ : ∃ w0, w0 = ((w.alloc (.cells #[.int .i64 sv] 3)).alloc (.cells #[.int .i64 at'] 2)).alloc (.cells Z 60) := ⟨_, rfl⟩
  have hb0 : Below w.heap.size w w0 := by rw [hw0]; exact (((Below.refl _ _).alloc (Nat.le_refl _) _).alloc (by simp) _).alloc (by simp; omega) _
  have h1 : w0.heap[w.heap.size]? = some (.cells #[.int .i64 sv] 3 (0, 0)) := by rw [hw0]; exact heap_at (heap_at (heap_new _ _) _) _
  have h2 : w0.heap[w.heap.size + 1]? = some (.cells #[.int .i64 at'] 2 (0, 0)) := by rw [hw0]; exact heap_at (heap_new' _ (by simp)) _
  have h3 : w0.heap[w.heap.size + 2]? = some (.cells Z 60 (0, 0)) := by rw [hw0]; exact heap_new' _ (by simp)
  have hv0 := Sl.below hv hb0
  have HC := Lib.hid (Check_one w0 _ g hg hv0)
  obtain ⟨C, hC⟩ : ∃ C, C = g.A := ⟨_, rfl⟩
  have HCS := Lib.hid (show (Tryz.prog.info? 60).map (·.size) = some C.size by rw [hC]; exact gr_info g)
  have HCN := Lib.hid (show Z.size = C.size by rw [hC, gr_size]; exact HZN.out)
  have HCO := Lib.hid (show C.all (·.oneCell') = true by
    rw [hC, Array.all_eq_true_iff_forall_mem]
    intro u hu
    exact grF.one g u (by simpa [Gr'.A] using hu))
  have Hcc := Lib.hid (show ∀ (j : Nat) (u : Value), C.toList[j]? = some u → w.cell? ⟨b, o + j, none⟩ = some u from fun j u h => by have := hcc j u (by rw [hC] at h; exact h); rw [Nat.zero_mul, Nat.add_zero] at this; exact this)
  have HI := Lib.hid (fun w' (hb : Below w0.heap.size w0 w') => index_ok w' (.slice (some ⟨b, o, none⟩) 1 cap) [g] w.heap.size (w.heap.size + 1) sv at' (Sl.below hv0 hb) (by simp) ((hb.block _ (lt_row h1)).trans h1) ((hb.block _ (lt_row h2)).trans h2))
  have hA : ∀ q : Bool, q = foundB g sv at' → firstAt sv at' [g] 0 = (if q = true then 0 else -1) := fun q hq => by
    rw [firstAt, firstAt, hq]
    rfl
  have HB0 := Lib.hid hb0
  have HX0 := Lib.hid h3
  have HW0 := Lib.hid hw0
  obtain ⟨q, hq⟩ : ∃ q, q = foundB g sv at' := ⟨_, rfl⟩
  rw [hA q hq] at HI
  rw [← hq]
  clear hcc hv hcap hm hv0 h1 h2 h3 hw0 hb0 hA hq
  cases q
  · rw [if_neg (by simp), if_neg (by simp), ← hZ]
    rw [if_neg (by simp)] at HI
    clear hZ hC
    go_enter Tryz.func92, Tryz.ntmps92
    go_wp2_with fail
    rw [HLIT.out, ← HW0.out]
    refine HC.out.mono ?_
    rintro e w1 ⟨rfl, hb⟩
    have HB1 := Lib.hid (HB0.out.trans (hb.mono HB0.out.size))
    have HX1 := Lib.hid ((hb.block _ (lt_row HX0.out)).trans HX0.out)
    have HI1 := Lib.hid (HI.out w1 hb)
    clear hb
    go_wp2_with fail
    refine HI1.out.mono ?_
    rintro e w2 ⟨rfl, hb⟩
    have HB2 := Lib.hid (HB1.out.trans (hb.mono HB1.out.size))
    have HX2 := Lib.hid ((hb.block _ (lt_row HX1.out)).trans HX1.out)
    clear hb
    go_wp2_with (first | (refine wpList_store_rowA rfl _ _ _ rfl (w.heap.size + 2) Z rfl (by rw [← HLIT.out]; rfl) _ _ HX2.out HZS.out rfl HZO.out ?_) | fail)
    intro wf hwf
    go_wp2
    refine bodyPost_ret (v := .tuple #[.agg Z, .int .i64 3]) (WireT.results_cell_slot rfl _ _ (w.heap.size + 2) 60 Z (0, 0) _ rfl (by rw [hwf.out]; exact setRow_at HX2.out) Tryz.underlying60 rfl HZS.out rfl) rfl ⟨rfl, by rw [hwf.out]; exact below_row HB2.out (by omega) _⟩
  · rw [if_pos rfl, if_pos rfl, ← hC]
    rw [if_pos rfl] at HI
    clear hZ hC
    go_enter Tryz.func92, Tryz.ntmps92
    go_wp2_with fail
    rw [HLIT.out, ← HW0.out]
    refine HC.out.mono ?_
    rintro e w1 ⟨rfl, hb⟩
    have HB1 := Lib.hid (HB0.out.trans (hb.mono HB0.out.size))
    have HX1 := Lib.hid ((hb.block _ (lt_row HX0.out)).trans HX0.out)
    have HI1 := Lib.hid (HI.out w1 hb)
    clear hb
    go_wp2_with fail
    refine HI1.out.mono ?_
    rintro e w2 ⟨rfl, hb⟩
    have HB2 := Lib.hid (HB1.out.trans (hb.mono HB1.out.size))
    have HX2 := Lib.hid ((hb.block _ (lt_row HX1.out)).trans HX1.out)
    clear hb
    have Hc2 := Lib.hid (show ∀ (j : Nat) (u : Value), C.toList[j]? = some u → w2.cell? ⟨b, o + j, none⟩ = some u from fun j u h => (HB2.out.cell (p := ⟨b, o + j, none⟩) hblt).trans (Hcc.out j u h))
    go_wp2_with (first | (refine wpList_load_rowO rfl _ _ rfl b o rfl C Hc2.out Tryz.underlying60 rfl HCS.out ?_) | (refine wpList_store_rowA rfl _ _ _ rfl (w.heap.size + 2) C rfl rfl _ _ HX2.out HCS.out HCN.out HCO.out ?_) | fail)
    intro wf hwf
    go_wp2
    refine bodyPost_ret (v := .tuple #[.agg C, .int .i64 0]) (WireT.results_cell_slot rfl _ _ (w.heap.size + 2) 60 C (0, 0) _ rfl (by rw [hwf.out]; exact setRow_at HX2.out) Tryz.underlying60 rfl HCS.out rfl) rfl ⟨rfl, by rw [hwf.out]; exact below_row HB2.out (by omega) _⟩

end Go.Proofs.YtdmonfimdinkeaaGreatDoor.BookD

namespace Go.Proofs.YtdmonfimdinkeaaGreatDoor.BookE
open Go Go.RowKit Go.Shelf Go.Proofs.YtdmonfimdinkeaaGreatDoor Go.Proofs.YtdmonfimdinkeaaGreatDoor.Steps Go.Proofs.YtdmonfimdinkeaaGreatDoor.RowsX Go.Proofs.YtdmonfimdinkeaaGreatDoor.Lift Go.Proofs.YtdmonfimdinkeaaGreatDoor.ShaS Go.Proofs.YtdmonfimdinkeaaGreatDoor.KeyS Go.Proofs.YtdmonfimdinkeaaGreatDoor.ShaA Go.Proofs.YtdmonfimdinkeaaGreatDoor.KeyA Go.Proofs.YtdmonfimdinkeaaGreatDoor.TreeA Go.Proofs.YtdmonfimdinkeaaGreatDoor.BookA Go.Proofs.YtdmonfimdinkeaaGreatDoor.BookB Go.Proofs.YtdmonfimdinkeaaGreatDoor.BookC Go.Proofs.YtdmonfimdinkeaaGreatDoor.BookD
set_option linter.unusedVariables false
set_option linter.unusedSimpArgs false

set_option maxRecDepth 100000 in
set_option maxHeartbeats 1000000 in
theorem Verify_none (w : World) (v : Value) (g : Gr') (sv at' : Int) (text sig : ByteArray) (hg : g.Right) (hv : Sl w v 36 1 ([g].flatMap Gr'.cs)) (hf : foundB g sv at' = false) :
    Calls Tryz.prog 67 #[v, .int .i64 sv, .int .i64 at', .string text, .string sig] w (RB (.int .i64 3) w) := by
  have hF := Find_one w v g sv at' hg hv
  rw [hf] at hF
  rw [if_neg (by simp), if_neg (by simp)] at hF
  obtain ⟨C, hC⟩ : ∃ C, C = zeroG.A := ⟨_, rfl⟩
  rw [← hC] at hF
  have HCS := Lib.hid (show (Tryz.prog.info? 60).map (·.size) = some C.size by rw [hC]; exact gr_info _)
  have HCN := Lib.hid (show 36 = C.size by rw [hC]; exact (gr_size _).symm)
  have HCO := Lib.hid (show C.all (·.oneCell') = true by rw [hC]; kernel_rfl)
  have HF := Lib.hid hF
  clear hF hC hv hf
  go_enter Tryz.func67, Tryz.ntmps67
  go_wp2_with fail
  refine HF.out.mono ?_
  rintro e w1 ⟨rfl, hb⟩
  have HB1 := Lib.hid hb
  clear hb
  go_wp2_with (first | (refine wpList_store_rowA rfl _ _ _ rfl w1.heap.size C rfl rfl _ _ (heap_new _ _) HCS.out (by rw [← HCN.out]; rfl) HCO.out ?_) | fail)
  intro u1 hu1
  have HB2 := Lib.hid (show Below w.heap.size w u1 by rw [hu1.out]; exact below_row (HB1.out.alloc HB1.out.size _) HB1.out.size _)
  clear hu1
  go_wp2
  go_ret
  exact ⟨rfl, HB2.out⟩

set_option maxRecDepth 100000 in
set_option maxHeartbeats 1000000 in
theorem Verify_yes (w : World) (v : Value) (g : Gr') (sv at' : Int) (text sig : ByteArray) (n : Nat) (hg : g.Right) (hn : g.hi = (n : Int)) (hv : Sl w v 36 1 ([g].flatMap Gr'.cs)) (hf : foundB g sv at' = true)
    (ht : text.size ≤ 140737488355328) (hs : sig.size = 1089 + 32 * n) (hb2 : ((bl sig).headD 0).toNat < 2 ^ n) (hk : VarsH w) :
    Calls Tryz.prog 67 #[v, .int .i64 sv, .int .i64 at', .string text, .string sig] w (RB (.int .i64 (if climbOf n (bl text) (bl sig) = g.rt.l then 0 else 9)) w) := by
  have hF := Find_one w v g sv at' hg hv
  rw [hf] at hF
  rw [if_pos rfl, if_pos rfl] at hF
  have h7 : n ≤ 7 := by have := hg.h1; omega
  have hV := fun w hk => KeyJ.Verify_yes w g.rt n text sig h7 ht hs hb2 hk
  obtain ⟨res, hres⟩ : ∃ r : Int, r = (if climbOf n (bl text) (bl sig) = g.rt.l then 0 else 9) := ⟨_, rfl⟩
  rw [← hres] at hV ⊢
  obtain ⟨C, hC⟩ : ∃ C, C = g.A := ⟨_, rfl⟩
  obtain ⟨R, hR⟩ : ∃ R, R = g.rt.A := ⟨_, rfl⟩
  rw [← hC] at hF
  rw [← hR] at hV
  have c3 : C[3]? = some (.int .i64 (n : Int)) := by rw [hC, ← hn]; exact g.c3
  have HR4 := Lib.hid (show ∀ (j : Nat) (u : Value), R.toList[j]? = some u → C[4 + j]? = some u from fun j u h => by
    rw [hC]
    rw [hR] at h
    unfold Gr'.A Gr'.cs
    rw [List.getElem?_toArray, List.getElem?_append_right (by simp), ← h]
    simp [H32.A])
  have HRS := Lib.hid (show (Tryz.prog.info? 23).map (·.size) = some R.size by rw [hR]; exact H32.info _)
  have HCS := Lib.hid (show (Tryz.prog.info? 60).map (·.size) = some C.size by rw [hC]; exact gr_info _)
  have HCN := Lib.hid (show 36 = C.size by rw [hC]; exact (gr_size _).symm)
  have HCO := Lib.hid (show C.all (·.oneCell') = true by
    rw [hC, Array.all_eq_true_iff_forall_mem]
    intro u hu
    exact grF.one g u (by simpa [Gr'.A] using hu))
  have HF := Lib.hid hF
  have HV := Lib.hid hV
  have HK := Lib.hid hk
  clear hF hV hk hC hR hv hf hres hs hb2 ht hn
  go_enter Tryz.func67, Tryz.ntmps67
  go_wp2_with fail
  refine HF.out.mono ?_
  rintro e w1 ⟨rfl, hb⟩
  have HB1 := Lib.hid hb
  clear hb
  go_wp2_with (first | (refine wpList_store_rowA rfl _ _ _ rfl w1.heap.size C rfl rfl _ _ (heap_new _ _) HCS.out (by rw [← HCN.out]; rfl) HCO.out ?_) | fail)
  intro u1 hu1
  have HB2 := Lib.hid (show Below w.heap.size w u1 by rw [hu1.out]; exact below_row (HB1.out.alloc HB1.out.size _) HB1.out.size _)
  have HX2 := Lib.hid (show u1.heap[w1.heap.size]? = some (.cells C 60 (0, 0)) by rw [hu1.out]; exact setRow_at (heap_new _ _))
  clear hu1
  have hc3 : u1.cell? ⟨w1.heap.size, 3, none⟩ = some (.int .i64 (n : Int)) := by rw [cell_row HX2.out]; exact c3
  have Hc4 := Lib.hid (show ∀ (j : Nat) (u : Value), R.toList[j]? = some u → u1.cell? ⟨w1.heap.size, 4 + j, none⟩ = some u from fun j u h => by rw [cell_row HX2.out]; exact HR4.out j u h)
  go_wp2_with (first | (refine wpList_load_rowO rfl _ _ rfl w1.heap.size 4 rfl R Hc4.out Tryz.underlying23 rfl HRS.out ?_) | fail)
  refine (HV.out u1 (HK.out.below HB2.out)).mono ?_
  rintro e w3 ⟨rfl, hb⟩
  have HB3 := Lib.hid (HB2.out.trans (hb.mono HB2.out.size))
  clear hb
  go_wp2
  go_ret
  exact ⟨rfl, HB3.out⟩

end Go.Proofs.YtdmonfimdinkeaaGreatDoor.BookE
