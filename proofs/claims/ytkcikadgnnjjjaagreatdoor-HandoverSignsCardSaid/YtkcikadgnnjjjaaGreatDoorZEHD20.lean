/-
  WHAT IS PROVED: the document's own trees of sums: what is above two, a root, a path, and where a leaf leads. the document's own path of a leaf. Condition: what each theorem names.
-/
import Derived.Test.YtkcikadgnnjjjaaGreatDoorS0
import Derived.Test.YtkcikadgnnjjjaaGreatDoorZEHD19
set_option linter.unusedVariables false
set_option linter.unusedSimpArgs false
set_option maxRecDepth 100000
set_option maxHeartbeats 4000000
namespace Go.Proofs.YtkcikadgnnjjjaaGreatDoor.RkC
open Go Go.RowKit Go.Shelf OctP OctG RowsX Lift ShaS KeyS ShaA ShaB Steps KeyA KeyB TreeA TreeE TreeF TreeG WireT RkA
def twoT (x y : List UInt8) : List UInt8 := 1 :: (x ++ y)
theorem Text2_ok (w : World) (x y : H32) : Calls Tryz.prog 154 #[.agg x.A, .agg y.A] w (RB (.string (bsOf (twoT x.l y.l))) w) := by
 have hxs := fun w g h => sl_row w g x h
 have hys := fun w g h => sl_row w g y h
 have hxl : x.l.length = 32 := x.len
 have hyl : y.l.length = 32 := y.len
 obtain ⟨X, hX⟩ : ∃ E : Array Value, E = (x).A := ⟨_, rfl⟩
 have HXS := lh (show (Tryz.prog.info? 25).map (·.size) = some X.size by rw [hX]; exact H32.info _)
 have HXN := lh (show 32 = X.size by rw [hX]; exact (H32.size _).symm)
 have HXO := lh (show X.all (·.oneCell') = true by rw [hX]; exact H32.one _)
 have HXe := lh hX
 obtain ⟨Y, hY⟩ : ∃ E : Array Value, E = (y).A := ⟨_, rfl⟩
 have HYS := lh (show (Tryz.prog.info? 25).map (·.size) = some Y.size by rw [hY]; exact H32.info _)
 have HYN := lh (show 32 = Y.size by rw [hY]; exact (H32.size _).symm)
 have HYO := lh (show Y.all (·.oneCell') = true by rw [hY]; exact H32.one _)
 have HYe := lh hY
 rw [← hX] at hxs ⊢
 rw [← hY] at hys ⊢
 obtain ⟨sx, hsx⟩ := nXe (bsOf x.l)
 obtain ⟨sy, hsy⟩ := nXe (bsOf y.l)
 have hsxn : sx.size = 32 := by rw [hsx, size_bsOf, hxl]
 have hsyn : sy.size = 32 := by rw [hsy, size_bsOf, hyl]
 obtain ⟨RES, hRES⟩ : ∃ q : ByteArray, q = ⟨#[1]⟩ ++ sx ++ sy := ⟨_, rfl⟩
 have hfin : bsOf (twoT x.l y.l) = RES := by
  rw [hRES, hsx, hsy]
  unfold twoT
  apply bl_inj
  rw [bl_bsOf]
  simp [bl, bsOf]
 rw [hfin]
 have l1 : ¬ 9223372036854775807 < 1 + sx.size := by omega
 have l2 : ¬ 9223372036854775807 < 1 + sx.size + sy.size := by omega
 have cvx := fun wq (q : wq.heap[w.heap.size]? = some (.cells X 25 (0, 0))) => run_text' (P := Tryz.prog) wq 101 9 5 Tryz.underlying101 Tryz.underlying5 Tryz.underlying9 _ _ (by have := hxs wq _ q; rw [show 32 = x.l.length from hxl.symm] at this; exact this)
 have cvy := fun wq (q : wq.heap[w.heap.size + 1]? = some (.cells Y 25 (0, 0))) => run_text' (P := Tryz.prog) wq 101 9 5 Tryz.underlying101 Tryz.underlying5 Tryz.underlying9 _ _ (by have := hys wq _ q; rw [show 32 = y.l.length from hyl.symm] at this; exact this)
 rw [hxl, ← hsx] at cvx
 rw [hyl, ← hsy] at cvy
 have HCX := lh cvx
 have HCY := lh cvy
 have HR := lh hRES
 obtain ⟨w0, hw0⟩ := nXe ((w.alloc (.cells X 25)).alloc (.cells Y 25))
 have hb0 : Below w.heap.size w w0 := by rw [hw0]; exact ((Below.refl _ w).alloc (Nat.le_refl _) _).alloc (by simp) _
 have HX0 := lh (show w0.heap[w.heap.size]? = some (.cells X 25 (0, 0)) by rw [hw0]; exact heap_at (heap_new _ _) _)
 have HY0 := lh (show w0.heap[w.heap.size + 1]? = some (.cells Y 25 (0, 0)) by rw [hw0]; exact heap_new' _ (by simp))
 have HB0 := lh hb0
 have HW0 := lh hw0
 clear hxs hys hX hY hsx hsy hRES hfin cvx cvy hw0 hb0 hxl hyl
 go_enter Tryz.func154, Tryz.ntmps154
 go_wp2_with fail
 rw [← HW0.out]
 refine wp_region_noPanic ?_
 refine Wr.region_K (S := (fun W => W.heap[w.heap.size]? = some (.cells X 25 (0, 0)) ∧ W.heap[w.heap.size + 1]? = some (.cells Y 25 (0, 0)))) (K := []) (by kernel_rfl) ?_
 change Wr.wpAnyK _ _ _ _ _ _ _ _ _ (World.drew w0)
 have hBL0 : Below w0.heap.size w0 (World.drew w0) := Bl.drew (Below.refl _ _)
 have hS0 : (World.drew w0).heap[w.heap.size]? = some (.cells X 25 (0, 0)) ∧ (World.drew w0).heap[w.heap.size + 1]? = some (.cells Y 25 (0, 0)) := ⟨(hBL0.block _ (lt_row HX0.out)).trans HX0.out, (hBL0.block _ (lt_row HY0.out)).trans HY0.out⟩
 refine Wr.tkK (i := 0) (v := ?_) rfl (.inl ⟨by rfl, ?_⟩) hS0 ?_
 rotate_left
 ·intro wq hSw
  obtain ⟨q0, q1⟩ := hSw
  obtain ⟨qc0, qf0⟩ := row_facts q0
  obtain ⟨qc1, qf1⟩ := row_facts q1
  go_simp
  rfl
 simp only [Act.put, sxx]
 refine Wr.tkK (i := 1) (v := .string sx) rfl (.inl ⟨by rfl, ?_⟩) hS0 ?_
 ·intro wq hSw
  obtain ⟨q0, q1⟩ := hSw
  obtain ⟨qc0, qf0⟩ := row_facts q0
  obtain ⟨qc1, qf1⟩ := row_facts q1
  have cv := HCX.out wq q0
  go_simp
 simp only [Act.put, sxx]
 refine Wr.tkK (i := 2) (v := ?_) rfl (.inl ⟨by rfl, ?_⟩) hS0 ?_
 rotate_left
 ·intro wq hSw
  obtain ⟨q0, q1⟩ := hSw
  obtain ⟨qc0, qf0⟩ := row_facts q0
  obtain ⟨qc1, qf1⟩ := row_facts q1
  go_simp
  rfl
 simp only [Act.put, sxx]
 refine Wr.tkK (i := 3) (v := ?_) rfl (.inl ⟨by rfl, ?_⟩) hS0 ?_
 rotate_left
 ·intro wq hSw
  obtain ⟨q0, q1⟩ := hSw
  obtain ⟨qc0, qf0⟩ := row_facts q0
  obtain ⟨qc1, qf1⟩ := row_facts q1
  go_simp
  rfl
 simp only [Act.put, sxx]
 refine Wr.tkK (i := 4) (v := .string sy) rfl (.inl ⟨by rfl, ?_⟩) hS0 ?_
 ·intro wq hSw
  obtain ⟨q0, q1⟩ := hSw
  obtain ⟨qc0, qf0⟩ := row_facts q0
  obtain ⟨qc1, qf1⟩ := row_facts q1
  have cv := HCY.out wq q1
  go_simp
 simp only [Act.put, sxx]
 refine Wr.tkK (i := 5) (v := .string RES) rfl (.inl ⟨by rfl, ?_⟩) hS0 ?_
 ·intro wq hSw
  obtain ⟨q0, q1⟩ := hSw
  obtain ⟨qc0, qf0⟩ := row_facts q0
  obtain ⟨qc1, qf1⟩ := row_facts q1
  have hr := HR.out
  go_simp
 simp only [Act.put, sxx]
 refine Wr.tkK (i := 6) (v := ?_) rfl (.inl ⟨by rfl, ?_⟩) hS0 ?_
 rotate_left
 ·intro wq hSw
  obtain ⟨q0, q1⟩ := hSw
  obtain ⟨qc0, qf0⟩ := row_facts q0
  obtain ⟨qc1, qf1⟩ := row_facts q1
  go_simp
  rfl
 simp only [Act.put, sxx]
 refine Wr.wpAnyK_done (by kernel_rfl) (NoPanic.normal ?_) _
 go_wp2
 go_ret
 exact ⟨rfl, HB0.out.trans (hBL0.mono HB0.out.size)⟩
theorem Above2_ok (w : World) (x y : H32) : Calls Tryz.prog 141 #[.agg x.A, .agg y.A] w (RB (.agg (aboveH x y).A) w) := by
 have hT := fun w => Text2_ok w x y
 obtain ⟨S, hS⟩ := nXe (bsOf (twoT x.l y.l))
 have hSs : S.size = 65 := by rw [hS, size_bsOf]; unfold twoT; simp [x.len, y.len]
 have hSum := fun w => EntZ.Sum2_ok w S (by omega)
 have hEq : (byV (ShaS.sum (bl S))).toArray = (aboveH x y).A := by rw [hS, bl_bsOf]; rfl
 rw [hEq] at hSum
 rw [← hS] at hT
 obtain ⟨X, hX⟩ : ∃ E : Array Value, E = (x).A := ⟨_, rfl⟩
 have HXS := lh (show (Tryz.prog.info? 25).map (·.size) = some X.size by rw [hX]; exact H32.info _)
 have HXN := lh (show 32 = X.size by rw [hX]; exact (H32.size _).symm)
 have HXO := lh (show X.all (·.oneCell') = true by rw [hX]; exact H32.one _)
 have HXe := lh hX
 obtain ⟨Y, hY⟩ : ∃ E : Array Value, E = (y).A := ⟨_, rfl⟩
 have HYS := lh (show (Tryz.prog.info? 25).map (·.size) = some Y.size by rw [hY]; exact H32.info _)
 have HYN := lh (show 32 = Y.size by rw [hY]; exact (H32.size _).symm)
 have HYO := lh (show Y.all (·.oneCell') = true by rw [hY]; exact H32.one _)
 have HYe := lh hY
 obtain ⟨R, hR⟩ : ∃ E : Array Value, E = (aboveH x y).A := ⟨_, rfl⟩
 have HRS := lh (show (Tryz.prog.info? 25).map (·.size) = some R.size by rw [hR]; exact H32.info _)
 have HRN := lh (show 32 = R.size by rw [hR]; exact (H32.size _).symm)
 have HRO := lh (show R.all (·.oneCell') = true by rw [hR]; exact H32.one _)
 have HRe := lh hR
 obtain ⟨Z, hZ⟩ : ∃ E : Array Value, E = (zeroH).A := ⟨_, rfl⟩
 have HZS := lh (show (Tryz.prog.info? 25).map (·.size) = some Z.size by rw [hZ]; exact H32.info _)
 have HZN := lh (show 32 = Z.size by rw [hZ]; exact (H32.size _).symm)
 have HZO := lh (show Z.all (·.oneCell') = true by rw [hZ]; exact H32.one _)
 have HZe := lh hZ
 rw [← hX, ← hY] at hT ⊢
 rw [← hR] at hSum ⊢
 have HLIT : Hid (zq0 Z) := lh (by rw [hZ]; unfold zq0; kernel_rfl)
 have HT := lh hT
 have HS := lh hSum
 obtain ⟨w0, hw0⟩ := nXe (((w.alloc (.cells X 25)).alloc (.cells Y 25)).alloc (.cells Z 25))
 have hb0 : Below w.heap.size w w0 := by rw [hw0]; exact (((Below.refl _ w).alloc (Nat.le_refl _) _).alloc (by simp) _).alloc (by simp; omega) _
 have HX0 := lh (show w0.heap[w.heap.size]? = some (.cells X 25 (0, 0)) by rw [hw0]; exact heap_at (heap_at (heap_new _ _) _) _)
 have HY0 := lh (show w0.heap[w.heap.size + 1]? = some (.cells Y 25 (0, 0)) by rw [hw0]; exact heap_at (heap_new' _ (by simp)) _)
 have HZ0 := lh (show w0.heap[w.heap.size + 2]? = some (.cells Z 25 (0, 0)) by rw [hw0]; exact heap_new' _ (by simp))
 have HB0 := lh hb0
 have HW0 := lh hw0
 clear hT hSum hEq hS hSs hX hY hR hZ hw0 hb0
 go_enter Tryz.func141, Tryz.ntmps141
 go_wp2_with (first | (rw [HLIT.out, ← HW0.out]; refine wpList_load_row rfl _ _ rfl w.heap.size rfl _ X (0, 0) _ HX0.out Tryz.underlying25 rfl HXS.out ?_) | (refine wpList_load_row rfl _ _ rfl w.heap.size rfl _ X (0, 0) _ HX0.out Tryz.underlying25 rfl HXS.out ?_) | (refine wpList_load_row rfl _ _ rfl (w.heap.size + 1) rfl _ Y (0, 0) _ HY0.out Tryz.underlying25 rfl HYS.out ?_) | fail)
 refine (HT.out w0).mono ?_
 rintro e w1 ⟨rfl, hb⟩
 have HB1 := tbB HB0 hb
 have HZ1 := kpB hb HZ0
 clear hb
 go_wp2_with fail
 refine (HS.out w1).mono ?_
 rintro e w2 ⟨rfl, hb⟩
 have HB2 := tbB HB1 hb
 have HZ2 := kpB hb HZ1
 clear hb
 go_wp2_with (first | (refine wpList_store_rowA rfl _ _ _ rfl (w.heap.size + 2) R rfl rfl _ _ HZ2.out HRS.out (by rw [← HZN.out]; exact HRN.out) HRO.out ?_) | fail)
 intro wf hwf
 go_wp2
 refine bodyPost_ret (v := .agg R) (results_cell_row rfl _ _ (w.heap.size + 2) _ R (0, 0) _ rfl (by rw [hwf.out]; exact setRow_at HZ2.out) Tryz.underlying25 rfl HRS.out) rfl ⟨rfl, by rw [hwf.out]; exact below_row HB2.out (by omega) _⟩
theorem fits2_ok (w : World) (h : Nat) (hh : h ≤ 7) : Calls Tryz.prog 124 #[.int .i64 (2 ^ h : Nat)] w (fun e w' => e = .returned (.bool true) ∧ w = w') := by
 have hc : h = 0 ∨ h = 1 ∨ h = 2 ∨ h = 3 ∨ h = 4 ∨ h = 5 ∨ h = 6 ∨ h = 7 := by omega
 rcases hc with rfl | rfl | rfl | rfl | rfl | rfl | rfl | rfl
 ·show Calls _ _ #[.int .i64 1] _ _
  go_enter Tryz.func124, Tryz.ntmps124
  go_wp2
  refine wp_loop_rounds 1 ?_
  rw [rounds_succ]
  go_wp2
  go_ret
  exact ⟨rfl, rfl⟩
 ·show Calls _ _ #[.int .i64 2] _ _
  go_enter Tryz.func124, Tryz.ntmps124
  go_wp2
  refine wp_loop_rounds 2 ?_
  rw [rounds_succ]
  go_wp2
  rw [rounds_succ]
  go_wp2
  go_ret
  exact ⟨rfl, rfl⟩
 ·show Calls _ _ #[.int .i64 4] _ _
  go_enter Tryz.func124, Tryz.ntmps124
  go_wp2
  refine wp_loop_rounds 3 ?_
  iterate 3
   rw [rounds_succ]
   go_wp2
  go_ret
  exact ⟨rfl, rfl⟩
 ·show Calls _ _ #[.int .i64 8] _ _
  go_enter Tryz.func124, Tryz.ntmps124
  go_wp2
  refine wp_loop_rounds 4 ?_
  iterate 4
   rw [rounds_succ]
   go_wp2
  go_ret
  exact ⟨rfl, rfl⟩
 ·show Calls _ _ #[.int .i64 16] _ _
  go_enter Tryz.func124, Tryz.ntmps124
  go_wp2
  refine wp_loop_rounds 5 ?_
  iterate 5
   rw [rounds_succ]
   go_wp2
  go_ret
  exact ⟨rfl, rfl⟩
 ·show Calls _ _ #[.int .i64 32] _ _
  go_enter Tryz.func124, Tryz.ntmps124
  go_wp2
  refine wp_loop_rounds 6 ?_
  iterate 6
   rw [rounds_succ]
   go_wp2
  go_ret
  exact ⟨rfl, rfl⟩
 ·show Calls _ _ #[.int .i64 64] _ _
  go_enter Tryz.func124, Tryz.ntmps124
  go_wp2
  refine wp_loop_rounds 7 ?_
  iterate 7
   rw [rounds_succ]
   go_wp2
  go_ret
  exact ⟨rfl, rfl⟩
 ·show Calls _ _ #[.int .i64 128] _ _
  go_enter Tryz.func124, Tryz.ntmps124
  go_wp2
  refine wp_loop_rounds 8 ?_
  iterate 8
   rw [rounds_succ]
   go_wp2
  go_ret
  exact ⟨rfl, rfl⟩
theorem H32.ext_map : ∀ {L M : List H32}, L.map H32.l = M.map H32.l → L = M
 | [], [], _ => rfl
 | x :: L, y :: M, h => by
  simp only [List.map_cons, List.cons.injEq] at h
  rw [H32.ext h.1, H32.ext_map h.2]
theorem rootH_split (h : Nat) (L : List H32) (hL : L.length = 2 ^ (h + 1)) : rootH (h + 1) L = aboveH (rootH h (L.take (2 ^ h))) (rootH h (L.drop (2 ^ h))) := by
 have hp : 2 ^ (h + 1) = 2 * 2 ^ h := by rw [Nat.pow_succ, Nat.mul_comm]
 have h1 : (L.take (2 ^ h)).length = 2 ^ h := by rw [List.length_take, hL]; omega
 have h2 : (L.drop (2 ^ h)).length = 2 ^ h := by rw [List.length_drop, hL]; omega
 apply H32.ext
 rw [rootH_l _ _ hL]
 show _ = above (rootH h _).l (rootH h _).l
 rw [rootH_l _ _ h1, rootH_l _ _ h2, ← KeyT.root_split h _ _ (by rw [List.length_map, h1]) (by rw [List.length_map, h2]), ← List.map_append, List.take_append_drop]
theorem pathH_left (h : Nat) (L : List H32) (i : Nat) (hL : L.length = 2 ^ (h + 1)) (hi : i < 2 ^ h) : pathH (h + 1) L i = pathH h (L.take (2 ^ h)) i ++ [rootH h (L.drop (2 ^ h))] := by
 have hp : 2 ^ (h + 1) = 2 * 2 ^ h := by rw [Nat.pow_succ, Nat.mul_comm]
 have h1 : (L.take (2 ^ h)).length = 2 ^ h := by rw [List.length_take, hL]; omega
 have h2 : (L.drop (2 ^ h)).length = 2 ^ h := by rw [List.length_drop, hL]; omega
 apply H32.ext_map
 rw [pathH_l _ _ _ hL (by omega), List.map_append, pathH_l _ _ _ h1 hi, List.map_cons, List.map_nil, rootH_l _ _ h2]
 conv => lhs; rw [← List.take_append_drop (2 ^ h) L, List.map_append]
 exact KeyT.path_left h _ _ i (by rw [List.length_map, h1]) (by rw [List.length_map, h2]) hi
theorem pathH_right (h : Nat) (L : List H32) (i : Nat) (hL : L.length = 2 ^ (h + 1)) (hi : i < 2 ^ h) : pathH (h + 1) L (2 ^ h + i) = pathH h (L.drop (2 ^ h)) i ++ [rootH h (L.take (2 ^ h))] := by
 have hp : 2 ^ (h + 1) = 2 * 2 ^ h := by rw [Nat.pow_succ, Nat.mul_comm]
 have h1 : (L.take (2 ^ h)).length = 2 ^ h := by rw [List.length_take, hL]; omega
 have h2 : (L.drop (2 ^ h)).length = 2 ^ h := by rw [List.length_drop, hL]; omega
 apply H32.ext_map
 rw [pathH_l _ _ _ hL (by omega), List.map_append, pathH_l _ _ _ h2 hi, List.map_cons, List.map_nil, rootH_l _ _ h1]
 conv => lhs; rw [← List.take_append_drop (2 ^ h) L, List.map_append]
 exact KeyT.path_right h _ _ i (by rw [List.length_map, h1]) (by rw [List.length_map, h2]) hi
theorem flat_take {α : Type} {size : Nat} {f : α → List Value} (F : RowsX.RowFn size f) : ∀ (m : Nat) (L : List α), (L.take m).flatMap f = (L.flatMap f).take (m * size)
 | 0, L => by simp
 | m + 1, [] => by simp
 | m + 1, x :: L => by
  have hx := F.len x
  rw [List.take_succ_cons, List.flatMap_cons, List.flatMap_cons, flat_take F m L, show (m + 1) * size = (f x).length + m * size by rw [hx, Nat.add_mul, Nat.one_mul, Nat.add_comm], List.take_length_add_append]
theorem flat_drop {α : Type} {size : Nat} {f : α → List Value} (F : RowsX.RowFn size f) : ∀ (m : Nat) (L : List α), (L.drop m).flatMap f = (L.flatMap f).drop (m * size)
 | 0, L => by simp
 | m + 1, [] => by simp
 | m + 1, x :: L => by
  have hx := F.len x
  rw [List.drop_succ_cons, List.flatMap_cons, flat_drop F m L, show (m + 1) * size = (f x).length + m * size by rw [hx, Nat.add_mul, Nat.one_mul, Nat.add_comm], List.drop_length_add_append]
theorem half_left {w : World} {a : Addr} {n cap m : Nat} {L : List H32} (hv : Sl w (.slice (some a) n cap) 32 n (L.flatMap H32.cs)) (hL : L.length = n) (hm : m ≤ n) : Sl w (.slice (some a) m cap) 32 (L.take m).length ((L.take m).flatMap H32.cs) := by
 have h := Sl.take hv hm
 have e : (L.take m).length = m := by rw [List.length_take]; omega
 rw [e, flat_take hF]
 exact h
theorem half_right {w : World} {a A : Addr} {n cap m : Nat} {L : List H32} (hv : Sl w (.slice (some a) n cap) 32 n (L.flatMap H32.cs)) (hL : L.length = n) (hm : m ≤ n) (hA : A = if cap = m then a else a.add (m * 32)) : Sl w (.slice (some A) (n - m) (cap - m)) 32 (L.drop m).length ((L.drop m).flatMap H32.cs) := by
 have h := Sl.cut hv hm (Nat.le_refl n) hA
 have e : (L.drop m).length = n - m := by rw [List.length_drop]; omega
 rw [e, flat_drop hF]
 rw [List.take_of_length_le (by rw [hF.total]; omega)] at h
 exact h
theorem Root2_ok : ∀ (h : Nat), h ≤ 7 → ∀ (w : World) (v : Value) (L : List H32), L.length = 2 ^ h → Sl w v 32 L.length (L.flatMap H32.cs) → Calls Tryz.prog 125 #[v] w (RB (.tuple #[.agg (rootH h L).A, .int .i64 0]) w)
 | 0, _, w, v, L, hL, hv => by
  obtain ⟨a, cap, rfl, hcap, hm63⟩ := hv.form
  have hl1 : L.length = 1 := hL
  obtain ⟨ab, ao, rfl, hablt, hcc⟩ := row_cells hF (by omega) hv (getD_at L 0 (by omega))
  obtain ⟨RT, hRT⟩ := nXe (rootH 0 L)
  rw [← hRT]
  have hRT' : L.getD 0 zeroH = RT := hRT.symm
  rw [hRT'] at hcc
  rw [hl1]
  obtain ⟨Z, hZ⟩ : ∃ E : Array Value, E = (zeroH).A := ⟨_, rfl⟩
  have HZS := lh (show (Tryz.prog.info? 25).map (·.size) = some Z.size by rw [hZ]; exact H32.info _)
  have HZN := lh (show 32 = Z.size by rw [hZ]; exact (H32.size _).symm)
  have HZO := lh (show Z.all (·.oneCell') = true by rw [hZ]; exact H32.one _)
  have HZe := lh hZ
  obtain ⟨R, hR⟩ : ∃ E : Array Value, E = (RT).A := ⟨_, rfl⟩
  have HRS := lh (show (Tryz.prog.info? 25).map (·.size) = some R.size by rw [hR]; exact H32.info _)
  have HRN := lh (show 32 = R.size by rw [hR]; exact (H32.size _).symm)
  have HRO := lh (show R.all (·.oneCell') = true by rw [hR]; exact H32.one _)
  have HRe := lh hR
  have HLIT : Hid (zq0 Z) := lh (by rw [hZ]; unfold zq0; kernel_rfl)
  obtain ⟨w0, hw0⟩ := nXe (w.alloc (.cells Z 25))
  have hb0 : Below w.heap.size w w0 := by rw [hw0]; exact (Below.refl _ w).alloc (Nat.le_refl _) _
  have HX0 := lh (show w0.heap[w.heap.size]? = some (.cells Z 25 (0, 0)) by rw [hw0]; exact heap_new _ _)
  have HB0 := lh hb0
  have HW0 := lh hw0
  rw [← hR]
  have Hcc := lh (show ∀ (j : Nat) (u : Value), R.toList[j]? = some u → w.cell? ⟨ab, ao + j, none⟩ = some u by rw [hR]; intro j u hu; have := hcc j u hu; rw [show ao + 0 * 32 + j = ao + j by omega] at this; exact this)
  have hfit := fun w => fits2_ok w 0 (by omega)
  have hfit : ∀ w, Calls Tryz.prog 124 #[.int .i64 1] w (fun e w' => e = .returned (.bool true) ∧ w = w') := hfit
  have Hfit := lh hfit
  have Hlt := lh hablt
  clear hv hcc hR hZ hw0 hb0 hRT hRT' hfit hcap hm63 hL hablt
  go_enter Tryz.func125, Tryz.ntmps125
  go_wp2_with fail
  rw [HLIT.out, ← HW0.out]
  refine (Hfit.out w0).mono ?_
  rintro e w' ⟨rfl, rfl⟩
  have Hc0 := lh (show ∀ (j : Nat) (u : Value), R.toList[j]? = some u → w0.cell? ⟨ab, ao + j, none⟩ = some u from fun j u h => (HB0.out.cell (p := ⟨ab, ao + j, none⟩) Hlt.out).trans (Hcc.out j u h))
  go_wp2_with (first | (refine wpList_load_rowO rfl _ _ rfl ab ao rfl R Hc0.out Tryz.underlying25 rfl HRS.out ?_) | (refine wpList_store_rowA rfl _ _ _ rfl w.heap.size R rfl rfl _ _ HX0.out HRS.out (by rw [← HZN.out]; exact HRN.out) HRO.out ?_) | fail)
  intro wf hwf
  go_wp2
  refine bodyPost_ret (v := .tuple #[.agg R, .int .i64 0]) (WireT.results_cell_slot rfl _ _ w.heap.size 25 R (0, 0) _ rfl (by rw [hwf.out]; exact setRow_at HX0.out) Tryz.underlying25 rfl HRS.out rfl) rfl ⟨rfl, by rw [hwf.out]; exact below_row HB0.out (Nat.le_refl _) _⟩
 | h + 1, hh, w, v, L, hL, hv => by
  obtain ⟨a, cap, rfl, hcap, hm63⟩ := hv.form
  obtain ⟨m, hm⟩ := nXe (2 ^ h)
  have hp : 2 ^ (h + 1) = 2 * m := by rw [hm, Nat.pow_succ, Nat.mul_comm]
  have hm0 : 0 < m := by rw [hm]; exact Nat.pow_pos (by omega)
  have hm64 : m ≤ 64 := by rw [hm]; exact Nat.le_trans (Nat.pow_le_pow_right (by omega) (show h ≤ 6 by omega)) (by omega)
  have hsp := rootH_split h L hL
  rw [← hm] at hsp
  have hn : L.length = 2 * m := by rw [hL, hp]
  obtain ⟨ab, ao, rfl, hablt, _⟩ := row_cells hF (by omega) hv (getD_at L 0 (by omega))
  have hl1 : (L.take m).length = 2 ^ h := by rw [List.length_take, ← hm]; omega
  have hl2 : (L.drop m).length = 2 ^ h := by rw [List.length_drop, ← hm]; omega
  rw [hn] at hv hcap ⊢
  have hv1 := half_left hv hn (show m ≤ 2 * m by omega)
  have hv2 := half_right hv hn (show m ≤ 2 * m by omega) (A := ⟨ab, ao + m * 32, none⟩) (by rw [if_neg (by omega), Addr.add_mid])
  have hc1 := fun w' (hb : Below w.heap.size w w') => Root2_ok h (by omega) w' _ _ hl1 (Sl.below hv1 hb)
  have hc2 := fun w' (hb : Below w.heap.size w w') => Root2_ok h (by omega) w' _ _ hl2 (Sl.below hv2 hb)
  obtain ⟨RT, hRT⟩ := nXe (rootH (h + 1) L)
  obtain ⟨R1, hR1⟩ := nXe (rootH h (L.take m))
  obtain ⟨R2, hR2⟩ := nXe (rootH h (L.drop m))
  have hab := fun w => Above2_ok w R1 R2
  rw [← hRT, ← hR1, ← hR2] at hsp
  rw [← hR1] at hc1
  rw [← hR2] at hc2
  rw [← hsp] at hab
  rw [← hRT]
  skip
  obtain ⟨Z, hZ⟩ : ∃ E : Array Value, E = (zeroH).A := ⟨_, rfl⟩
  have HZS := lh (show (Tryz.prog.info? 25).map (·.size) = some Z.size by rw [hZ]; exact H32.info _)
  have HZN := lh (show 32 = Z.size by rw [hZ]; exact (H32.size _).symm)
  have HZO := lh (show Z.all (·.oneCell') = true by rw [hZ]; exact H32.one _)
  have HZe := lh hZ
  obtain ⟨R, hR⟩ : ∃ E : Array Value, E = (RT).A := ⟨_, rfl⟩
  have HRS := lh (show (Tryz.prog.info? 25).map (·.size) = some R.size by rw [hR]; exact H32.info _)
  have HRN := lh (show 32 = R.size by rw [hR]; exact (H32.size _).symm)
  have HRO := lh (show R.all (·.oneCell') = true by rw [hR]; exact H32.one _)
  have HRe := lh hR
  have HLIT : Hid (zq0 Z) := lh (by rw [hZ]; unfold zq0; kernel_rfl)
  obtain ⟨w0, hw0⟩ := nXe (w.alloc (.cells Z 25))
  have hb0 : Below w.heap.size w w0 := by rw [hw0]; exact (Below.refl _ w).alloc (Nat.le_refl _) _
  have HX0 := lh (show w0.heap[w.heap.size]? = some (.cells Z 25 (0, 0)) by rw [hw0]; exact heap_new _ _)
  have HB0 := lh hb0
  have HW0 := lh hw0
  obtain ⟨P, hP⟩ : ∃ E : Array Value, E = (R1).A := ⟨_, rfl⟩
  have HPS := lh (show (Tryz.prog.info? 25).map (·.size) = some P.size by rw [hP]; exact H32.info _)
  have HPN := lh (show 32 = P.size by rw [hP]; exact (H32.size _).symm)
  have HPO := lh (show P.all (·.oneCell') = true by rw [hP]; exact H32.one _)
  have HPe := lh hP
  obtain ⟨Q, hQ⟩ : ∃ E : Array Value, E = (R2).A := ⟨_, rfl⟩
  have HQS := lh (show (Tryz.prog.info? 25).map (·.size) = some Q.size by rw [hQ]; exact H32.info _)
  have HQN := lh (show 32 = Q.size by rw [hQ]; exact (H32.size _).symm)
  have HQO := lh (show Q.all (·.oneCell') = true by rw [hQ]; exact H32.one _)
  have HQe := lh hQ
  rw [← hP] at hc1 hab
  rw [← hQ] at hc2 hab
  rw [← hR] at hab ⊢
  have hfit := fun w => fits2_ok w (h + 1) hh
  rw [hp] at hfit
  have Hfit := lh hfit
  have H1 := lh hc1
  have H2 := lh hc2
  have HAB := lh hab
  have q1 : ((2 * m : Nat) : Int).tdiv 2 = (m : Int) := by have : ((2 * m : Nat) : Int).tdiv 2 = (((2 * m) / 2 : Nat) : Int) := rfl; rw [this, Nat.mul_div_cancel_left _ (by omega)]
  have n1 : ¬ (2 * m = 1) := by omega
  have n2 : ((2 * m : Nat) : Int) ≠ 1 := by omega
  clear hv hv1 hv2 hc1 hc2 hab hR hP hQ hZ hw0 hb0 hRT hR1 hR2 hsp hfit hL hl1 hl2 hm hp hn hm63
  go_enter Tryz.func125, Tryz.ntmps125
  go_wp2_with fail
  rw [HLIT.out, ← HW0.out]
  refine (Hfit.out w0).mono ?_
  rintro e w' ⟨rfl, rfl⟩
  go_wp2_with fail
  refine (H1.out w0 HB0.out).mono ?_
  rintro e w1 ⟨rfl, hb⟩
  have HB1 := tbB HB0 hb
  have HX1 := kpB hb HX0
  clear hb
  go_wp2_with (first | (refine wpList_store_rowA rfl _ _ _ rfl w1.heap.size P rfl rfl _ _ (heap_new _ _) HPS.out (by rw [← HPN.out]; rfl) HPO.out ?_) | fail)
  intro u1 hu1
  have hb : Below w1.heap.size w1 u1 := by rw [hu1.out]; exact below_row bAx (Nat.le_refl _) _
  have hy : u1.heap[w1.heap.size]? = some (.cells P 25 (0, 0)) := by rw [hu1.out]; exact setRow_at (heap_new _ _)
  clear hu1
  obtain ⟨w2, hww⟩ : ∃ w', w' = u1 := ⟨_, rfl⟩
  rw [← hww] at hb hy ⊢
  clear hww
  obtain ⟨BP, hBP⟩ := nXe (w1.heap.size)
  rw [← hBP] at hy ⊢
  have gP : w.heap.size < BP := by rw [hBP]; exact lt_row HX1.out
  clear hBP
  have HB2 := tbB HB1 hb
  have HX2 := kpB hb HX1
  have HP2 := lh hy
  clear hb hy
  go_wp2_with fail
  refine (H2.out w2 HB2.out).mono ?_
  rintro e w3 ⟨rfl, hb⟩
  have HB3 := tbB HB2 hb
  have HX3 := kpB hb HX2
  have HP3 := kpB hb HP2
  clear hb
  go_wp2_with (first | (refine wpList_store_rowA rfl _ _ _ rfl w3.heap.size Q rfl rfl _ _ (heap_new _ _) HQS.out (by rw [← HQN.out]; rfl) HQO.out ?_) | fail)
  intro u1 hu1
  have hb : Below w3.heap.size w3 u1 := by rw [hu1.out]; exact below_row bAx (Nat.le_refl _) _
  have hy : u1.heap[w3.heap.size]? = some (.cells Q 25 (0, 0)) := by rw [hu1.out]; exact setRow_at (heap_new _ _)
  clear hu1
  obtain ⟨w4, hww⟩ : ∃ w', w' = u1 := ⟨_, rfl⟩
  rw [← hww] at hb hy ⊢
  clear hww
  obtain ⟨BQ, hBQ⟩ := nXe (w3.heap.size)
  rw [← hBQ] at hy ⊢
  clear hBQ
  have HB4 := tbB HB3 hb
  have HX4 := kpB hb HX3
  have HP4 := kpB hb HP3
  have HQ4 := lh hy
  clear hb hy
  go_wp2_with (first | (refine wpList_load_row rfl _ _ rfl BP rfl _ P (0, 0) _ HP4.out Tryz.underlying25 rfl HPS.out ?_) | (refine wpList_load_row rfl _ _ rfl BQ rfl _ Q (0, 0) _ HQ4.out Tryz.underlying25 rfl HQS.out ?_) | fail)
  refine (HAB.out w4).mono ?_
  rintro e w5 ⟨rfl, hb⟩
  have HB5 := tbB HB4 hb
  have HX5 := kpB hb HX4
  clear hb
  go_wp2_with (first | (refine wpList_store_rowA rfl _ _ _ rfl w.heap.size R rfl rfl _ _ HX5.out HRS.out (by rw [← HZN.out]; exact HRN.out) HRO.out ?_) | fail)
  intro wf hwf
  go_wp2
  refine bodyPost_ret (v := .tuple #[.agg R, .int .i64 0]) (WireT.results_cell_slot rfl _ _ w.heap.size 25 R (0, 0) _ rfl (by rw [hwf.out]; exact setRow_at HX5.out) Tryz.underlying25 rfl HRS.out rfl) rfl ⟨rfl, by rw [hwf.out]; exact below_row HB5.out (Nat.le_refl _) _⟩
end Go.Proofs.YtkcikadgnnjjjaaGreatDoor.RkC
namespace Go.Proofs.YtkcikadgnnjjjaaGreatDoor.RkD
open Go Go.RowKit Go.Shelf OctP OctG RowsX Lift ShaS KeyS ShaA ShaB Steps KeyA KeyB KeyG TreeA TreeE TreeF TreeG WireT RkA RkC
attribute [-go_sem] Builtin.append_
theorem acc_drew {w w' : World} {v : Value} {l : List H32} (h : AccR 25 32 H32.cs w.drew w' v l) : AccR 25 32 H32.cs w w' v l :=
 ⟨h.own, (Bl.drew (Below.refl _ _)).trans h.bel⟩
theorem Path2_ok : ∀ (h : Nat), h ≤ 7 → ∀ (w : World) (v : Value) (L : List H32) (i : Nat), L.length = 2 ^ h → i < 2 ^ h → Sl w v 32 L.length (L.flatMap H32.cs) → Calls Tryz.prog 85 #[v, .int .i64 i] w fun e w' => ∃ u, e = .returned (.tuple #[u, .int .i64 0]) ∧ AccR 25 32 H32.cs w w' u (pathH h L i)
 | 0, _, w, v, L, i, hL, hi, hv => by
  obtain ⟨a, cap, rfl, hcap, hm63⟩ := hv.form
  have hl1 : L.length = 1 := hL
  obtain rfl : i = 0 := by omega
  rw [hl1]
  have hfit : ∀ w, Calls Tryz.prog 124 #[.int .i64 1] w (fun e w' => e = .returned (.bool true) ∧ w = w') := fun w => fits2_ok w 0 (by omega)
  have Hfit := lh hfit
  clear hv hfit hcap hm63 hL
  go_enter Tryz.func85, Tryz.ntmps85
  go_wp2_with fail
  refine (Hfit.out w).mono ?_
  rintro e w' ⟨rfl, rfl⟩
  go_wp2
  go_ret2
  exact ⟨_, rfl, AccR.nil w⟩
 | h + 1, hh, w, v, L, i, hL, hi, hv => by
  obtain ⟨a, cap, rfl, hcap, hm63⟩ := hv.form
  obtain ⟨m, hm⟩ := nXe (2 ^ h)
  have hp : 2 ^ (h + 1) = 2 * m := by rw [hm, Nat.pow_succ, Nat.mul_comm]
  have hm0 : 0 < m := by rw [hm]; exact Nat.pow_pos (by omega)
  have hm64 : m ≤ 64 := by rw [hm]; exact Nat.le_trans (Nat.pow_le_pow_right (by omega) (show h ≤ 6 by omega)) (by omega)
  have hpl := fun i => pathH_left h L i hL
  have hpr := fun i => pathH_right h L i hL
  rw [← hm] at hpl hpr
  have hn : L.length = 2 * m := by rw [hL, hp]
  obtain ⟨ab, ao, rfl, hablt, _⟩ := row_cells hF (by omega) hv (getD_at L 0 (by omega))
  have hl1 : (L.take m).length = 2 ^ h := by rw [List.length_take, ← hm]; omega
  have hl2 : (L.drop m).length = 2 ^ h := by rw [List.length_drop, ← hm]; omega
  rw [hn] at hv hcap ⊢
  have hv1 := half_left hv hn (show m ≤ 2 * m by omega)
  have hv2 := half_right hv hn (show m ≤ 2 * m by omega) (A := ⟨ab, ao + m * 32, none⟩) (by rw [if_neg (by omega), Addr.add_mid])
  have hr1 := fun w' (hb : Below w.heap.size w w') => Root2_ok h (by omega) w' _ _ hl1 (Sl.below hv1 hb)
  have hr2 := fun w' (hb : Below w.heap.size w w') => Root2_ok h (by omega) w' _ _ hl2 (Sl.below hv2 hb)
  have hc1 := fun w' i (hi : i < 2 ^ h) (hb : Below w.heap.size w w') => Path2_ok h (by omega) w' _ _ i hl1 hi (Sl.below hv1 hb)
  have hc2 := fun w' i (hi : i < 2 ^ h) (hb : Below w.heap.size w w') => Path2_ok h (by omega) w' _ _ i hl2 hi (Sl.below hv2 hb)
  rw [← hm] at hc1 hc2
  obtain ⟨R1, hR1⟩ := nXe (rootH h (L.take m))
  obtain ⟨R2, hR2⟩ := nXe (rootH h (L.drop m))
  rw [← hR1] at hr1 hpr
  rw [← hR2] at hr2 hpl
  obtain ⟨P, hP⟩ : ∃ E : Array Value, E = (R1).A := ⟨_, rfl⟩
  have hPn : P.size = 32 := by rw [hP]; exact H32.size _
  have HPS := lh (show (Tryz.prog.info? 25).map (·.size) = some P.size by rw [hP]; exact H32.info _)
  have HPN := lh (show 32 = P.size by rw [hP]; exact (H32.size _).symm)
  have HPO := lh (show P.all (·.oneCell') = true by rw [hP]; exact H32.one _)
  have HPe := lh hP
  obtain ⟨Q, hQ⟩ : ∃ E : Array Value, E = (R2).A := ⟨_, rfl⟩
  have hQn : Q.size = 32 := by rw [hQ]; exact H32.size _
  have HQS := lh (show (Tryz.prog.info? 25).map (·.size) = some Q.size by rw [hQ]; exact H32.info _)
  have HQN := lh (show 32 = Q.size by rw [hQ]; exact (H32.size _).symm)
  have HQO := lh (show Q.all (·.oneCell') = true by rw [hQ]; exact H32.one _)
  have HQe := lh hQ
  rw [← hP] at hr1
  rw [← hQ] at hr2
  have hfit := fun w => fits2_ok w (h + 1) hh
  rw [hp] at hfit hi
  have Hfit := lh hfit
  have HR1 := lh hr1
  have HR2 := lh hr2
  have HC1 := lh hc1
  have HC2 := lh hc2
  have HPL := lh hpl
  have HPR := lh hpr
  have q1 : ((2 * m : Nat) : Int).tdiv 2 = (m : Int) := by have : ((2 * m : Nat) : Int).tdiv 2 = (((2 * m) / 2 : Nat) : Int) := rfl; rw [this, Nat.mul_div_cancel_left _ (by omega)]
  have hp7 : h ≤ 6 := by omega
  have hpl1 : ∀ i, (pathH h (L.take m) i).length = h := fun i => pathH_length _ _ _
  have hpl2 : ∀ i, (pathH h (L.drop m) i).length = h := fun i => pathH_length _ _ _
  have HL1 := lh hpl1
  have HL2 := lh hpl2
  clear hv hv1 hv2 hc1 hc2 hr1 hr2 hP hQ hR1 hR2 hfit hL hl1 hl2 hm hp hn hm63 hpl hpr hpl1 hpl2 hh
  go_enter Tryz.func85, Tryz.ntmps85
  go_wp2_with fail
  refine (Hfit.out w).mono ?_
  rintro e w' ⟨rfl, rfl⟩
  go_wp2_with fail
  have k1 : IntKind.i64.wrap (m : Int) = (m : Int) := by rw [IntKind.wrap_i64]; omega
  have k2 : ((m : Int)).toNat = m := by omega
  have k3 : (m : Int) ≤ (cap : Int) := by omega
  have k4 : (0 : Int) ≤ (m : Int) := by omega
  have k5 : (m : Int) ≤ 2 * (m : Int) := by omega
  have k6 : ¬ cap = m := by omega
  refine wp_region_noPanic ?_
  refine Wr.region_K (S := (fun W => True)) (K := []) (by kernel_rfl) ?_
  change Wr.wpAnyK _ _ _ _ _ _ _ _ _ (World.drew w)
  have hBL0 : Below w.heap.size w (World.drew w) := Bl.drew (Below.refl _ _)
  have hS0 : True := trivial
  refine Wr.tkK (i := 0) (v := ?_) rfl (.inl ⟨by rfl, ?_⟩) hS0 ?_
  rotate_left
  ·intro wq hSw
   go_simp
   rfl
  simp only [Act.put, sxx]
  refine Wr.tkK (i := 1) (v := ?_) rfl (.inl ⟨by rfl, ?_⟩) hS0 ?_
  rotate_left
  ·intro wq hSw
   go_simp
   rfl
  simp only [Act.put, sxx]
  refine Wr.tkK (i := 2) (v := ?_) rfl (.inl ⟨by rfl, ?_⟩) hS0 ?_
  rotate_left
  ·intro wq hSw
   go_simp
   rfl
  simp only [Act.put, sxx]
  refine Wr.tkK (i := 3) (v := ?_) rfl (.inl ⟨by rfl, ?_⟩) hS0 ?_
  rotate_left
  ·intro wq hSw
   go_simp
   rfl
  simp only [Act.put, sxx]
  refine Wr.tkK (i := 4) (v := ?_) rfl (.inl ⟨by rfl, ?_⟩) hS0 ?_
  rotate_left
  ·intro wq hSw
   go_simp
   rfl
  simp only [Act.put, sxx]
  refine Wr.tkK (i := 5) (v := ?_) rfl (.inl ⟨by rfl, ?_⟩) hS0 ?_
  rotate_left
  ·intro wq hSw
   go_simp
   rfl
  simp only [Act.put, sxx]
  refine Wr.tkK (i := 6) (v := ?_) rfl (.inl ⟨by rfl, ?_⟩) hS0 ?_
  rotate_left
  ·intro wq hSw
   go_simp
   rfl
  simp only [Act.put, sxx]
  refine Wr.tkK (i := 7) (v := ?_) rfl (.inl ⟨by rfl, ?_⟩) hS0 ?_
  rotate_left
  ·intro wq hSw
   go_simp
   rfl
  simp only [Act.put, sxx]
  refine Wr.tkK (i := 8) (v := ?_) rfl (.inl ⟨by rfl, ?_⟩) hS0 ?_
  rotate_left
  ·intro wq hSw
   go_simp
   rfl
  simp only [Act.put, sxx]
  refine Wr.tkK (i := 9) (v := ?_) rfl (.inl ⟨by rfl, ?_⟩) hS0 ?_
  rotate_left
  ·intro wq hSw
   go_simp
   rfl
  simp only [Act.put, sxx]
  refine Wr.wpAnyK_done (by kernel_rfl) (NoPanic.normal ?_) _
  clear k1 k2 k3 k4 k5 k6
  by_cases hlt : i < m
  ·skip
   go_wp2_with fail
   refine (HC1.out (World.drew w) i (by omega) hBL0).mono ?_
   rintro e w1 ⟨u, rfl, hA⟩
   have HA := lh (acc_drew hA)
   have hb : Below w.heap.size w w1 := (acc_drew hA).bel
   have HB1 := lh hb
   clear hA hb
   go_wp2_with fail
   refine (HR2.out w1 HB1.out).mono ?_
   rintro e w2 ⟨rfl, hb⟩
   have HA2 := lh (HA.out.below hb)
   clear hb
   go_wp2_with (first | (refine wpList_store_rowA rfl _ _ _ rfl w2.heap.size Q rfl rfl _ _ (heap_new _ _) HQS.out (by rw [← HQN.out]; rfl) HQO.out ?_) | fail)
   intro u1 hu1
   have hb : Below w2.heap.size w2 u1 := by rw [hu1.out]; exact below_row bAx (Nat.le_refl _) _
   have hy : u1.heap[w2.heap.size]? = some (.cells Q 25 (0, 0)) := by rw [hu1.out]; exact setRow_at (heap_new _ _)
   clear hu1
   obtain ⟨w3, hww⟩ : ∃ w', w' = u1 := ⟨_, rfl⟩
   rw [← hww] at hb hy ⊢
   clear hww
   obtain ⟨BP, hBP⟩ := nXe (w2.heap.size)
   rw [← hBP] at hy ⊢
   clear hBP
   have HA3 := lh (HA2.out.below hb)
   have HY3 := lh hy
   clear hb hy
   go_wp2_with (first | (refine wpList_load_row rfl _ _ rfl BP rfl _ Q (0, 0) _ HY3.out Tryz.underlying25 rfl HQS.out ?_) | (at_builtin; rw [fold_row Q hQn]; go_must (refine wpList_accR tyHs hF HA3.out R2 rfl _ _ rfl rfl Q (by rw [HQe.out]; rfl) _ rfl (by first | rfl | simp) ?hl ?hb ?go)))
   case hl => rw [HL1.out]; unfold maxLen; omega
   case hb => rw [HL1.out]; omega
   case go =>
   intro v4 w4 A4
   have HA4 := lh A4
   clear A4
   go_wp2
   go_ret2
   exact ⟨_, rfl, by rw [HPL.out i hlt]; exact HA4.out⟩
  ·skip
   obtain ⟨j, hj⟩ := nXe (i - m)
   have hjm : j < m := by omega
   have hij : i = m + j := by omega
   have hji : (i : Int) - (m : Int) = (j : Int) := by omega
   have Hij := lh hij
   clear hj hij
   go_wp2_with fail
   refine (HC2.out (World.drew w) j (by omega) hBL0).mono ?_
   rintro e w1 ⟨u, rfl, hA⟩
   have HA := lh (acc_drew hA)
   have hb : Below w.heap.size w w1 := (acc_drew hA).bel
   have HB1 := lh hb
   clear hA hb
   go_wp2_with fail
   refine (HR1.out w1 HB1.out).mono ?_
   rintro e w2 ⟨rfl, hb⟩
   have HA2 := lh (HA.out.below hb)
   clear hb
   go_wp2_with (first | (refine wpList_store_rowA rfl _ _ _ rfl w2.heap.size P rfl rfl _ _ (heap_new _ _) HPS.out (by rw [← HPN.out]; rfl) HPO.out ?_) | fail)
   intro u1 hu1
   have hb : Below w2.heap.size w2 u1 := by rw [hu1.out]; exact below_row bAx (Nat.le_refl _) _
   have hy : u1.heap[w2.heap.size]? = some (.cells P 25 (0, 0)) := by rw [hu1.out]; exact setRow_at (heap_new _ _)
   clear hu1
   obtain ⟨w3, hww⟩ : ∃ w', w' = u1 := ⟨_, rfl⟩
   rw [← hww] at hb hy ⊢
   clear hww
   obtain ⟨BP, hBP⟩ := nXe (w2.heap.size)
   rw [← hBP] at hy ⊢
   clear hBP
   have HA3 := lh (HA2.out.below hb)
   have HY3 := lh hy
   clear hb hy
   go_wp2_with (first | (refine wpList_load_row rfl _ _ rfl BP rfl _ P (0, 0) _ HY3.out Tryz.underlying25 rfl HPS.out ?_) | (at_builtin; rw [fold_row P hPn]; go_must (refine wpList_accR tyHs hF HA3.out R1 rfl _ _ rfl rfl P (by rw [HPe.out]; rfl) _ rfl (by first | rfl | simp) ?hl ?hb ?go)))
   case hl => rw [HL2.out]; unfold maxLen; omega
   case hb => rw [HL2.out]; omega
   case go =>
   intro v4 w4 A4
   have HA4 := lh A4
   clear A4
   go_wp2
   go_ret2
   exact ⟨_, rfl, by rw [Hij.out, HPR.out j hjm]; exact HA4.out⟩
end Go.Proofs.YtkcikadgnnjjjaaGreatDoor.RkD
