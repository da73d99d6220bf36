/-
  WHAT IS PROVED: the statement's function that signs by any key, and verifies by any book, answers true. Condition: what each theorem names.
-/
import Derived.Test.YtkcikadgnnjjjaaGreatDoorS0
import Derived.Test.YtkcikadgnnjjjaaGreatDoorZD32
set_option linter.unusedVariables false
set_option linter.unusedSimpArgs false
set_option maxRecDepth 100000
set_option maxHeartbeats 4000000
namespace Go.Proofs.YtkcikadgnnjjjaaGreatDoor.SgD
open Go Go.RowKit Go.Shelf OctetS IdentS EntS OctP OctQ OctG IdentP EntP EventC ShaA Steps KeyA KeyS KeyI KeyK TreeA RkM RkF BookA WireS WireT WireD DlV
attribute [-go_sem] run_equalIn_agg
theorem signs_ok (w : World) (hv : VarsD w) (hk : VarsH w) (sd : ByteArray) (kh kn : Int) (hsd : sd.size ≤ maxLen) (p : Array Value) (k : Int) (r : ByteArray) (ep ix hub next : Int) (s : ByteArray) (hp : p = dlA k r ep ix hub next s) (hk0 : 0 ≤ k) (hk2 : k ≤ 255) (hr : r.size ≤ 140737488351232) (hs : s.size ≤ maxLen) (v : Value) (L : List Gr') (hb : Sl w v 36 L.length (L.flatMap Gr'.cs)) :
 Calls Tryz.prog 5 #[.agg (kyA sd kh kn), .agg p, v] w (RB (.bool true) w) := by
 obtain ⟨VR, e1, e2⟩ : ∃ (E : Int), (∀ w, VarsD w → VarsH w → Sl w v 36 L.length (L.flatMap Gr'.cs) → Calls Tryz.prog 21 #[v, .agg p] w (RB (.int .i64 E) w)) ∧ (∀ w, VarsD w → Sl w v 36 L.length (L.flatMap Gr'.cs) → Calls Tryz.prog 22 #[v, .agg p] w (RB (.int .i64 E) w)) := ⟨_, fun w hv hk hb => EgV.deal_any w p k r ep ix hub next s hp hv hk0 hk2 hr hs v L hb hk, fun w hv hb => EgD.deal2_any w p k r ep ix hub next s hp hv hk0 hk2 hr hs v L hb⟩
 have hC := fun w => RkF.Check2_ok w sd kh kn hsd
 obtain ⟨K, hK⟩ := nXe (kyA sd kh kn)
 have p1 : K[1]? = some (.int .i64 kh) := by rw [hK]; rfl
 rw [← hK] at hC ⊢
 have HKS := lh (show (Tryz.prog.info? 23).map (·.size) = some K.size by rw [hK]; kernel_rfl)
 have HpS := lh (show (Tryz.prog.info? 56).map (·.size) = some p.size by rw [show p.size = 7 by rw [hp]; rfl]; kernel_rfl)
 obtain ⟨w0, hw0⟩ := nXe ((w.alloc (.cells K 23)).alloc (.cells p 56))
 have hb0 : Below w.heap.size w w0 := by rw [hw0]; exact bAx.alloc (by simp) _
 have HK0 : Hid (w0.heap[w.heap.size]? = some (.cells K 23 (0, 0))) := lh (by rw [hw0]; exact heap_at (heap_new _ _) _)
 have HP0 : Hid (w0.heap[w.heap.size + 1]? = some (.cells p 56 (0, 0))) := lh (by rw [hw0]; exact heap_new' _ (by simp))
 have HBL0 := lh hb0
 have HW0 := lh hw0
 have HV := lh hv
 have HH := lh hk
 have HSB := lh hb
 have E1 := lh e1
 have E2 := lh e2
 have HP1c := lh p1
 clear hw0 hb0 hv hk hb e1 e2 p1
 by_cases hgood : keyB sd.size kh kn = true ∧ kh ≤ 3
 ·obtain ⟨hq, h3⟩ := hgood
  rw [hq, if_pos rfl] at hC
  have hkb : 1 ≤ sd.size ∧ sd.size ≤ 64 ∧ 0 ≤ kh ∧ kh ≤ 7 ∧ 0 ≤ kn ∧ kn ≤ ((2 ^ kh.toNat : Nat) : Int) := by
   unfold keyB at hq
   simpa only [Bool.and_eq_true, decide_eq_true_eq] using hq
  obtain ⟨hs1, hs64, hh0, hh7, hn0, hn2⟩ := hkb
  clear hq
  obtain ⟨h, rfl⟩ : ∃ h : Nat, kh = h := ⟨kh.toNat, by omega⟩
  obtain ⟨nx, rfl⟩ : ∃ n : Nat, kn = n := ⟨kn.toNat, by omega⟩
  have hh : h ≤ 7 := by omega
  have hnx : nx ≤ 2 ^ h := by
   rw [Int.toNat_natCast] at hn2
   exact Int.ofNat_le.1 hn2
  have hd3 : decide ((3 : Int) < (h : Int)) = false := decide_eq_false (by omega)
  have hd4 : decide (3 < h) = false := decide_eq_false (by omega)
  have hh3 : ¬ 3 < h := by omega
  obtain ⟨G, m, y, hS⟩ : ∃ G m y, ((G, m, y) : ByteArray × Nat × Int) = EgS.signS sd h nx (checkD (dlOf k r ep ix hub next s)) (DlS.text (dlOf k r ep ix hub next s)) s := ⟨_, _, _, rfl⟩
  have hGz := EgK.sign_size hS hs hh hnx
  obtain ⟨Q, hQ⟩ := nXe (dlA k r ep ix hub next G)
  have hQp := hQ
  have hqQ : ∀ w, (Op.equalIn 10000 56 (.agg Q) (.agg Q)).run Tryz.prog w = .ok true w := fun w => DlT.eq_self _ _ _ _ _ _ _ hQ w
  obtain ⟨VF, f1, f2⟩ : ∃ (E : Int), (∀ w, VarsD w → VarsH w → Sl w v 36 L.length (L.flatMap Gr'.cs) → Calls Tryz.prog 21 #[v, .agg Q] w (RB (.int .i64 E) w)) ∧ (∀ w, VarsD w → Sl w v 36 L.length (L.flatMap Gr'.cs) → Calls Tryz.prog 22 #[v, .agg Q] w (RB (.int .i64 E) w)) := ⟨_, fun w hv hk hb => EgV.deal_any w Q k r ep ix hub next G hQp hv hk0 hk2 hr hGz v L hb hk, fun w hv hb => EgD.deal2_any w Q k r ep ix hub next G hQp hv hk0 hk2 hr hGz v L hb⟩
  have hM := fun w hk => Make_yes w sd h nx hs1 hs64 hh hnx hk
  have hM2 := fun w => RkM.Make2_ok w sd h nx hh hs64
  rw [← hK] at hM hM2
  have hSg : ∀ (w : World) (R : Nat) (u : Value) (x : H32), w.heap[R]? = some (.cells (ringA sd h nx u x) 75 (0, 0)) → Sl w u 32 (2 ^ h) ((leavesH (bl sd) (2 ^ h)).flatMap H32.cs) → (∀ k, u.ownBlock = some k → k < w.heap.size) → VarsH w → VarsD w → Calls Tryz.prog 23 #[.pointer (some ⟨R, 0, none⟩), .agg p] w (fun e' w' => e' = .returned (.tuple #[.agg Q, .int .i64 y]) ∧ w'.heap[R]? = some (.cells (ringA sd h m u x) 75 (0, 0)) ∧ Ext (fun k => k = R) w w') := fun w R u x h1 h2 h3 h4 hv => by rw [hQ]; exact EgS.deal_sign w R sd h nx u x hs64 hh hnx h1 h2 h3 h4 p k r ep ix hub next s hp hv hk0 hk2 hr hs (G, m, y) hS
  have hSg2 : ∀ (w : World) (u : Value), VarsD w → Sl w u 32 (2 ^ h) ((leavesH (bl sd) (2 ^ h)).flatMap H32.cs) → Calls Tryz.prog 24 #[.agg (ring2 sd h nx u), .agg p] w (RB (.tuple #[.agg (ring2 sd h m u), .agg Q, .int .i64 y]) w) := fun w u hv h2 => by rw [hQ]; exact EgT.deal2_sign w sd h nx u hs64 hh hnx h2 p k r ep ix hub next s hp hv hk0 hk2 hr hs (G, m, y) hS
  obtain ⟨N, hN⟩ := nXe (2 ^ h)
  obtain ⟨K2, hK2⟩ := nXe (kyA sd h m)
  have hqK : ∀ w, (Op.equalIn 10000 23 (.agg K2) (.agg K2)).run Tryz.prog w = .ok true w := by rw [hK2]; exact EgK.eq_self sd h m
  have hKey : ∀ (w : World) (R : Nat) (u : Value) (x : H32), w.heap[R]? = some (.cells (ringA sd h m u x) 75 (0, 0)) → Calls Tryz.prog 14 #[.pointer (some ⟨R, 0, none⟩)] w (RB (.agg K2) w) := fun w R u x h1 => by rw [hK2]; exact PkS.Key_ok w R sd h m u x h1
  have HK2S := lh (show (Tryz.prog.info? 23).map (·.size) = some K2.size by rw [hK2]; kernel_rfl)
  have hK2E : ∀ (t : Value) (j : Nat) (x : Value), K2.toList[j]? = some x → (ring2 sd h m t)[0 + j]? = some x := by
   intro t j x hx
   rw [hK2] at hx
   rw [Nat.zero_add]
   match j, hx with
   | 0, hx => exact hx
   | 1, hx => exact hx
   | 2, hx => exact hx
   | (i + 3), hx => simp [kyA] at hx
  have HQN := lh (show 7 = Q.size from (show Q.size = 7 by rw [hQ]; rfl).symm)
  have HQS := lh (show (Tryz.prog.info? 56).map (·.size) = some Q.size by rw [← HQN.out]; kernel_rfl)
  have HQO := lh (show Q.all (·.oneCell') = true by rw [hQ]; exact by simp [dlA, Value.oneCell'])
  obtain ⟨Z, hZ⟩ : ∃ Z : Array Value, Z = #[.int .u8 0, .string ⟨#[]⟩, .int .i64 0, .int .i64 0, .int .i64 0, .int .i64 0, .string ⟨#[]⟩] := ⟨_, rfl⟩
  have HLIT : Hid ((#[.int .u8 0, .string ⟨#[]⟩, .int .i64 0, .int .i64 0, .int .i64 0, .int .i64 0, .string ⟨#[]⟩] : Array Value) = Z) := lh hZ.symm
  have HZN : Hid (Z.size = 7) := lh (by rw [hZ]; rfl)
  have hLl := leavesH_length (bl sd) (2 ^ h)
  have HC := lh hC
  have HM := lh hM
  have HM2 := lh hM2
  have HSg := lh hSg
  have HSg2 := lh hSg2
  have F1 := lh f1
  have F2 := lh f2
  have HqQ := lh hqQ
  have HqK := lh hqK
  have HKey := lh hKey
  have HK2E := lh hK2E
  have HN := lh hN
  have HLl := lh hLl
  clear hC hM hM2 hSg hSg2 f1 f2 hqQ hqK hKey hK2 hK2E hN hZ hQ hQp hGz hS hK hnx hn2 hn0 hh7 hh0 hs1 hs64 hsd h3 hp hr hs hLl hk0 hk2
  go_enter Tryz.func5, Tryz.ntmps5
  go_wp2_with fail
  rw [← HW0.out]
  refine (DlQ.lives_ok w0 (HV.out.below HBL0.out) (HH.out.below HBL0.out)).mono ?_
  rintro e' w1 ⟨rfl, hb⟩
  have HK1 := kpB hb HK0
  have HP1 := kpB hb HP0
  have HBL1 := tbB HBL0 hb
  clear hb
  go_wp2_with (first | (refine wpList_load_row rfl _ _ rfl w.heap.size rfl _ K (0, 0) _ HK1.out Tryz.underlying23 rfl HKS.out ?_) | fail)
  refine (HC.out w1).mono ?_
  rintro e' w2 ⟨rfl, hb⟩
  have HK2 := kpB hb HK1
  have HP2 := kpB hb HP1
  have HBL2 := tbB HBL1 hb
  clear hb
  have c1 : w2.cell? ⟨w.heap.size, 1, none⟩ = some (.int .i64 h) := (cell_row HK2.out).trans HP1c.out
  go_wp2_with (first | (refine wpList_load_row rfl _ _ rfl w.heap.size rfl _ K (0, 0) _ HK2.out Tryz.underlying23 rfl HKS.out ?_) | fail)
  refine (HM.out w2 (HH.out.below HBL2.out)).mono ?_
  rintro e' w3 ⟨R, u, rfl, hR, hb⟩
  have HK3 := kpB hb HK2
  have HP3 := kpB hb HP2
  have HBL3 := tbB HBL2 hb
  have HR := lh hR
  have hge := hR.ge
  have hlt1 := lt_row HP2.out
  have hlt2 := lt_row HK2.out
  clear hb hR c1
  go_wp2_with (first | (refine wpList_load_row rfl _ _ rfl (w.heap.size + 1) rfl _ p (0, 0) _ HP3.out Tryz.underlying56 rfl HpS.out ?_) | fail)
  refine (HSg.out w3 R u _ HR.out.row HR.out.lv.sl (fun k hk => (HR.out.lv.lt k hk).2) (HH.out.below HBL3.out) (HV.out.below HBL3.out)).mono ?_
  rintro e' w4 ⟨rfl, hr4, hE4⟩
  have HK4 := lh (hE4.blockOf HK3.out (fun h => by omega))
  have HP4 := lh (hE4.blockOf HP3.out (fun h => by omega))
  have HRR4 := lh hr4
  have HBL4 := lh (Bl.ext HBL3.out hE4 (fun k h1 h => by omega))
  clear hr4 hE4 HR
  go_wp2_with (first | (refine wpList_store_rowA rfl _ _ _ rfl w4.heap.size Q rfl rfl _ _ (heap_new _ _) HQS.out (by rw [← HQN.out]; rfl) HQO.out ?_) | fail)
  intro u5 hu5
  obtain ⟨w5, hw5⟩ := nXe (u5)
  rw [← hw5] at hu5 ⊢
  clear hw5
  have hb : Below w4.heap.size w4 w5 := by rw [hu5.out]; exact below_row bAx (Nat.le_refl _) _
  have HF5 := lh (show w5.heap[w4.heap.size]? = some (.cells Q 56 (0, 0)) by rw [hu5.out]; exact setRow_at (heap_new _ _))
  have HK5 := kpB hb HK4
  have HP5 := kpB hb HP4
  have HRR5 := kpB hb HRR4
  have HBL5 := tbB HBL4 hb
  obtain ⟨g0, hg0⟩ := nXe (w4.heap.size)
  rw [← hg0] at HF5 ⊢
  clear hb hu5 hg0 hlt1 hlt2 hge
  have lK5 := lt_row HK5.out
  have lP5 := lt_row HP5.out
  go_upto_region 9 with fail
  go_cut [11, 12, 13] from 48 to 55 (fun ta tb tc wx => ∃ (g1 g2 : Nat) (ma : Option Addr) (mc : Nat), ta = .pointer (some ⟨g1, 0, none⟩) ∧ tb = .pointer (some ⟨g2, 0, none⟩) ∧ tc = .int .i64 y ∧ wx.heap[g1]? = some (.cells (ring2 sd h m (.slice ma N mc)) 40 (0, 0)) ∧ wx.heap[g2]? = some (.cells Q 56 (0, 0)) ∧ Below w5.heap.size w5 wx)
  case first =>
   refine wp_region_noPanic ?_
   refine wp_region_held (S := (fun W => W.heap[w.heap.size]? = some (.cells K 23 (0, 0)) ∧ W.heap[w.heap.size + 1]? = some (.cells p 56 (0, 0)))) (by kernel_rfl) ?_
   change wpAnyH _ _ _ _ _ _ _ _ (World.drew w5)
   have hS0 : (World.drew w5).heap[w.heap.size]? = some (.cells K 23 (0, 0)) ∧ (World.drew w5).heap[w.heap.size + 1]? = some (.cells p 56 (0, 0)) := ⟨HK5.out, HP5.out⟩
   have HQ0 := lh (show Below w5.heap.size w5 (World.drew w5) from (Below.refl _ _).drew)
   have HSS := lh (show ∀ W, Below w5.heap.size w5 W → W.heap[w.heap.size]? = some (.cells K 23 (0, 0)) ∧ W.heap[w.heap.size + 1]? = some (.cells p 56 (0, 0)) from fun W h => ⟨(h.block _ lK5).trans HK5.out, (h.block _ lP5).trans HP5.out⟩)
   refine tkH (i := 0) (v := .agg K) rfl (.inl ⟨by rfl, fun wq hSw => EqHash.exec_load_row 23 _ rfl _ rfl hSw.1 Tryz.underlying23 rfl HKS.out⟩) hS0 ?_
   simp only [Act.put, sxx]
   refine tkH (i := 2) (v := .agg p) rfl (.inl ⟨by rfl, fun wq hSw => EqHash.exec_load_row 56 _ rfl _ rfl hSw.2 Tryz.underlying56 rfl HpS.out⟩) hS0 ?_
   simp only [Act.put, sxx]
   refine wpAnyH_all (rs := [1, 8, 9]) (by kernel_rfl) (by simp) ?_
   intro i hi
   simp only [List.mem_cons, List.not_mem_nil, or_false] at hi
   rcases hi with rfl | rfl | rfl
   refine wpOp_call rfl (by rfl) (by go_simp; all_goals (and_intros <;> rfl)) ?_
   refine (HM2.out (World.drew w5)).mono ?_
   rintro e' x1 ⟨mv, rfl, hA⟩
   have hb := hA.bel
   have hsl := hA.sl
   rw [HLl.out] at hsl
   obtain ⟨ma, mc, rfl, _, _⟩ := hsl.form
   have HSl1 := lh hsl
   clear hA hsl
   rw [← HN.out]
   have HQ1 := tbB HQ0 hb
   have hS1 := HSS.out _ HQ1.out
   clear hb
   refine ⟨_, rfl, ?_, ?_⟩
   ·exact hS1
   simp only [Act.put, sxx]
   refine wpAnyH_all (rs := [3, 8, 9]) (by kernel_rfl) (by simp) ?_
   intro i hi
   simp only [List.mem_cons, List.not_mem_nil, or_false] at hi
   rcases hi with rfl | rfl | rfl
   have h9 := HSg2.out x1 (.slice ma (2 ^ h) mc) (HV.out.below (HBL5.out.trans (HQ1.out.mono HBL5.out.size))) HSl1.out
   rw [← HN.out] at h9
   obtain ⟨E, hE⟩ := nXe (ring2 sd h m (.slice ma N mc))
   rw [← hE] at h9
   have HES := lh (show (Tryz.prog.info? 40).map (·.size) = some E.size by rw [hE]; kernel_rfl)
   have HEN := lh (show 4 = E.size by rw [hE]; rfl)
   have HEO := lh (show E.all (·.oneCell') = true by rw [hE]; simp [ring2, Value.oneCell'])
   have HEe := lh hE
   clear hE
   refine wpOp_call rfl (by rfl) (by go_simp; all_goals (and_intros <;> rfl)) ?_
   refine h9.mono ?_
   clear h9
   rintro e' x2 ⟨rfl, hb⟩
   have HQ2 := tbB HQ1 hb
   have hS2 := HSS.out _ HQ2.out
   clear hb
   refine ⟨_, rfl, ?_, ?_⟩
   ·exact hS2
   simp only [Act.put, sxx]
   refine tkH (i := 4) (v := ?_) rfl (.inl ⟨by rfl, ?_⟩) hS2 ?_
   rotate_left
   ·intro wq hSw
    go_simp
    rfl
   simp only [Act.put, sxx]
   refine tkH (i := 5) (v := ?_) rfl (.inl ⟨by rfl, ?_⟩) hS2 ?_
   rotate_left
   ·intro wq hSw
    go_simp
    rfl
   simp only [Act.put, sxx]
   refine tkH (i := 6) (v := ?_) rfl (.inl ⟨by rfl, ?_⟩) hS2 ?_
   rotate_left
   ·intro wq hSw
    go_simp
    rfl
   simp only [Act.put, sxx]
   refine tkH (i := 7) (v := ?_) rfl (.inl ⟨by rfl, ?_⟩) hS2 ?_
   rotate_left
   ·intro wq hSw
    go_simp
    rfl
   simp only [Act.put, sxx]
   refine wpAnyH_all (rs := [8, 9]) (by kernel_rfl) (by simp) ?_
   intro i hi
   simp only [List.mem_cons, List.not_mem_nil, or_false] at hi
   rcases hi with rfl | rfl
   refine wpOp_run rfl (by rfl) (w' := x2.alloc (.cells #[.string ⟨#[]⟩, .int .i64 0, .int .i64 0, .slice none 0 0] 40)) (v := .pointer (some ⟨x2.heap.size, 0, none⟩)) (by go_simp; first | done | rfl) ?_
   obtain ⟨x3, hw⟩ := nXe (x2.alloc (.cells #[.string ⟨#[]⟩, .int .i64 0, .int .i64 0, .slice none 0 0] 40))
   rw [← hw]
   have hb : Below x2.heap.size x2 x3 := by rw [hw]; exact bAx
   have HN3 := lh (show x3.heap[x2.heap.size]? = some (.cells #[.string ⟨#[]⟩, .int .i64 0, .int .i64 0, .slice none 0 0] 40 (0, 0)) by rw [hw]; exact heap_new' _ rfl)
   obtain ⟨g1, hge⟩ := nXe (x2.heap.size)
   rw [← hge] at HN3 ⊢
   have hg1 : w5.heap.size ≤ g1 := by rw [hge]; exact HQ2.out.size
   clear hw hge
   have HQ3 := tbB HQ2 hb
   have hS3 := HSS.out _ HQ3.out
   clear hb
   refine ⟨hS3, ?_⟩
   simp only [Act.put, sxx]
   refine aOne (r := 9) ?_
   refine wpOp_run rfl (by rfl) (w' := x3.alloc (.cells Z 56)) (v := .pointer (some ⟨x3.heap.size, 0, none⟩)) (by rw [← HLIT.out]; go_simp; first | done | rfl) ?_
   obtain ⟨x4, hw⟩ := nXe (x3.alloc (.cells Z 56))
   rw [← hw]
   have hb : Below x3.heap.size x3 x4 := by rw [hw]; exact bAx
   have HN4 := lh (show x4.heap[x3.heap.size]? = some (.cells Z 56 (0, 0)) by rw [hw]; exact heap_new' _ rfl)
   obtain ⟨g2, hge⟩ := nXe (x3.heap.size)
   rw [← hge] at HN4 ⊢
   have hg2 : w5.heap.size ≤ g2 := by rw [hge]; exact HQ3.out.size
   have hne : g1 ≠ g2 := by have := lt_row HN3.out; omega
   clear hw hge
   have HNg14 := kpB hb HN3
   have HQ4 := tbB HQ3 hb
   have hS4 := HSS.out _ HQ4.out
   clear hb
   refine ⟨hS4, ?_⟩
   simp only [Act.put, sxx]
   have Hg1 := HNg14
   have Hg2 := HN4
   have HQz := HQ4
   rotate_left
   refine wpOp_run rfl (by rfl) (w' := x2.alloc (.cells Z 56)) (v := .pointer (some ⟨x2.heap.size, 0, none⟩)) (by rw [← HLIT.out]; go_simp; first | done | rfl) ?_
   obtain ⟨x5, hw⟩ := nXe (x2.alloc (.cells Z 56))
   rw [← hw]
   have hb : Below x2.heap.size x2 x5 := by rw [hw]; exact bAx
   have HN5 := lh (show x5.heap[x2.heap.size]? = some (.cells Z 56 (0, 0)) by rw [hw]; exact heap_new' _ rfl)
   obtain ⟨g2, hge⟩ := nXe (x2.heap.size)
   rw [← hge] at HN5 ⊢
   have hg2 : w5.heap.size ≤ g2 := by rw [hge]; exact HQ2.out.size
   clear hw hge
   have HQ5 := tbB HQ2 hb
   have hS5 := HSS.out _ HQ5.out
   clear hb
   refine ⟨hS5, ?_⟩
   simp only [Act.put, sxx]
   refine aOne (r := 8) ?_
   refine wpOp_run rfl (by rfl) (w' := x5.alloc (.cells #[.string ⟨#[]⟩, .int .i64 0, .int .i64 0, .slice none 0 0] 40)) (v := .pointer (some ⟨x5.heap.size, 0, none⟩)) (by go_simp; first | done | rfl) ?_
   obtain ⟨x6, hw⟩ := nXe (x5.alloc (.cells #[.string ⟨#[]⟩, .int .i64 0, .int .i64 0, .slice none 0 0] 40))
   rw [← hw]
   have hb : Below x5.heap.size x5 x6 := by rw [hw]; exact bAx
   have HN6 := lh (show x6.heap[x5.heap.size]? = some (.cells #[.string ⟨#[]⟩, .int .i64 0, .int .i64 0, .slice none 0 0] 40 (0, 0)) by rw [hw]; exact heap_new' _ rfl)
   obtain ⟨g1, hge⟩ := nXe (x5.heap.size)
   rw [← hge] at HN6 ⊢
   have hg1 : w5.heap.size ≤ g1 := by rw [hge]; exact HQ5.out.size
   have hne : g1 ≠ g2 := by have := lt_row HN5.out; omega
   clear hw hge
   have HNg26 := kpB hb HN5
   have HQ6 := tbB HQ5 hb
   have hS6 := HSS.out _ HQ6.out
   clear hb
   refine ⟨hS6, ?_⟩
   simp only [Act.put, sxx]
   have Hg1 := HN6
   have Hg2 := HNg26
   have HQz := HQ6
   rotate_left
   refine wpOp_run rfl (by rfl) (w' := x1.alloc (.cells #[.string ⟨#[]⟩, .int .i64 0, .int .i64 0, .slice none 0 0] 40)) (v := .pointer (some ⟨x1.heap.size, 0, none⟩)) (by go_simp; first | done | rfl) ?_
   obtain ⟨x7, hw⟩ := nXe (x1.alloc (.cells #[.string ⟨#[]⟩, .int .i64 0, .int .i64 0, .slice none 0 0] 40))
   rw [← hw]
   have hb : Below x1.heap.size x1 x7 := by rw [hw]; exact bAx
   have HN7 := lh (show x7.heap[x1.heap.size]? = some (.cells #[.string ⟨#[]⟩, .int .i64 0, .int .i64 0, .slice none 0 0] 40 (0, 0)) by rw [hw]; exact heap_new' _ rfl)
   obtain ⟨g1, hge⟩ := nXe (x1.heap.size)
   rw [← hge] at HN7 ⊢
   have hg1 : w5.heap.size ≤ g1 := by rw [hge]; exact HQ1.out.size
   clear hw hge
   have HSl7 := lh (HSl1.out.below hb)
   have HQ7 := tbB HQ1 hb
   have hS7 := HSS.out _ HQ7.out
   clear hb
   refine ⟨hS7, ?_⟩
   simp only [Act.put, sxx]
   refine wpAnyH_all (rs := [3, 9]) (by kernel_rfl) (by simp) ?_
   intro i hi
   simp only [List.mem_cons, List.not_mem_nil, or_false] at hi
   rcases hi with rfl | rfl
   have h9 := HSg2.out x7 (.slice ma (2 ^ h) mc) (HV.out.below (HBL5.out.trans (HQ7.out.mono HBL5.out.size))) HSl7.out
   rw [← HN.out] at h9
   obtain ⟨E, hE⟩ := nXe (ring2 sd h m (.slice ma N mc))
   rw [← hE] at h9
   have HES := lh (show (Tryz.prog.info? 40).map (·.size) = some E.size by rw [hE]; kernel_rfl)
   have HEN := lh (show 4 = E.size by rw [hE]; rfl)
   have HEO := lh (show E.all (·.oneCell') = true by rw [hE]; simp [ring2, Value.oneCell'])
   have HEe := lh hE
   clear hE
   refine wpOp_call rfl (by rfl) (by go_simp; all_goals (and_intros <;> rfl)) ?_
   refine h9.mono ?_
   clear h9
   rintro e' x8 ⟨rfl, hb⟩
   have HNg18 := kpB hb HN7
   have HQ8 := tbB HQ7 hb
   have hS8 := HSS.out _ HQ8.out
   clear hb
   refine ⟨_, rfl, ?_, ?_⟩
   ·exact hS8
   simp only [Act.put, sxx]
   refine tkH (i := 4) (v := ?_) rfl (.inl ⟨by rfl, ?_⟩) hS8 ?_
   rotate_left
   ·intro wq hSw
    go_simp
    rfl
   simp only [Act.put, sxx]
   refine tkH (i := 5) (v := ?_) rfl (.inl ⟨by rfl, ?_⟩) hS8 ?_
   rotate_left
   ·intro wq hSw
    go_simp
    rfl
   simp only [Act.put, sxx]
   refine tkH (i := 6) (v := ?_) rfl (.inl ⟨by rfl, ?_⟩) hS8 ?_
   rotate_left
   ·intro wq hSw
    go_simp
    rfl
   simp only [Act.put, sxx]
   refine tkH (i := 7) (v := ?_) rfl (.inl ⟨by rfl, ?_⟩) hS8 ?_
   rotate_left
   ·intro wq hSw
    go_simp
    rfl
   simp only [Act.put, sxx]
   refine aOne (r := 9) ?_
   refine wpOp_run rfl (by rfl) (w' := x8.alloc (.cells Z 56)) (v := .pointer (some ⟨x8.heap.size, 0, none⟩)) (by rw [← HLIT.out]; go_simp; first | done | rfl) ?_
   obtain ⟨x9, hw⟩ := nXe (x8.alloc (.cells Z 56))
   rw [← hw]
   have hb : Below x8.heap.size x8 x9 := by rw [hw]; exact bAx
   have HN9 := lh (show x9.heap[x8.heap.size]? = some (.cells Z 56 (0, 0)) by rw [hw]; exact heap_new' _ rfl)
   obtain ⟨g2, hge⟩ := nXe (x8.heap.size)
   rw [← hge] at HN9 ⊢
   have hg2 : w5.heap.size ≤ g2 := by rw [hge]; exact HQ8.out.size
   have hne : g1 ≠ g2 := by have := lt_row HNg18.out; omega
   clear hw hge
   have HNg19 := kpB hb HNg18
   have HQ9 := tbB HQ8 hb
   have hS9 := HSS.out _ HQ9.out
   clear hb
   refine ⟨hS9, ?_⟩
   simp only [Act.put, sxx]
   have Hg1 := HNg19
   have Hg2 := HN9
   have HQz := HQ9
   rotate_left
   refine wpOp_run rfl (by rfl) (w' := x7.alloc (.cells Z 56)) (v := .pointer (some ⟨x7.heap.size, 0, none⟩)) (by rw [← HLIT.out]; go_simp; first | done | rfl) ?_
   obtain ⟨x10, hw⟩ := nXe (x7.alloc (.cells Z 56))
   rw [← hw]
   have hb : Below x7.heap.size x7 x10 := by rw [hw]; exact bAx
   have HN10 := lh (show x10.heap[x7.heap.size]? = some (.cells Z 56 (0, 0)) by rw [hw]; exact heap_new' _ rfl)
   obtain ⟨g2, hge⟩ := nXe (x7.heap.size)
   rw [← hge] at HN10 ⊢
   have hg2 : w5.heap.size ≤ g2 := by rw [hge]; exact HQ7.out.size
   have hne : g1 ≠ g2 := by have := lt_row HN7.out; omega
   clear hw hge
   have HNg110 := kpB hb HN7
   have HSl10 := lh (HSl7.out.below hb)
   have HQ10 := tbB HQ7 hb
   have hS10 := HSS.out _ HQ10.out
   clear hb
   refine ⟨hS10, ?_⟩
   simp only [Act.put, sxx]
   refine aOne (r := 3) ?_
   have h9 := HSg2.out x10 (.slice ma (2 ^ h) mc) (HV.out.below (HBL5.out.trans (HQ10.out.mono HBL5.out.size))) HSl10.out
   rw [← HN.out] at h9
   obtain ⟨E, hE⟩ := nXe (ring2 sd h m (.slice ma N mc))
   rw [← hE] at h9
   have HES := lh (show (Tryz.prog.info? 40).map (·.size) = some E.size by rw [hE]; kernel_rfl)
   have HEN := lh (show 4 = E.size by rw [hE]; rfl)
   have HEO := lh (show E.all (·.oneCell') = true by rw [hE]; simp [ring2, Value.oneCell'])
   have HEe := lh hE
   clear hE
   refine wpOp_call rfl (by rfl) (by go_simp; all_goals (and_intros <;> rfl)) ?_
   refine h9.mono ?_
   clear h9
   rintro e' x11 ⟨rfl, hb⟩
   have HNg111 := kpB hb HNg110
   have HNg211 := kpB hb HN10
   have HQ11 := tbB HQ10 hb
   have hS11 := HSS.out _ HQ11.out
   clear hb
   refine ⟨_, rfl, ?_, ?_⟩
   ·exact hS11
   simp only [Act.put, sxx]
   refine tkH (i := 4) (v := ?_) rfl (.inl ⟨by rfl, ?_⟩) hS11 ?_
   rotate_left
   ·intro wq hSw
    go_simp
    rfl
   simp only [Act.put, sxx]
   refine tkH (i := 5) (v := ?_) rfl (.inl ⟨by rfl, ?_⟩) hS11 ?_
   rotate_left
   ·intro wq hSw
    go_simp
    rfl
   simp only [Act.put, sxx]
   refine tkH (i := 6) (v := ?_) rfl (.inl ⟨by rfl, ?_⟩) hS11 ?_
   rotate_left
   ·intro wq hSw
    go_simp
    rfl
   simp only [Act.put, sxx]
   refine tkH (i := 7) (v := ?_) rfl (.inl ⟨by rfl, ?_⟩) hS11 ?_
   rotate_left
   ·intro wq hSw
    go_simp
    rfl
   simp only [Act.put, sxx]
   have Hg1 := HNg111
   have Hg2 := HNg211
   have HQz := HQ11
   rotate_left
   refine wpOp_run rfl (by rfl) (w' := x1.alloc (.cells Z 56)) (v := .pointer (some ⟨x1.heap.size, 0, none⟩)) (by rw [← HLIT.out]; go_simp; first | done | rfl) ?_
   obtain ⟨x12, hw⟩ := nXe (x1.alloc (.cells Z 56))
   rw [← hw]
   have hb : Below x1.heap.size x1 x12 := by rw [hw]; exact bAx
   have HN12 := lh (show x12.heap[x1.heap.size]? = some (.cells Z 56 (0, 0)) by rw [hw]; exact heap_new' _ rfl)
   obtain ⟨g2, hge⟩ := nXe (x1.heap.size)
   rw [← hge] at HN12 ⊢
   have hg2 : w5.heap.size ≤ g2 := by rw [hge]; exact HQ1.out.size
   clear hw hge
   have HSl12 := lh (HSl1.out.below hb)
   have HQ12 := tbB HQ1 hb
   have hS12 := HSS.out _ HQ12.out
   clear hb
   refine ⟨hS12, ?_⟩
   simp only [Act.put, sxx]
   refine wpAnyH_all (rs := [3, 8]) (by kernel_rfl) (by simp) ?_
   intro i hi
   simp only [List.mem_cons, List.not_mem_nil, or_false] at hi
   rcases hi with rfl | rfl
   have h9 := HSg2.out x12 (.slice ma (2 ^ h) mc) (HV.out.below (HBL5.out.trans (HQ12.out.mono HBL5.out.size))) HSl12.out
   rw [← HN.out] at h9
   obtain ⟨E, hE⟩ := nXe (ring2 sd h m (.slice ma N mc))
   rw [← hE] at h9
   have HES := lh (show (Tryz.prog.info? 40).map (·.size) = some E.size by rw [hE]; kernel_rfl)
   have HEN := lh (show 4 = E.size by rw [hE]; rfl)
   have HEO := lh (show E.all (·.oneCell') = true by rw [hE]; simp [ring2, Value.oneCell'])
   have HEe := lh hE
   clear hE
   refine wpOp_call rfl (by rfl) (by go_simp; all_goals (and_intros <;> rfl)) ?_
   refine h9.mono ?_
   clear h9
   rintro e' x13 ⟨rfl, hb⟩
   have HNg213 := kpB hb HN12
   have HQ13 := tbB HQ12 hb
   have hS13 := HSS.out _ HQ13.out
   clear hb
   refine ⟨_, rfl, ?_, ?_⟩
   ·exact hS13
   simp only [Act.put, sxx]
   refine tkH (i := 4) (v := ?_) rfl (.inl ⟨by rfl, ?_⟩) hS13 ?_
   rotate_left
   ·intro wq hSw
    go_simp
    rfl
   simp only [Act.put, sxx]
   refine tkH (i := 5) (v := ?_) rfl (.inl ⟨by rfl, ?_⟩) hS13 ?_
   rotate_left
   ·intro wq hSw
    go_simp
    rfl
   simp only [Act.put, sxx]
   refine tkH (i := 6) (v := ?_) rfl (.inl ⟨by rfl, ?_⟩) hS13 ?_
   rotate_left
   ·intro wq hSw
    go_simp
    rfl
   simp only [Act.put, sxx]
   refine tkH (i := 7) (v := ?_) rfl (.inl ⟨by rfl, ?_⟩) hS13 ?_
   rotate_left
   ·intro wq hSw
    go_simp
    rfl
   simp only [Act.put, sxx]
   refine aOne (r := 8) ?_
   refine wpOp_run rfl (by rfl) (w' := x13.alloc (.cells #[.string ⟨#[]⟩, .int .i64 0, .int .i64 0, .slice none 0 0] 40)) (v := .pointer (some ⟨x13.heap.size, 0, none⟩)) (by go_simp; first | done | rfl) ?_
   obtain ⟨x14, hw⟩ := nXe (x13.alloc (.cells #[.string ⟨#[]⟩, .int .i64 0, .int .i64 0, .slice none 0 0] 40))
   rw [← hw]
   have hb : Below x13.heap.size x13 x14 := by rw [hw]; exact bAx
   have HN14 := lh (show x14.heap[x13.heap.size]? = some (.cells #[.string ⟨#[]⟩, .int .i64 0, .int .i64 0, .slice none 0 0] 40 (0, 0)) by rw [hw]; exact heap_new' _ rfl)
   obtain ⟨g1, hge⟩ := nXe (x13.heap.size)
   rw [← hge] at HN14 ⊢
   have hg1 : w5.heap.size ≤ g1 := by rw [hge]; exact HQ13.out.size
   have hne : g1 ≠ g2 := by have := lt_row HNg213.out; omega
   clear hw hge
   have HNg214 := kpB hb HNg213
   have HQ14 := tbB HQ13 hb
   have hS14 := HSS.out _ HQ14.out
   clear hb
   refine ⟨hS14, ?_⟩
   simp only [Act.put, sxx]
   have Hg1 := HN14
   have Hg2 := HNg214
   have HQz := HQ14
   rotate_left
   refine wpOp_run rfl (by rfl) (w' := x12.alloc (.cells #[.string ⟨#[]⟩, .int .i64 0, .int .i64 0, .slice none 0 0] 40)) (v := .pointer (some ⟨x12.heap.size, 0, none⟩)) (by go_simp; first | done | rfl) ?_
   obtain ⟨x15, hw⟩ := nXe (x12.alloc (.cells #[.string ⟨#[]⟩, .int .i64 0, .int .i64 0, .slice none 0 0] 40))
   rw [← hw]
   have hb : Below x12.heap.size x12 x15 := by rw [hw]; exact bAx
   have HN15 := lh (show x15.heap[x12.heap.size]? = some (.cells #[.string ⟨#[]⟩, .int .i64 0, .int .i64 0, .slice none 0 0] 40 (0, 0)) by rw [hw]; exact heap_new' _ rfl)
   obtain ⟨g1, hge⟩ := nXe (x12.heap.size)
   rw [← hge] at HN15 ⊢
   have hg1 : w5.heap.size ≤ g1 := by rw [hge]; exact HQ12.out.size
   have hne : g1 ≠ g2 := by have := lt_row HN12.out; omega
   clear hw hge
   have HNg215 := kpB hb HN12
   have HSl15 := lh (HSl12.out.below hb)
   have HQ15 := tbB HQ12 hb
   have hS15 := HSS.out _ HQ15.out
   clear hb
   refine ⟨hS15, ?_⟩
   simp only [Act.put, sxx]
   refine aOne (r := 3) ?_
   have h9 := HSg2.out x15 (.slice ma (2 ^ h) mc) (HV.out.below (HBL5.out.trans (HQ15.out.mono HBL5.out.size))) HSl15.out
   rw [← HN.out] at h9
   obtain ⟨E, hE⟩ := nXe (ring2 sd h m (.slice ma N mc))
   rw [← hE] at h9
   have HES := lh (show (Tryz.prog.info? 40).map (·.size) = some E.size by rw [hE]; kernel_rfl)
   have HEN := lh (show 4 = E.size by rw [hE]; rfl)
   have HEO := lh (show E.all (·.oneCell') = true by rw [hE]; simp [ring2, Value.oneCell'])
   have HEe := lh hE
   clear hE
   refine wpOp_call rfl (by rfl) (by go_simp; all_goals (and_intros <;> rfl)) ?_
   refine h9.mono ?_
   clear h9
   rintro e' x16 ⟨rfl, hb⟩
   have HNg116 := kpB hb HN15
   have HNg216 := kpB hb HNg215
   have HQ16 := tbB HQ15 hb
   have hS16 := HSS.out _ HQ16.out
   clear hb
   refine ⟨_, rfl, ?_, ?_⟩
   ·exact hS16
   simp only [Act.put, sxx]
   refine tkH (i := 4) (v := ?_) rfl (.inl ⟨by rfl, ?_⟩) hS16 ?_
   rotate_left
   ·intro wq hSw
    go_simp
    rfl
   simp only [Act.put, sxx]
   refine tkH (i := 5) (v := ?_) rfl (.inl ⟨by rfl, ?_⟩) hS16 ?_
   rotate_left
   ·intro wq hSw
    go_simp
    rfl
   simp only [Act.put, sxx]
   refine tkH (i := 6) (v := ?_) rfl (.inl ⟨by rfl, ?_⟩) hS16 ?_
   rotate_left
   ·intro wq hSw
    go_simp
    rfl
   simp only [Act.put, sxx]
   refine tkH (i := 7) (v := ?_) rfl (.inl ⟨by rfl, ?_⟩) hS16 ?_
   rotate_left
   ·intro wq hSw
    go_simp
    rfl
   simp only [Act.put, sxx]
   have Hg1 := HNg116
   have Hg2 := HNg216
   have HQz := HQ16
   rotate_left
   refine wpOp_run rfl (by rfl) (w' := (World.drew w5).alloc (.cells #[.string ⟨#[]⟩, .int .i64 0, .int .i64 0, .slice none 0 0] 40)) (v := .pointer (some ⟨w5.heap.size, 0, none⟩)) (by go_simp; first | done | rfl) ?_
   obtain ⟨x17, hw⟩ := nXe ((World.drew w5).alloc (.cells #[.string ⟨#[]⟩, .int .i64 0, .int .i64 0, .slice none 0 0] 40))
   rw [← hw]
   have hb : Below (World.drew w5).heap.size (World.drew w5) x17 := by rw [hw]; exact bAx
   have HN17 := lh (show x17.heap[w5.heap.size]? = some (.cells #[.string ⟨#[]⟩, .int .i64 0, .int .i64 0, .slice none 0 0] 40 (0, 0)) by rw [hw]; exact heap_new' _ rfl)
   obtain ⟨g1, hge⟩ := nXe (w5.heap.size)
   rw [← hge] at HN17 ⊢
   have hg1 : w5.heap.size ≤ g1 := by rw [hge]; exact HQ0.out.size
   clear hw hge
   have HQ17 := tbB HQ0 hb
   have hS17 := HSS.out _ HQ17.out
   clear hb
   refine ⟨hS17, ?_⟩
   simp only [Act.put, sxx]
   refine wpAnyH_all (rs := [1, 9]) (by kernel_rfl) (by simp) ?_
   intro i hi
   simp only [List.mem_cons, List.not_mem_nil, or_false] at hi
   rcases hi with rfl | rfl
   refine wpOp_call rfl (by rfl) (by go_simp; all_goals (and_intros <;> rfl)) ?_
   refine (HM2.out x17).mono ?_
   rintro e' x18 ⟨mv, rfl, hA⟩
   have hb := hA.bel
   have hsl := hA.sl
   rw [HLl.out] at hsl
   obtain ⟨ma, mc, rfl, _, _⟩ := hsl.form
   have HSl18 := lh hsl
   clear hA hsl
   rw [← HN.out]
   have HNg118 := kpB hb HN17
   have HQ18 := tbB HQ17 hb
   have hS18 := HSS.out _ HQ18.out
   clear hb
   refine ⟨_, rfl, ?_, ?_⟩
   ·exact hS18
   simp only [Act.put, sxx]
   refine wpAnyH_all (rs := [3, 9]) (by kernel_rfl) (by simp) ?_
   intro i hi
   simp only [List.mem_cons, List.not_mem_nil, or_false] at hi
   rcases hi with rfl | rfl
   have h9 := HSg2.out x18 (.slice ma (2 ^ h) mc) (HV.out.below (HBL5.out.trans (HQ18.out.mono HBL5.out.size))) HSl18.out
   rw [← HN.out] at h9
   obtain ⟨E, hE⟩ := nXe (ring2 sd h m (.slice ma N mc))
   rw [← hE] at h9
   have HES := lh (show (Tryz.prog.info? 40).map (·.size) = some E.size by rw [hE]; kernel_rfl)
   have HEN := lh (show 4 = E.size by rw [hE]; rfl)
   have HEO := lh (show E.all (·.oneCell') = true by rw [hE]; simp [ring2, Value.oneCell'])
   have HEe := lh hE
   clear hE
   refine wpOp_call rfl (by rfl) (by go_simp; all_goals (and_intros <;> rfl)) ?_
   refine h9.mono ?_
   clear h9
   rintro e' x19 ⟨rfl, hb⟩
   have HNg119 := kpB hb HNg118
   have HQ19 := tbB HQ18 hb
   have hS19 := HSS.out _ HQ19.out
   clear hb
   refine ⟨_, rfl, ?_, ?_⟩
   ·exact hS19
   simp only [Act.put, sxx]
   refine tkH (i := 4) (v := ?_) rfl (.inl ⟨by rfl, ?_⟩) hS19 ?_
   rotate_left
   ·intro wq hSw
    go_simp
    rfl
   simp only [Act.put, sxx]
   refine tkH (i := 5) (v := ?_) rfl (.inl ⟨by rfl, ?_⟩) hS19 ?_
   rotate_left
   ·intro wq hSw
    go_simp
    rfl
   simp only [Act.put, sxx]
   refine tkH (i := 6) (v := ?_) rfl (.inl ⟨by rfl, ?_⟩) hS19 ?_
   rotate_left
   ·intro wq hSw
    go_simp
    rfl
   simp only [Act.put, sxx]
   refine tkH (i := 7) (v := ?_) rfl (.inl ⟨by rfl, ?_⟩) hS19 ?_
   rotate_left
   ·intro wq hSw
    go_simp
    rfl
   simp only [Act.put, sxx]
   refine aOne (r := 9) ?_
   refine wpOp_run rfl (by rfl) (w' := x19.alloc (.cells Z 56)) (v := .pointer (some ⟨x19.heap.size, 0, none⟩)) (by rw [← HLIT.out]; go_simp; first | done | rfl) ?_
   obtain ⟨x20, hw⟩ := nXe (x19.alloc (.cells Z 56))
   rw [← hw]
   have hb : Below x19.heap.size x19 x20 := by rw [hw]; exact bAx
   have HN20 := lh (show x20.heap[x19.heap.size]? = some (.cells Z 56 (0, 0)) by rw [hw]; exact heap_new' _ rfl)
   obtain ⟨g2, hge⟩ := nXe (x19.heap.size)
   rw [← hge] at HN20 ⊢
   have hg2 : w5.heap.size ≤ g2 := by rw [hge]; exact HQ19.out.size
   have hne : g1 ≠ g2 := by have := lt_row HNg119.out; omega
   clear hw hge
   have HNg120 := kpB hb HNg119
   have HQ20 := tbB HQ19 hb
   have hS20 := HSS.out _ HQ20.out
   clear hb
   refine ⟨hS20, ?_⟩
   simp only [Act.put, sxx]
   have Hg1 := HNg120
   have Hg2 := HN20
   have HQz := HQ20
   rotate_left
   refine wpOp_run rfl (by rfl) (w' := x18.alloc (.cells Z 56)) (v := .pointer (some ⟨x18.heap.size, 0, none⟩)) (by rw [← HLIT.out]; go_simp; first | done | rfl) ?_
   obtain ⟨x21, hw⟩ := nXe (x18.alloc (.cells Z 56))
   rw [← hw]
   have hb : Below x18.heap.size x18 x21 := by rw [hw]; exact bAx
   have HN21 := lh (show x21.heap[x18.heap.size]? = some (.cells Z 56 (0, 0)) by rw [hw]; exact heap_new' _ rfl)
   obtain ⟨g2, hge⟩ := nXe (x18.heap.size)
   rw [← hge] at HN21 ⊢
   have hg2 : w5.heap.size ≤ g2 := by rw [hge]; exact HQ18.out.size
   have hne : g1 ≠ g2 := by have := lt_row HNg118.out; omega
   clear hw hge
   have HNg121 := kpB hb HNg118
   have HSl21 := lh (HSl18.out.below hb)
   have HQ21 := tbB HQ18 hb
   have hS21 := HSS.out _ HQ21.out
   clear hb
   refine ⟨hS21, ?_⟩
   simp only [Act.put, sxx]
   refine aOne (r := 3) ?_
   have h9 := HSg2.out x21 (.slice ma (2 ^ h) mc) (HV.out.below (HBL5.out.trans (HQ21.out.mono HBL5.out.size))) HSl21.out
   rw [← HN.out] at h9
   obtain ⟨E, hE⟩ := nXe (ring2 sd h m (.slice ma N mc))
   rw [← hE] at h9
   have HES := lh (show (Tryz.prog.info? 40).map (·.size) = some E.size by rw [hE]; kernel_rfl)
   have HEN := lh (show 4 = E.size by rw [hE]; rfl)
   have HEO := lh (show E.all (·.oneCell') = true by rw [hE]; simp [ring2, Value.oneCell'])
   have HEe := lh hE
   clear hE
   refine wpOp_call rfl (by rfl) (by go_simp; all_goals (and_intros <;> rfl)) ?_
   refine h9.mono ?_
   clear h9
   rintro e' x22 ⟨rfl, hb⟩
   have HNg122 := kpB hb HNg121
   have HNg222 := kpB hb HN21
   have HQ22 := tbB HQ21 hb
   have hS22 := HSS.out _ HQ22.out
   clear hb
   refine ⟨_, rfl, ?_, ?_⟩
   ·exact hS22
   simp only [Act.put, sxx]
   refine tkH (i := 4) (v := ?_) rfl (.inl ⟨by rfl, ?_⟩) hS22 ?_
   rotate_left
   ·intro wq hSw
    go_simp
    rfl
   simp only [Act.put, sxx]
   refine tkH (i := 5) (v := ?_) rfl (.inl ⟨by rfl, ?_⟩) hS22 ?_
   rotate_left
   ·intro wq hSw
    go_simp
    rfl
   simp only [Act.put, sxx]
   refine tkH (i := 6) (v := ?_) rfl (.inl ⟨by rfl, ?_⟩) hS22 ?_
   rotate_left
   ·intro wq hSw
    go_simp
    rfl
   simp only [Act.put, sxx]
   refine tkH (i := 7) (v := ?_) rfl (.inl ⟨by rfl, ?_⟩) hS22 ?_
   rotate_left
   ·intro wq hSw
    go_simp
    rfl
   simp only [Act.put, sxx]
   have Hg1 := HNg122
   have Hg2 := HNg222
   have HQz := HQ22
   rotate_left
   refine wpOp_run rfl (by rfl) (w' := x17.alloc (.cells Z 56)) (v := .pointer (some ⟨x17.heap.size, 0, none⟩)) (by rw [← HLIT.out]; go_simp; first | done | rfl) ?_
   obtain ⟨x23, hw⟩ := nXe (x17.alloc (.cells Z 56))
   rw [← hw]
   have hb : Below x17.heap.size x17 x23 := by rw [hw]; exact bAx
   have HN23 := lh (show x23.heap[x17.heap.size]? = some (.cells Z 56 (0, 0)) by rw [hw]; exact heap_new' _ rfl)
   obtain ⟨g2, hge⟩ := nXe (x17.heap.size)
   rw [← hge] at HN23 ⊢
   have hg2 : w5.heap.size ≤ g2 := by rw [hge]; exact HQ17.out.size
   have hne : g1 ≠ g2 := by have := lt_row HN17.out; omega
   clear hw hge
   have HNg123 := kpB hb HN17
   have HQ23 := tbB HQ17 hb
   have hS23 := HSS.out _ HQ23.out
   clear hb
   refine ⟨hS23, ?_⟩
   simp only [Act.put, sxx]
   refine aOne (r := 1) ?_
   refine wpOp_call rfl (by rfl) (by go_simp; all_goals (and_intros <;> rfl)) ?_
   refine (HM2.out x23).mono ?_
   rintro e' x24 ⟨mv, rfl, hA⟩
   have hb := hA.bel
   have hsl := hA.sl
   rw [HLl.out] at hsl
   obtain ⟨ma, mc, rfl, _, _⟩ := hsl.form
   have HSl24 := lh hsl
   clear hA hsl
   rw [← HN.out]
   have HNg124 := kpB hb HNg123
   have HNg224 := kpB hb HN23
   have HQ24 := tbB HQ23 hb
   have hS24 := HSS.out _ HQ24.out
   clear hb
   refine ⟨_, rfl, ?_, ?_⟩
   ·exact hS24
   simp only [Act.put, sxx]
   refine aOne (r := 3) ?_
   have h9 := HSg2.out x24 (.slice ma (2 ^ h) mc) (HV.out.below (HBL5.out.trans (HQ24.out.mono HBL5.out.size))) HSl24.out
   rw [← HN.out] at h9
   obtain ⟨E, hE⟩ := nXe (ring2 sd h m (.slice ma N mc))
   rw [← hE] at h9
   have HES := lh (show (Tryz.prog.info? 40).map (·.size) = some E.size by rw [hE]; kernel_rfl)
   have HEN := lh (show 4 = E.size by rw [hE]; rfl)
   have HEO := lh (show E.all (·.oneCell') = true by rw [hE]; simp [ring2, Value.oneCell'])
   have HEe := lh hE
   clear hE
   refine wpOp_call rfl (by rfl) (by go_simp; all_goals (and_intros <;> rfl)) ?_
   refine h9.mono ?_
   clear h9
   rintro e' x25 ⟨rfl, hb⟩
   have HNg125 := kpB hb HNg124
   have HNg225 := kpB hb HNg224
   have HQ25 := tbB HQ24 hb
   have hS25 := HSS.out _ HQ25.out
   clear hb
   refine ⟨_, rfl, ?_, ?_⟩
   ·exact hS25
   simp only [Act.put, sxx]
   refine tkH (i := 4) (v := ?_) rfl (.inl ⟨by rfl, ?_⟩) hS25 ?_
   rotate_left
   ·intro wq hSw
    go_simp
    rfl
   simp only [Act.put, sxx]
   refine tkH (i := 5) (v := ?_) rfl (.inl ⟨by rfl, ?_⟩) hS25 ?_
   rotate_left
   ·intro wq hSw
    go_simp
    rfl
   simp only [Act.put, sxx]
   refine tkH (i := 6) (v := ?_) rfl (.inl ⟨by rfl, ?_⟩) hS25 ?_
   rotate_left
   ·intro wq hSw
    go_simp
    rfl
   simp only [Act.put, sxx]
   refine tkH (i := 7) (v := ?_) rfl (.inl ⟨by rfl, ?_⟩) hS25 ?_
   rotate_left
   ·intro wq hSw
    go_simp
    rfl
   simp only [Act.put, sxx]
   have Hg1 := HNg125
   have Hg2 := HNg225
   have HQz := HQ25
   rotate_left
   refine wpOp_run rfl (by rfl) (w' := (World.drew w5).alloc (.cells Z 56)) (v := .pointer (some ⟨w5.heap.size, 0, none⟩)) (by rw [← HLIT.out]; go_simp; first | done | rfl) ?_
   obtain ⟨x26, hw⟩ := nXe ((World.drew w5).alloc (.cells Z 56))
   rw [← hw]
   have hb : Below (World.drew w5).heap.size (World.drew w5) x26 := by rw [hw]; exact bAx
   have HN26 := lh (show x26.heap[w5.heap.size]? = some (.cells Z 56 (0, 0)) by rw [hw]; exact heap_new' _ rfl)
   obtain ⟨g2, hge⟩ := nXe (w5.heap.size)
   rw [← hge] at HN26 ⊢
   have hg2 : w5.heap.size ≤ g2 := by rw [hge]; exact HQ0.out.size
   clear hw hge
   have HQ26 := tbB HQ0 hb
   have hS26 := HSS.out _ HQ26.out
   clear hb
   refine ⟨hS26, ?_⟩
   simp only [Act.put, sxx]
   refine wpAnyH_all (rs := [1, 8]) (by kernel_rfl) (by simp) ?_
   intro i hi
   simp only [List.mem_cons, List.not_mem_nil, or_false] at hi
   rcases hi with rfl | rfl
   refine wpOp_call rfl (by rfl) (by go_simp; all_goals (and_intros <;> rfl)) ?_
   refine (HM2.out x26).mono ?_
   rintro e' x27 ⟨mv, rfl, hA⟩
   have hb := hA.bel
   have hsl := hA.sl
   rw [HLl.out] at hsl
   obtain ⟨ma, mc, rfl, _, _⟩ := hsl.form
   have HSl27 := lh hsl
   clear hA hsl
   rw [← HN.out]
   have HNg227 := kpB hb HN26
   have HQ27 := tbB HQ26 hb
   have hS27 := HSS.out _ HQ27.out
   clear hb
   refine ⟨_, rfl, ?_, ?_⟩
   ·exact hS27
   simp only [Act.put, sxx]
   refine wpAnyH_all (rs := [3, 8]) (by kernel_rfl) (by simp) ?_
   intro i hi
   simp only [List.mem_cons, List.not_mem_nil, or_false] at hi
   rcases hi with rfl | rfl
   have h9 := HSg2.out x27 (.slice ma (2 ^ h) mc) (HV.out.below (HBL5.out.trans (HQ27.out.mono HBL5.out.size))) HSl27.out
   rw [← HN.out] at h9
   obtain ⟨E, hE⟩ := nXe (ring2 sd h m (.slice ma N mc))
   rw [← hE] at h9
   have HES := lh (show (Tryz.prog.info? 40).map (·.size) = some E.size by rw [hE]; kernel_rfl)
   have HEN := lh (show 4 = E.size by rw [hE]; rfl)
   have HEO := lh (show E.all (·.oneCell') = true by rw [hE]; simp [ring2, Value.oneCell'])
   have HEe := lh hE
   clear hE
   refine wpOp_call rfl (by rfl) (by go_simp; all_goals (and_intros <;> rfl)) ?_
   refine h9.mono ?_
   clear h9
   rintro e' x28 ⟨rfl, hb⟩
   have HNg228 := kpB hb HNg227
   have HQ28 := tbB HQ27 hb
   have hS28 := HSS.out _ HQ28.out
   clear hb
   refine ⟨_, rfl, ?_, ?_⟩
   ·exact hS28
   simp only [Act.put, sxx]
   refine tkH (i := 4) (v := ?_) rfl (.inl ⟨by rfl, ?_⟩) hS28 ?_
   rotate_left
   ·intro wq hSw
    go_simp
    rfl
   simp only [Act.put, sxx]
   refine tkH (i := 5) (v := ?_) rfl (.inl ⟨by rfl, ?_⟩) hS28 ?_
   rotate_left
   ·intro wq hSw
    go_simp
    rfl
   simp only [Act.put, sxx]
   refine tkH (i := 6) (v := ?_) rfl (.inl ⟨by rfl, ?_⟩) hS28 ?_
   rotate_left
   ·intro wq hSw
    go_simp
    rfl
   simp only [Act.put, sxx]
   refine tkH (i := 7) (v := ?_) rfl (.inl ⟨by rfl, ?_⟩) hS28 ?_
   rotate_left
   ·intro wq hSw
    go_simp
    rfl
   simp only [Act.put, sxx]
   refine aOne (r := 8) ?_
   refine wpOp_run rfl (by rfl) (w' := x28.alloc (.cells #[.string ⟨#[]⟩, .int .i64 0, .int .i64 0, .slice none 0 0] 40)) (v := .pointer (some ⟨x28.heap.size, 0, none⟩)) (by go_simp; first | done | rfl) ?_
   obtain ⟨x29, hw⟩ := nXe (x28.alloc (.cells #[.string ⟨#[]⟩, .int .i64 0, .int .i64 0, .slice none 0 0] 40))
   rw [← hw]
   have hb : Below x28.heap.size x28 x29 := by rw [hw]; exact bAx
   have HN29 := lh (show x29.heap[x28.heap.size]? = some (.cells #[.string ⟨#[]⟩, .int .i64 0, .int .i64 0, .slice none 0 0] 40 (0, 0)) by rw [hw]; exact heap_new' _ rfl)
   obtain ⟨g1, hge⟩ := nXe (x28.heap.size)
   rw [← hge] at HN29 ⊢
   have hg1 : w5.heap.size ≤ g1 := by rw [hge]; exact HQ28.out.size
   have hne : g1 ≠ g2 := by have := lt_row HNg228.out; omega
   clear hw hge
   have HNg229 := kpB hb HNg228
   have HQ29 := tbB HQ28 hb
   have hS29 := HSS.out _ HQ29.out
   clear hb
   refine ⟨hS29, ?_⟩
   simp only [Act.put, sxx]
   have Hg1 := HN29
   have Hg2 := HNg229
   have HQz := HQ29
   rotate_left
   refine wpOp_run rfl (by rfl) (w' := x27.alloc (.cells #[.string ⟨#[]⟩, .int .i64 0, .int .i64 0, .slice none 0 0] 40)) (v := .pointer (some ⟨x27.heap.size, 0, none⟩)) (by go_simp; first | done | rfl) ?_
   obtain ⟨x30, hw⟩ := nXe (x27.alloc (.cells #[.string ⟨#[]⟩, .int .i64 0, .int .i64 0, .slice none 0 0] 40))
   rw [← hw]
   have hb : Below x27.heap.size x27 x30 := by rw [hw]; exact bAx
   have HN30 := lh (show x30.heap[x27.heap.size]? = some (.cells #[.string ⟨#[]⟩, .int .i64 0, .int .i64 0, .slice none 0 0] 40 (0, 0)) by rw [hw]; exact heap_new' _ rfl)
   obtain ⟨g1, hge⟩ := nXe (x27.heap.size)
   rw [← hge] at HN30 ⊢
   have hg1 : w5.heap.size ≤ g1 := by rw [hge]; exact HQ27.out.size
   have hne : g1 ≠ g2 := by have := lt_row HNg227.out; omega
   clear hw hge
   have HNg230 := kpB hb HNg227
   have HSl30 := lh (HSl27.out.below hb)
   have HQ30 := tbB HQ27 hb
   have hS30 := HSS.out _ HQ30.out
   clear hb
   refine ⟨hS30, ?_⟩
   simp only [Act.put, sxx]
   refine aOne (r := 3) ?_
   have h9 := HSg2.out x30 (.slice ma (2 ^ h) mc) (HV.out.below (HBL5.out.trans (HQ30.out.mono HBL5.out.size))) HSl30.out
   rw [← HN.out] at h9
   obtain ⟨E, hE⟩ := nXe (ring2 sd h m (.slice ma N mc))
   rw [← hE] at h9
   have HES := lh (show (Tryz.prog.info? 40).map (·.size) = some E.size by rw [hE]; kernel_rfl)
   have HEN := lh (show 4 = E.size by rw [hE]; rfl)
   have HEO := lh (show E.all (·.oneCell') = true by rw [hE]; simp [ring2, Value.oneCell'])
   have HEe := lh hE
   clear hE
   refine wpOp_call rfl (by rfl) (by go_simp; all_goals (and_intros <;> rfl)) ?_
   refine h9.mono ?_
   clear h9
   rintro e' x31 ⟨rfl, hb⟩
   have HNg131 := kpB hb HN30
   have HNg231 := kpB hb HNg230
   have HQ31 := tbB HQ30 hb
   have hS31 := HSS.out _ HQ31.out
   clear hb
   refine ⟨_, rfl, ?_, ?_⟩
   ·exact hS31
   simp only [Act.put, sxx]
   refine tkH (i := 4) (v := ?_) rfl (.inl ⟨by rfl, ?_⟩) hS31 ?_
   rotate_left
   ·intro wq hSw
    go_simp
    rfl
   simp only [Act.put, sxx]
   refine tkH (i := 5) (v := ?_) rfl (.inl ⟨by rfl, ?_⟩) hS31 ?_
   rotate_left
   ·intro wq hSw
    go_simp
    rfl
   simp only [Act.put, sxx]
   refine tkH (i := 6) (v := ?_) rfl (.inl ⟨by rfl, ?_⟩) hS31 ?_
   rotate_left
   ·intro wq hSw
    go_simp
    rfl
   simp only [Act.put, sxx]
   refine tkH (i := 7) (v := ?_) rfl (.inl ⟨by rfl, ?_⟩) hS31 ?_
   rotate_left
   ·intro wq hSw
    go_simp
    rfl
   simp only [Act.put, sxx]
   have Hg1 := HNg131
   have Hg2 := HNg231
   have HQz := HQ31
   rotate_left
   refine wpOp_run rfl (by rfl) (w' := x26.alloc (.cells #[.string ⟨#[]⟩, .int .i64 0, .int .i64 0, .slice none 0 0] 40)) (v := .pointer (some ⟨x26.heap.size, 0, none⟩)) (by go_simp; first | done | rfl) ?_
   obtain ⟨x32, hw⟩ := nXe (x26.alloc (.cells #[.string ⟨#[]⟩, .int .i64 0, .int .i64 0, .slice none 0 0] 40))
   rw [← hw]
   have hb : Below x26.heap.size x26 x32 := by rw [hw]; exact bAx
   have HN32 := lh (show x32.heap[x26.heap.size]? = some (.cells #[.string ⟨#[]⟩, .int .i64 0, .int .i64 0, .slice none 0 0] 40 (0, 0)) by rw [hw]; exact heap_new' _ rfl)
   obtain ⟨g1, hge⟩ := nXe (x26.heap.size)
   rw [← hge] at HN32 ⊢
   have hg1 : w5.heap.size ≤ g1 := by rw [hge]; exact HQ26.out.size
   have hne : g1 ≠ g2 := by have := lt_row HN26.out; omega
   clear hw hge
   have HNg232 := kpB hb HN26
   have HQ32 := tbB HQ26 hb
   have hS32 := HSS.out _ HQ32.out
   clear hb
   refine ⟨hS32, ?_⟩
   simp only [Act.put, sxx]
   refine aOne (r := 1) ?_
   refine wpOp_call rfl (by rfl) (by go_simp; all_goals (and_intros <;> rfl)) ?_
   refine (HM2.out x32).mono ?_
   rintro e' x33 ⟨mv, rfl, hA⟩
   have hb := hA.bel
   have hsl := hA.sl
   rw [HLl.out] at hsl
   obtain ⟨ma, mc, rfl, _, _⟩ := hsl.form
   have HSl33 := lh hsl
   clear hA hsl
   rw [← HN.out]
   have HNg133 := kpB hb HN32
   have HNg233 := kpB hb HNg232
   have HQ33 := tbB HQ32 hb
   have hS33 := HSS.out _ HQ33.out
   clear hb
   refine ⟨_, rfl, ?_, ?_⟩
   ·exact hS33
   simp only [Act.put, sxx]
   refine aOne (r := 3) ?_
   have h9 := HSg2.out x33 (.slice ma (2 ^ h) mc) (HV.out.below (HBL5.out.trans (HQ33.out.mono HBL5.out.size))) HSl33.out
   rw [← HN.out] at h9
   obtain ⟨E, hE⟩ := nXe (ring2 sd h m (.slice ma N mc))
   rw [← hE] at h9
   have HES := lh (show (Tryz.prog.info? 40).map (·.size) = some E.size by rw [hE]; kernel_rfl)
   have HEN := lh (show 4 = E.size by rw [hE]; rfl)
   have HEO := lh (show E.all (·.oneCell') = true by rw [hE]; simp [ring2, Value.oneCell'])
   have HEe := lh hE
   clear hE
   refine wpOp_call rfl (by rfl) (by go_simp; all_goals (and_intros <;> rfl)) ?_
   refine h9.mono ?_
   clear h9
   rintro e' x34 ⟨rfl, hb⟩
   have HNg134 := kpB hb HNg133
   have HNg234 := kpB hb HNg233
   have HQ34 := tbB HQ33 hb
   have hS34 := HSS.out _ HQ34.out
   clear hb
   refine ⟨_, rfl, ?_, ?_⟩
   ·exact hS34
   simp only [Act.put, sxx]
   refine tkH (i := 4) (v := ?_) rfl (.inl ⟨by rfl, ?_⟩) hS34 ?_
   rotate_left
   ·intro wq hSw
    go_simp
    rfl
   simp only [Act.put, sxx]
   refine tkH (i := 5) (v := ?_) rfl (.inl ⟨by rfl, ?_⟩) hS34 ?_
   rotate_left
   ·intro wq hSw
    go_simp
    rfl
   simp only [Act.put, sxx]
   refine tkH (i := 6) (v := ?_) rfl (.inl ⟨by rfl, ?_⟩) hS34 ?_
   rotate_left
   ·intro wq hSw
    go_simp
    rfl
   simp only [Act.put, sxx]
   refine tkH (i := 7) (v := ?_) rfl (.inl ⟨by rfl, ?_⟩) hS34 ?_
   rotate_left
   ·intro wq hSw
    go_simp
    rfl
   simp only [Act.put, sxx]
   have Hg1 := HNg134
   have Hg2 := HNg234
   have HQz := HQ34
   rotate_left
   all_goals
        refine aOne (r := 10) ?_
        refine WrC.wpOp_store_row rfl (by rfl) _ _ _ rfl g1 E rfl rfl _ _ Hg1.out HES.out (by rw [← HEN.out]; rfl) HEO.out ?_
        intro y1 hy1
        have HY1 := lh (show Below w5.heap.size w5 y1 by rw [hy1.out]; exact below_row HQz.out hg1 _)
        have hSy := HSS.out _ HY1.out
        have HA1 := lh (show y1.heap[g1]? = some (.cells E 40 (0, 0)) by rw [hy1.out]; exact setRow_at Hg1.out)
        have HA2 := lh (show y1.heap[g2]? = some (.cells Z 56 (0, 0)) by rw [hy1.out, setRow_far _ (by omega)]; exact Hg2.out)
        refine ⟨hSy, ?_⟩
        simp only [Act.put, sxx]
        refine aOne (r := 11) ?_
        refine WrC.wpOp_store_row rfl (by rfl) _ _ _ rfl g2 Q rfl rfl _ _ HA2.out HQS.out (by rw [← HQN.out]; exact HZN.out) HQO.out ?_
        intro y2 hy2
        have HY2 := lh (show Below w5.heap.size w5 y2 by rw [hy2.out]; exact below_row HY1.out hg2 _)
        have hSz := HSS.out _ HY2.out
        have HA3 := lh (show y2.heap[g2]? = some (.cells Q 56 (0, 0)) by rw [hy2.out]; exact setRow_at HA2.out)
        have HA4 := lh (show y2.heap[g1]? = some (.cells E 40 (0, 0)) by rw [hy2.out, setRow_far _ (by omega)]; exact HA1.out)
        refine ⟨hSz, ?_⟩
        simp only [Act.put, sxx]
        refine tkH (i := 12) (v := ?_) rfl (.inl ⟨by rfl, ?_⟩) hSz ?_
        rotate_left
        ·intro wq hSw
         go_simp
         rfl
        simp only [Act.put, sxx]
        refine wpAnyH_done (by kernel_rfl) (NoPanic.normal ?_) _
        go_wp2_with fail
        go_meet
        exact ⟨g1, g2, ma, mc, rfl, rfl, rfl, by rw [← HEe.out]; exact HA4.out, HA3.out, HY2.out⟩
  case rest =>
   obtain ⟨g1, g2, ma, mc, rfl, rfl, rfl, hx1, hx2, hb⟩ := hcut
   have HBL6 := tbB HBL5 hb
   have HP6 := lh ((hb.block _ lP5).trans HP5.out)
   have HF6 := kpB hb HF5
   have HRR6 := kpB hb HRR5
   obtain ⟨E, hE⟩ := nXe (ring2 sd h m (.slice ma N mc))
   rw [← hE] at hx1
   have HE0 := lh (show ∀ (j : Nat) (x : Value), K2.toList[j]? = some x → E[0 + j]? = some x from fun j x hx => by rw [hE]; exact HK2E.out _ j x hx)
   have HG1 := lh hx1
   have HG2 := lh hx2
   obtain ⟨RA, hRA⟩ := nXe (ringA sd h m u (rootK (bl sd) h))
   have HKy := lh (fun w => HKey.out w R u (rootK (bl sd) h))
   rw [← hRA] at HRR6 HKy
   clear hx1 hx2 hb hE hRA lK5 lP5
   go_wp2_with fail
   have hqQ := HqQ.out
   have hqK := HqK.out
   have hGE := DlT.guardDl
   have hGK := EgK.guardKey
   have HVk := lh (HV.out.below HBL6.out)
   have HHk := lh (HH.out.below HBL6.out)
   have HSk := lh (HSB.out.below HBL6.out)
   refine Uniform.region_chain (S := (fun W => W.heap[g0]? = some (.cells Q 56 (0, 0)) ∧ W.heap[g2]? = some (.cells Q 56 (0, 0)) ∧ W.heap[(w.heap.size + 1)]? = some (.cells p 56 (0, 0)) ∧ W.heap[R]? = some (.cells RA 75 (0, 0)) ∧ W.heap[g1]? = some (.cells E 40 (0, 0)) ∧ Sl W v 36 L.length (L.flatMap Gr'.cs) ∧ VarsD W ∧ VarsH W ∧ Below w.heap.size w W)) (List.range 34) (by kernel_rfl) (by kernel_rfl) ⟨HF6.out, HG2.out, HP6.out, HRR6.out, HG1.out, (HSk.out).below (Bl.drew (Below.refl _ _)), (HVk.out).below (Bl.drew (Below.refl _ _)), (HHk.out).below (Bl.drew (Below.refl _ _)), (HBL6.out).drew⟩ ?_
   refine ⟨_, _, rfl, Or.inl ⟨by rfl, fun wq hSw => Uniform.UStep.value (w' := wq) (EqHash.exec_load_row 56 _ rfl _ rfl hSw.1 Tryz.underlying56 rfl HQS.out) hSw⟩, ?_⟩
   simp only [Act.put, sxx]
   refine ⟨_, _, rfl, Or.inl ⟨by rfl, fun wq hSw => Uniform.UStep.value (w' := wq) (EqHash.exec_load_row 56 _ rfl _ rfl hSw.2.1 Tryz.underlying56 rfl HQS.out) hSw⟩, ?_⟩
   iterate 8
        simp only [Act.put, sxx]
        refine ⟨_, ?_, rfl, .inl ⟨by rfl, fun wq hSw => .value (w' := wq) ?_ hSw⟩, ?_⟩
        rotate_left
        ·obtain ⟨q0, q1, q2, q3, q4, q5, q6, q7, q8⟩ := hSw
         go_simp
         rfl
   simp only [Act.put, sxx]
   refine ⟨_, ?_, rfl, Or.inl ⟨by rfl, fun wq hSw => Uniform.UStep.call (w' := wq) ?_ ((HKy.out wq hSw.2.2.2.1).mono ?_)⟩, ?_⟩
   rotate_left
   ·obtain ⟨q0, q1, q2, q3, q4, q5, q6, q7, q8⟩ := hSw
    go_simp
    all_goals (and_intros <;> rfl)
   ·have hSk := hSw
    obtain ⟨q0, q1, q2, q3, q4, q5, q6, q7, q8⟩ := hSw
    rintro e wq2 ⟨rfl, hbq⟩
    refine ⟨?_, (hbq.block _ (lt_row q0)).trans q0, (hbq.block _ (lt_row q1)).trans q1, (hbq.block _ (lt_row q2)).trans q2, (hbq.block _ (lt_row q3)).trans q3, (hbq.block _ (lt_row q4)).trans q4, q5.below hbq, q6.below hbq, q7.below hbq, q8.trans (hbq.mono q8.size)⟩
    rfl
   simp only [Act.put, sxx]
   refine ⟨_, ?_, rfl, .inl ⟨by rfl, fun wq hSw => .value (w' := wq) ?_ hSw⟩, ?_⟩
   rotate_left
   ·obtain ⟨q0, q1, q2, q3, q4, q5, q6, q7, q8⟩ := hSw
    go_simp
    rfl
   simp only [Act.put, sxx]
   refine ⟨_, _, rfl, Or.inl ⟨by rfl, fun wq hSw => Uniform.UStep.value (w' := wq) (BkC.exec_load_rowO 23 _ rfl g1 0 rfl K2 ((fun j x hx => (cell_row hSw.2.2.2.2.1).trans (HE0.out j x hx))) Tryz.underlying23 rfl HK2S.out) hSw⟩, ?_⟩
   iterate 4
        simp only [Act.put, sxx]
        refine ⟨_, ?_, rfl, .inl ⟨by rfl, fun wq hSw => .value (w' := wq) ?_ hSw⟩, ?_⟩
        rotate_left
        ·obtain ⟨q0, q1, q2, q3, q4, q5, q6, q7, q8⟩ := hSw
         go_simp
         rfl
   simp only [Act.put, sxx]
   refine ⟨_, _, rfl, Or.inl ⟨by rfl, fun wq hSw => Uniform.UStep.value (w' := wq) (EqHash.exec_load_row 56 _ rfl _ rfl hSw.2.2.1 Tryz.underlying56 rfl HpS.out) hSw⟩, ?_⟩
   simp only [Act.put, sxx]
   refine ⟨_, ?_, rfl, Or.inl ⟨by rfl, fun wq hSw => Uniform.UStep.call (w' := wq) ?_ ((E1.out wq hSw.2.2.2.2.2.2.1 hSw.2.2.2.2.2.2.2.1 hSw.2.2.2.2.2.1).mono ?_)⟩, ?_⟩
   rotate_left
   ·obtain ⟨q0, q1, q2, q3, q4, q5, q6, q7, q8⟩ := hSw
    go_simp
    all_goals (and_intros <;> rfl)
   ·have hSk := hSw
    obtain ⟨q0, q1, q2, q3, q4, q5, q6, q7, q8⟩ := hSw
    rintro e wq2 ⟨rfl, hbq⟩
    refine ⟨?_, (hbq.block _ (lt_row q0)).trans q0, (hbq.block _ (lt_row q1)).trans q1, (hbq.block _ (lt_row q2)).trans q2, (hbq.block _ (lt_row q3)).trans q3, (hbq.block _ (lt_row q4)).trans q4, q5.below hbq, q6.below hbq, q7.below hbq, q8.trans (hbq.mono q8.size)⟩
    rfl
   simp only [Act.put, sxx]
   refine ⟨_, ?_, rfl, .inl ⟨by rfl, fun wq hSw => .value (w' := wq) ?_ hSw⟩, ?_⟩
   rotate_left
   ·obtain ⟨q0, q1, q2, q3, q4, q5, q6, q7, q8⟩ := hSw
    go_simp
    rfl
   simp only [Act.put, sxx]
   refine ⟨_, _, rfl, Or.inl ⟨by rfl, fun wq hSw => Uniform.UStep.value (w' := wq) (EqHash.exec_load_row 56 _ rfl _ rfl hSw.2.2.1 Tryz.underlying56 rfl HpS.out) hSw⟩, ?_⟩
   simp only [Act.put, sxx]
   refine ⟨_, ?_, rfl, Or.inl ⟨by rfl, fun wq hSw => Uniform.UStep.call (w' := wq) ?_ ((E2.out wq hSw.2.2.2.2.2.2.1 hSw.2.2.2.2.2.1).mono ?_)⟩, ?_⟩
   rotate_left
   ·obtain ⟨q0, q1, q2, q3, q4, q5, q6, q7, q8⟩ := hSw
    go_simp
    all_goals (and_intros <;> rfl)
   ·have hSk := hSw
    obtain ⟨q0, q1, q2, q3, q4, q5, q6, q7, q8⟩ := hSw
    rintro e wq2 ⟨rfl, hbq⟩
    refine ⟨?_, (hbq.block _ (lt_row q0)).trans q0, (hbq.block _ (lt_row q1)).trans q1, (hbq.block _ (lt_row q2)).trans q2, (hbq.block _ (lt_row q3)).trans q3, (hbq.block _ (lt_row q4)).trans q4, q5.below hbq, q6.below hbq, q7.below hbq, q8.trans (hbq.mono q8.size)⟩
    rfl
   iterate 4
        simp only [Act.put, sxx]
        refine ⟨_, ?_, rfl, .inl ⟨by rfl, fun wq hSw => .value (w' := wq) ?_ hSw⟩, ?_⟩
        rotate_left
        ·obtain ⟨q0, q1, q2, q3, q4, q5, q6, q7, q8⟩ := hSw
         go_simp
         rfl
   simp only [Act.put, sxx]
   refine ⟨_, _, rfl, Or.inl ⟨by rfl, fun wq hSw => Uniform.UStep.value (w' := wq) (EqHash.exec_load_row 56 _ rfl _ rfl hSw.1 Tryz.underlying56 rfl HQS.out) hSw⟩, ?_⟩
   simp only [Act.put, sxx]
   refine ⟨_, ?_, rfl, Or.inl ⟨by rfl, fun wq hSw => Uniform.UStep.call (w' := wq) ?_ ((F1.out wq hSw.2.2.2.2.2.2.1 hSw.2.2.2.2.2.2.2.1 hSw.2.2.2.2.2.1).mono ?_)⟩, ?_⟩
   rotate_left
   ·obtain ⟨q0, q1, q2, q3, q4, q5, q6, q7, q8⟩ := hSw
    go_simp
    all_goals (and_intros <;> rfl)
   ·have hSk := hSw
    obtain ⟨q0, q1, q2, q3, q4, q5, q6, q7, q8⟩ := hSw
    rintro e wq2 ⟨rfl, hbq⟩
    refine ⟨?_, (hbq.block _ (lt_row q0)).trans q0, (hbq.block _ (lt_row q1)).trans q1, (hbq.block _ (lt_row q2)).trans q2, (hbq.block _ (lt_row q3)).trans q3, (hbq.block _ (lt_row q4)).trans q4, q5.below hbq, q6.below hbq, q7.below hbq, q8.trans (hbq.mono q8.size)⟩
    rfl
   simp only [Act.put, sxx]
   refine ⟨_, ?_, rfl, .inl ⟨by rfl, fun wq hSw => .value (w' := wq) ?_ hSw⟩, ?_⟩
   rotate_left
   ·obtain ⟨q0, q1, q2, q3, q4, q5, q6, q7, q8⟩ := hSw
    go_simp
    rfl
   simp only [Act.put, sxx]
   refine ⟨_, _, rfl, Or.inl ⟨by rfl, fun wq hSw => Uniform.UStep.value (w' := wq) (EqHash.exec_load_row 56 _ rfl _ rfl hSw.1 Tryz.underlying56 rfl HQS.out) hSw⟩, ?_⟩
   simp only [Act.put, sxx]
   refine ⟨_, ?_, rfl, Or.inl ⟨by rfl, fun wq hSw => Uniform.UStep.call (w' := wq) ?_ ((F2.out wq hSw.2.2.2.2.2.2.1 hSw.2.2.2.2.2.1).mono ?_)⟩, ?_⟩
   rotate_left
   ·obtain ⟨q0, q1, q2, q3, q4, q5, q6, q7, q8⟩ := hSw
    go_simp
    all_goals (and_intros <;> rfl)
   ·have hSk := hSw
    obtain ⟨q0, q1, q2, q3, q4, q5, q6, q7, q8⟩ := hSw
    rintro e wq2 ⟨rfl, hbq⟩
    refine ⟨?_, (hbq.block _ (lt_row q0)).trans q0, (hbq.block _ (lt_row q1)).trans q1, (hbq.block _ (lt_row q2)).trans q2, (hbq.block _ (lt_row q3)).trans q3, (hbq.block _ (lt_row q4)).trans q4, q5.below hbq, q6.below hbq, q7.below hbq, q8.trans (hbq.mono q8.size)⟩
    rfl
   iterate 3
        simp only [Act.put, sxx]
        refine ⟨_, ?_, rfl, .inl ⟨by rfl, fun wq hSw => .value (w' := wq) ?_ hSw⟩, ?_⟩
        rotate_left
        ·obtain ⟨q0, q1, q2, q3, q4, q5, q6, q7, q8⟩ := hSw
         go_simp
         rfl
   simp only [Act.put, sxx]
   intro wz hSz
   obtain ⟨_, _, _, _, _, _, _, _, q8⟩ := hSz
   go_wp2
   go_ret
   exact ⟨rfl, q8⟩
 ·have hbad : keyB sd.size kh kn = false ∨ (keyB sd.size kh kn = true ∧ 3 < kh) := by
   cases hq : keyB sd.size kh kn
   ·exact .inl rfl
   ·exact .inr ⟨rfl, by have : ¬ kh ≤ 3 := fun h => hgood ⟨hq, h⟩; omega⟩
  rcases hbad with hq | ⟨hq, h3⟩
  ·rw [hq, if_neg (by simp)] at hC
   have HC := lh hC
   clear hC hq hgood hK hp hr hs hsd hk0 hk2
   go_enter Tryz.func5, Tryz.ntmps5
   go_wp2_with fail
   rw [← HW0.out]
   refine (DlQ.lives_ok w0 (HV.out.below HBL0.out) (HH.out.below HBL0.out)).mono ?_
   rintro e' w1 ⟨rfl, hb⟩
   have HK1 := kpB hb HK0
   have HP1 := kpB hb HP0
   have HBL1 := tbB HBL0 hb
   clear hb
   go_wp2_with (first | (refine wpList_load_row rfl _ _ rfl w.heap.size rfl _ K (0, 0) _ HK1.out Tryz.underlying23 rfl HKS.out ?_) | fail)
   refine (HC.out w1).mono ?_
   rintro e' w2 ⟨rfl, hb⟩
   have HK2 := kpB hb HK1
   have HP2 := kpB hb HP1
   have HBL2 := tbB HBL1 hb
   clear hb
   have c1 : w2.cell? ⟨w.heap.size, 1, none⟩ = some (.int .i64 kh) := (cell_row HK2.out).trans HP1c.out
   go_wp2_with fail
   refine Uniform.region_chain (S := (fun W => W.heap[(w.heap.size + 1)]? = some (.cells p 56 (0, 0)) ∧ Sl W v 36 L.length (L.flatMap Gr'.cs) ∧ VarsD W ∧ VarsH W ∧ Below w.heap.size w W)) (List.range 8) (by kernel_rfl) (by kernel_rfl) ⟨HP2.out, ((HSB.out.below HBL2.out)).below (Bl.drew (Below.refl _ _)), ((HV.out.below HBL2.out)).below (Bl.drew (Below.refl _ _)), ((HH.out.below HBL2.out)).below (Bl.drew (Below.refl _ _)), (HBL2.out).drew⟩ ?_
   refine ⟨_, ?_, rfl, .inl ⟨by rfl, fun wq hSw => .value (w' := wq) ?_ hSw⟩, ?_⟩
   rotate_left
   ·obtain ⟨q0, q1, q2, q3, q4⟩ := hSw
    go_simp
    rfl
   simp only [Act.put, sxx]
   refine ⟨_, _, rfl, Or.inl ⟨by rfl, fun wq hSw => Uniform.UStep.value (w' := wq) (EqHash.exec_load_row 56 _ rfl _ rfl hSw.1 Tryz.underlying56 rfl HpS.out) hSw⟩, ?_⟩
   simp only [Act.put, sxx]
   refine ⟨_, ?_, rfl, Or.inl ⟨by rfl, fun wq hSw => Uniform.UStep.call (w' := wq) ?_ ((E1.out wq hSw.2.2.1 hSw.2.2.2.1 hSw.2.1).mono ?_)⟩, ?_⟩
   rotate_left
   ·obtain ⟨q0, q1, q2, q3, q4⟩ := hSw
    go_simp
    all_goals (and_intros <;> rfl)
   ·have hSk := hSw
    obtain ⟨q0, q1, q2, q3, q4⟩ := hSw
    rintro e wq2 ⟨rfl, hbq⟩
    refine ⟨?_, (hbq.block _ (lt_row q0)).trans q0, q1.below hbq, q2.below hbq, q3.below hbq, q4.trans (hbq.mono q4.size)⟩
    rfl
   simp only [Act.put, sxx]
   refine ⟨_, ?_, rfl, .inl ⟨by rfl, fun wq hSw => .value (w' := wq) ?_ hSw⟩, ?_⟩
   rotate_left
   ·obtain ⟨q0, q1, q2, q3, q4⟩ := hSw
    go_simp
    rfl
   simp only [Act.put, sxx]
   refine ⟨_, _, rfl, Or.inl ⟨by rfl, fun wq hSw => Uniform.UStep.value (w' := wq) (EqHash.exec_load_row 56 _ rfl _ rfl hSw.1 Tryz.underlying56 rfl HpS.out) hSw⟩, ?_⟩
   simp only [Act.put, sxx]
   refine ⟨_, ?_, rfl, Or.inl ⟨by rfl, fun wq hSw => Uniform.UStep.call (w' := wq) ?_ ((E2.out wq hSw.2.2.1 hSw.2.1).mono ?_)⟩, ?_⟩
   rotate_left
   ·obtain ⟨q0, q1, q2, q3, q4⟩ := hSw
    go_simp
    all_goals (and_intros <;> rfl)
   ·have hSk := hSw
    obtain ⟨q0, q1, q2, q3, q4⟩ := hSw
    rintro e wq2 ⟨rfl, hbq⟩
    refine ⟨?_, (hbq.block _ (lt_row q0)).trans q0, q1.below hbq, q2.below hbq, q3.below hbq, q4.trans (hbq.mono q4.size)⟩
    rfl
   iterate 2
        simp only [Act.put, sxx]
        refine ⟨_, ?_, rfl, .inl ⟨by rfl, fun wq hSw => .value (w' := wq) ?_ hSw⟩, ?_⟩
        rotate_left
        ·obtain ⟨q0, q1, q2, q3, q4⟩ := hSw
         go_simp
         rfl
   simp only [Act.put, sxx]
   intro wz hSz
   obtain ⟨_, _, _, _, q8⟩ := hSz
   go_wp2
   go_ret
   exact ⟨rfl, q8⟩
  ·rw [hq, if_pos rfl] at hC
   have hd3 : decide ((3 : Int) < kh) = true := decide_eq_true h3
   have HC := lh hC
   clear hC hq hgood hK hp hr hs hsd hk0 hk2
   go_enter Tryz.func5, Tryz.ntmps5
   go_wp2_with fail
   rw [← HW0.out]
   refine (DlQ.lives_ok w0 (HV.out.below HBL0.out) (HH.out.below HBL0.out)).mono ?_
   rintro e' w1 ⟨rfl, hb⟩
   have HK1 := kpB hb HK0
   have HP1 := kpB hb HP0
   have HBL1 := tbB HBL0 hb
   clear hb
   go_wp2_with (first | (refine wpList_load_row rfl _ _ rfl w.heap.size rfl _ K (0, 0) _ HK1.out Tryz.underlying23 rfl HKS.out ?_) | fail)
   refine (HC.out w1).mono ?_
   rintro e' w2 ⟨rfl, hb⟩
   have HK2 := kpB hb HK1
   have HP2 := kpB hb HP1
   have HBL2 := tbB HBL1 hb
   clear hb
   have c1 : w2.cell? ⟨w.heap.size, 1, none⟩ = some (.int .i64 kh) := (cell_row HK2.out).trans HP1c.out
   go_wp2_with fail
   refine Uniform.region_chain (S := (fun W => W.heap[(w.heap.size + 1)]? = some (.cells p 56 (0, 0)) ∧ Sl W v 36 L.length (L.flatMap Gr'.cs) ∧ VarsD W ∧ VarsH W ∧ Below w.heap.size w W)) (List.range 8) (by kernel_rfl) (by kernel_rfl) ⟨HP2.out, ((HSB.out.below HBL2.out)).below (Bl.drew (Below.refl _ _)), ((HV.out.below HBL2.out)).below (Bl.drew (Below.refl _ _)), ((HH.out.below HBL2.out)).below (Bl.drew (Below.refl _ _)), (HBL2.out).drew⟩ ?_
   refine ⟨_, ?_, rfl, .inl ⟨by rfl, fun wq hSw => .value (w' := wq) ?_ hSw⟩, ?_⟩
   rotate_left
   ·obtain ⟨q0, q1, q2, q3, q4⟩ := hSw
    go_simp
    rfl
   simp only [Act.put, sxx]
   refine ⟨_, _, rfl, Or.inl ⟨by rfl, fun wq hSw => Uniform.UStep.value (w' := wq) (EqHash.exec_load_row 56 _ rfl _ rfl hSw.1 Tryz.underlying56 rfl HpS.out) hSw⟩, ?_⟩
   simp only [Act.put, sxx]
   refine ⟨_, ?_, rfl, Or.inl ⟨by rfl, fun wq hSw => Uniform.UStep.call (w' := wq) ?_ ((E1.out wq hSw.2.2.1 hSw.2.2.2.1 hSw.2.1).mono ?_)⟩, ?_⟩
   rotate_left
   ·obtain ⟨q0, q1, q2, q3, q4⟩ := hSw
    go_simp
    all_goals (and_intros <;> rfl)
   ·have hSk := hSw
    obtain ⟨q0, q1, q2, q3, q4⟩ := hSw
    rintro e wq2 ⟨rfl, hbq⟩
    refine ⟨?_, (hbq.block _ (lt_row q0)).trans q0, q1.below hbq, q2.below hbq, q3.below hbq, q4.trans (hbq.mono q4.size)⟩
    rfl
   simp only [Act.put, sxx]
   refine ⟨_, ?_, rfl, .inl ⟨by rfl, fun wq hSw => .value (w' := wq) ?_ hSw⟩, ?_⟩
   rotate_left
   ·obtain ⟨q0, q1, q2, q3, q4⟩ := hSw
    go_simp
    rfl
   simp only [Act.put, sxx]
   refine ⟨_, _, rfl, Or.inl ⟨by rfl, fun wq hSw => Uniform.UStep.value (w' := wq) (EqHash.exec_load_row 56 _ rfl _ rfl hSw.1 Tryz.underlying56 rfl HpS.out) hSw⟩, ?_⟩
   simp only [Act.put, sxx]
   refine ⟨_, ?_, rfl, Or.inl ⟨by rfl, fun wq hSw => Uniform.UStep.call (w' := wq) ?_ ((E2.out wq hSw.2.2.1 hSw.2.1).mono ?_)⟩, ?_⟩
   rotate_left
   ·obtain ⟨q0, q1, q2, q3, q4⟩ := hSw
    go_simp
    all_goals (and_intros <;> rfl)
   ·have hSk := hSw
    obtain ⟨q0, q1, q2, q3, q4⟩ := hSw
    rintro e wq2 ⟨rfl, hbq⟩
    refine ⟨?_, (hbq.block _ (lt_row q0)).trans q0, q1.below hbq, q2.below hbq, q3.below hbq, q4.trans (hbq.mono q4.size)⟩
    rfl
   iterate 2
        simp only [Act.put, sxx]
        refine ⟨_, ?_, rfl, .inl ⟨by rfl, fun wq hSw => .value (w' := wq) ?_ hSw⟩, ?_⟩
        rotate_left
        ·obtain ⟨q0, q1, q2, q3, q4⟩ := hSw
         go_simp
         rfl
   simp only [Act.put, sxx]
   intro wz hSz
   obtain ⟨_, _, _, _, q8⟩ := hSz
   go_wp2
   go_ret
   exact ⟨rfl, q8⟩
end Go.Proofs.YtkcikadgnnjjjaaGreatDoor.SgD
