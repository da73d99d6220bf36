/-
  WHAT IS PROVED: where a leaf leads, by the document. Condition: what each theorem names.
-/
import Derived.Test.YtkcikadgnnjjjaaGreatDoorS0
import Derived.Test.YtkcikadgnnjjjaaGreatDoorZEHD20
set_option linter.unusedVariables false
set_option linter.unusedSimpArgs false
set_option maxRecDepth 100000
set_option maxHeartbeats 4000000
namespace Go.Proofs.YtkcikadgnnjjjaaGreatDoor.RkW
open Go Go.RowKit Go.Shelf OctP OctG RowsX Lift ShaS KeyS ShaA ShaB Steps KeyA KeyB KeyG TreeA TreeB TreeE TreeF TreeG WireT RkA RkC
attribute [-go_sem] Builtin.append_
def strN (s : ByteArray) : List Value := [.string s]
theorem strNF : RowFn 1 strN := ⟨fun _ => rfl, fun x u hu => by simp [strN] at hu; rw [hu]; rfl⟩
abbrev AccS (w0 w : World) (v : Value) (l : List ByteArray) : Prop := AccR 9 1 strN w0 w v l
theorem acc_setRow {w0 w : World} {v : Value} {l : List ByteArray} {B : Nat} {cs old : Array Value} (h : AccS w0 w v l) (hB : w.heap[B]? = some (.cells old 25 (0, 0))) (hge : w0.heap.size ≤ B) : AccS w0 (w.setRow B cs) v l := by
 refine ⟨?_, below_row h.bel hge cs⟩
 obtain ⟨h1, h2⟩ := h.own
 refine ⟨h1, ?_⟩
 rcases h2 with h2 | ⟨g, cap, cur, fr, e1, e2, e3, e4⟩
 ·exact .inl h2
 ·refine .inr ⟨g, cap, cur, fr, e1, e2, ?_, e4⟩
  rw [setRow_far _ (fun hg => by
   subst hg
   rw [hB] at e3
   simp only [Option.some.injEq, Obj.cells.injEq] at e3
   exact absurd e3.2.1 (by decide))]
  exact e3
theorem row_apart {W : World} {B : Nat} {t e : TypeId} {cs : Array Value} {fr : Nat × Nat} (h : W.heap[B]? = some (.cells cs t fr)) (hte : t ≠ e) {base size k : Nat} {v : Value} {xs : List Value} (hr : Ow W base e size v k xs) : v.ownBlock ≠ some B := by
 rcases hr.2 with ⟨rfl, _⟩ | ⟨g, cap, cur, fr', rfl, _, hgb, _⟩
 ·simp [Value.ownBlock]
 ·intro e'
  obtain rfl : g = B := by simpa [Value.ownBlock] using e'
  rw [h] at hgb
  simp only [Option.some.injEq, Obj.cells.injEq] at hgb
  exact hte hgb.2.1
theorem wpList_accK {P : Program} {α : Type} {f : α → List Value} {t e : TypeId} {size bytes : Nat} {z : Value} {ops : Array Oper} {rest : List Oper} {o : Oper} {a : Act} {w : World} {Q : Exit → Act → World → Prop} (T : SliceTy P t e size bytes z) (F : RowFn size f) {w0 : World} {v : Value} {l : List α} (A : AccR e size f w0 w v l) (x : α)
  (hgd : o.guard = none) (s y : Operand) (ho : o.op = .call { callee := .builtin .append, args := #[s, y], argTypes := #[t, t] }) (hv : a.eval s = v) (cs : Array Value) (hcs : cs.toList = f x)
  (g : Nat) (hy : a.eval y = .slice (some ⟨g, 0, none⟩) 1 1) (hgw : g = w.heap.size) (hl : l.length + 1 ≤ maxLen) (hb : (l.length + 1) * bytes ≤ 140737488355328)
  (h : ∀ v' w', AccR e size f w0 w' v' (l ++ [x]) → (∀ (B : Nat) (cs' : Array Value) (t' : TypeId) (fr : Nat × Nat), w.heap[B]? = some (.cells cs' t' fr) → t' ≠ e → w'.heap[B]? = some (.cells cs' t' fr)) → wpList P ops Q rest (a.put o.dst v') w') : wpList P ops Q (o :: rest) a (w.alloc (.cells cs e)) := by
 subst hgw
 have A' := A.alloc (.cells cs e)
 refine wpList_appF _ hgd s y _ _ ho T w0.heap.size v l.length (l.flatMap f) hv A'.own _ 1 (f x) hy (row_new_src T.ht F w x cs hcs e) (l.length + 1) rfl ((l ++ [x]).flatMap f) (by rw [List.flatMap_append, List.flatMap_singleton]) hl hb A'.bel.size ?_
 intro a' c' w' hown hgrow _
 refine h _ _ ⟨?_, Bl.grown A'.bel hgrow (fun j hj => (A.own.lt j hj).1)⟩ (fun B cs' t' fr hB ht => heap_gr hgrow (heap_at hB _) (row_apart hB ht A.own))
 rw [List.length_append]
 exact hown
theorem climbH_step (y p : H32) (m : Nat) (r : List H32) : climbH y m (p :: r) = climbH (if m % 2 = 0 then aboveH y p else aboveH p y) (m / 2) r := rfl
theorem Way2_ok (w : World) (x : H32) (i : Nat) (v : Value) (L : List H32) (hv : Sl w v 32 L.length (L.flatMap H32.cs)) (hL : L.length ≤ 7) (hi : i < 2 ^ L.length) : Calls Tryz.prog 133 #[.agg x.A, .int .i64 i, v] w fun e w' => ∃ u ts, e = .returned (.tuple #[u, .bool true]) ∧ AccS w w' u ts ∧ ts.length = L.length ∧ (0 < L.length → ∃ t, ts[L.length - 1]? = some t ∧ t.size = 65 ∧ ShaS.sum (bl t) = (climbH x i L).l) ∧ (L.length = 0 → climbH x i L = x) := by
 obtain ⟨a, cap, rfl, hcap, hm63⟩ := hv.form
 have Hrow := lh (fun (k : Nat) (g : H32) (hx : L[k]? = some g) => row_cells hF (by omega) hv hx)
 have hi128 : i < 128 := Nat.lt_of_lt_of_le hi (Nat.le_trans (Nat.pow_le_pow_right (by omega) hL) (by omega))
 obtain ⟨RES, hRES⟩ := nXe (climbH x i L)
 have hE0 : L.length = 0 → RES = x := by intro h; rw [hRES, List.length_eq_zero_iff.1 h]; rfl
 rw [← hRES]
 have hR0 : climbH x i (L.drop 0) = RES := by rw [hRES]; rfl
 have HR0 := lh hR0
 have HE0 := lh hE0
 obtain ⟨n, hn⟩ := nXe (L.length)
 rw [← hn] at hcap hi hL HE0 ⊢
 have Hn := lh hn
 have hiP : i < 2 ^ (n - 0) := hi
 have HI := lh hiP
 obtain ⟨X, hX⟩ : ∃ E : Array Value, E = (x).A := ⟨_, rfl⟩
 have hXn : X.size = 32 := by rw [hX]; exact H32.size _
 have HXS := lh (show (Tryz.prog.info? 25).map (·.size) = some X.size by rw [hX]; exact H32.info _)
 have HXN := lh (show 32 = X.size by rw [hX]; exact (H32.size _).symm)
 have HXO := lh (show X.all (·.oneCell') = true by rw [hX]; exact H32.one _)
 have HXe := lh hX
 rw [← hX]
 obtain ⟨w0, hw0⟩ := nXe (w.alloc (.cells X 25))
 have hb0 : Below w.heap.size w w0 := by rw [hw0]; exact (Below.refl _ w).alloc (Nat.le_refl _) _
 have HX0 := lh (show w0.heap[w.heap.size]? = some (.cells X 25 (0, 0)) by rw [hw0]; exact heap_new _ _)
 have HB0 := lh hb0
 have HW0 := lh hw0
 have hsz : w0.heap.size = w.heap.size + 1 := by rw [hw0]; simp
 have HSZ := lh hsz
 clear hv hm63 hRES hR0 hE0 hn hX hw0 hb0 hsz hi hiP
 go_enter Tryz.func133, Tryz.ntmps133
 go_wp2_with (first | (rw [← HW0.out]; refine wpList_load_row rfl _ _ rfl w.heap.size rfl _ X (0, 0) _ HX0.out Tryz.underlying25 rfl HXS.out ?_) | (refine wpList_load_row rfl _ _ rfl w.heap.size rfl _ X (0, 0) _ HX0.out Tryz.underlying25 rfl HXS.out ?_) | (refine wpList_store_rowA rfl _ _ _ rfl w0.heap.size X rfl rfl _ _ (heap_new _ _) HXS.out (by rw [← HXN.out]; rfl) HXO.out ?_) | fail)
 intro u1 hu1
 have hb : Below w0.heap.size w0 u1 := by rw [hu1.out]; exact below_row bAx (Nat.le_refl _) _
 have hy : u1.heap[w0.heap.size]? = some (.cells X 25 (0, 0)) := by rw [hu1.out]; exact setRow_at (heap_new _ _)
 clear hu1
 obtain ⟨w1, hww⟩ : ∃ w', w' = u1 := ⟨_, rfl⟩
 rw [← hww] at hb hy ⊢
 clear hww
 obtain ⟨BA, hBA⟩ := nXe (w0.heap.size)
 rw [← hBA] at hy ⊢
 have gA : w.heap.size ≤ BA := by rw [hBA]; exact HB0.out.size
 clear hBA
 have HB1 := tbB HB0 hb
 have HA1 := lh hy
 clear hb hy
 have Hnil := lh (AccR.below (AccR.nil (f := strN) (e := 9) (size := 1) w) HB1.out)
 rw [HXe.out] at HA1
 go_wp2
 go_loopw [1, 8, 23] (fun q out j wr => ∃ (k m : Nat) (y : H32) (vo : Value) (ts : List ByteArray), q = .int .i64 m ∧ out = vo ∧ j = .int .i64 k ∧ k ≤ n ∧ m < 128 ∧ Hid (m < 2 ^ (n - k)) ∧ Hid (climbH y m (L.drop k) = RES) ∧ AccS w wr vo ts ∧ ts.length = k ∧ Hid (0 < k → ∃ t, ts[k - 1]? = some t ∧ t.size = 65 ∧ ShaS.sum (bl t) = y.l) ∧ wr.heap[BA]? = some (.cells y.A 25 (0, 0)))
  (fun _ _ j _ => n - (intOf j).toNat)
 case atStart => exact ⟨0, i, x, _, [], rfl, rfl, rfl, by omega, by omega, HI, HR0, Hnil.out, rfl, lh (fun h => by omega), HA1.out⟩
 case round =>
  obtain ⟨k, m, y, vo, ts, rfl, rfl, rfl, hk, hm, hmp, hR, hA, htl, hlast, hy⟩ := hrel
  have HMP : Hid (m < 2 ^ (n - k)) := hmp
  have HR : Hid (climbH y m (L.drop k) = RES) := hR
  have HLA : Hid (0 < k → ∃ t, ts[k - 1]? = some t ∧ t.size = 65 ∧ ShaS.sum (bl t) = y.l) := hlast
  have HA := lh hA
  have HY := lh hy
  have HTL := lh htl
  have HBr := lh hA.bel
  clear hmp hR hlast hA hy htl Hnil HR0 HI HA1
  by_cases hlt : k < n
  ·skip
   obtain ⟨p, hp⟩ : ∃ p, L[k]? = some p := ⟨_, List.getElem?_eq_getElem (by rw [← Hn.out]; exact hlt)⟩
   have hdrop : L.drop k = p :: L.drop (k + 1) := by
    have hlt' : k < L.length := by rw [← Hn.out]; exact hlt
    rw [List.drop_eq_getElem_cons hlt']
    rw [List.getElem?_eq_getElem hlt'] at hp
    rw [Option.some.inj hp]
   obtain ⟨b, ao, rfl, hblt, hcc⟩ := Hrow.out k p hp
   obtain ⟨P, hP⟩ : ∃ E : Array Value, E = (p).A := ⟨_, rfl⟩
   have hPn : P.size = 32 := by rw [hP]; exact H32.size _
   have HPS := lh (show (Tryz.prog.info? 25).map (·.size) = some P.size by rw [hP]; exact H32.info _)
   have HPN := lh (show 32 = P.size by rw [hP]; exact (H32.size _).symm)
   have HPO := lh (show P.all (·.oneCell') = true by rw [hP]; exact H32.one _)
   have HPe := lh hP
   obtain ⟨Y, hY⟩ : ∃ E : Array Value, E = (y).A := ⟨_, rfl⟩
   have hYn : Y.size = 32 := by rw [hY]; exact H32.size _
   have HYS := lh (show (Tryz.prog.info? 25).map (·.size) = some Y.size by rw [hY]; exact H32.info _)
   have HYN := lh (show 32 = Y.size by rw [hY]; exact (H32.size _).symm)
   have HYO := lh (show Y.all (·.oneCell') = true by rw [hY]; exact H32.one _)
   have HYe := lh hY
   have hcc2 : ∀ (j : Nat) (u : Value), P.toList[j]? = some u → wr.cell? ⟨b, ao + k * 32 + j, none⟩ = some u := fun j u h => (HBr.out.cell (p := ⟨b, ao + k * 32 + j, none⟩) hblt).trans (hcc j u (by rw [hP] at h; exact h))
   have Hcc := lh hcc2
   rw [← hY] at HY
   have hT1 := fun w => Text2_ok w y p
   have hT2 := fun w => Text2_ok w p y
   rw [← hY, ← hP] at hT1 hT2
   obtain ⟨S1, hS1⟩ := nXe (bsOf (twoT y.l p.l))
   obtain ⟨S2, hS2⟩ := nXe (bsOf (twoT p.l y.l))
   have hs1 : S1.size = 65 := by rw [hS1, size_bsOf]; unfold twoT; simp [y.len, p.len]
   have hs2 : S2.size = 65 := by rw [hS2, size_bsOf]; unfold twoT; simp [y.len, p.len]
   have he1 : ShaS.sum (bl S1) = (aboveH y p).l := by rw [hS1, bl_bsOf]; rfl
   have he2 : ShaS.sum (bl S2) = (aboveH p y).l := by rw [hS2, bl_bsOf]; rfl
   rw [← hS1] at hT1
   rw [← hS2] at hT2
   have hstep := climbH_step y p m (L.drop (k + 1))
   rw [← hdrop, HR.out] at hstep
   have HT1 := lh hT1
   have HT2 := lh hT2
   have He1 := lh he1
   have He2 := lh he2
   have HST := lh hstep
   have hd2 : ((m : Nat) : Int).tdiv 2 = ((m / 2 : Nat) : Int) := rfl
   have hm2 : ((m : Nat) : Int).tmod 2 = ((m % 2 : Nat) : Int) := rfl
   obtain ⟨mq, hmq⟩ := nXe (m / 2)
   obtain ⟨mr, hmr⟩ := nXe (m % 2)
   rw [← hmq] at hd2
   rw [← hmr] at hm2
   have hmq64 : mq < 64 := by omega
   have hmr2 : mr < 2 := by omega
   have hmqp : mq < 2 ^ (n - (k + 1)) := by
    have h := HMP.out
    rw [show n - k = (n - (k + 1)) + 1 by omega, Nat.pow_succ] at h
    omega
   rw [← hmq] at HST
   have HMQ := lh hmqp
   have Hmr := lh hmr
   clear hT1 hT2 he1 he2 hstep hS1 hS2 hP hY hcc hcc2 hp hdrop hmq hmr hmqp HMP HR
   go_wp2_with (first | (refine wpList_load_rowO rfl _ _ rfl b (ao + k * 32) rfl P Hcc.out Tryz.underlying25 rfl HPS.out ?_) | (refine wpList_store_rowA rfl _ _ _ rfl wr.heap.size P rfl rfl _ _ (heap_new _ _) HPS.out (by rw [← HPN.out]; rfl) HPO.out ?_) | fail)
   intro u1 hu1
   have hb : Below wr.heap.size wr u1 := by rw [hu1.out]; exact below_row bAx (Nat.le_refl _) _
   have hy : u1.heap[wr.heap.size]? = some (.cells P 25 (0, 0)) := by rw [hu1.out]; exact setRow_at (heap_new _ _)
   clear hu1
   obtain ⟨w2, hww⟩ : ∃ w', w' = u1 := ⟨_, rfl⟩
   rw [← hww] at hb hy ⊢
   clear hww
   obtain ⟨BP, hBP⟩ := nXe (wr.heap.size)
   rw [← hBP] at hy ⊢
   clear hBP
   have HA2 := lh (HA.out.below hb)
   have HY2 := kpB hb HY
   have HP2 := lh hy
   clear hb hy
   go_wp2_with (first | (refine wpList_load_row rfl _ _ rfl BA rfl _ Y (0, 0) _ HY2.out Tryz.underlying25 rfl HYS.out ?_) | (refine wpList_load_row rfl _ _ rfl BP rfl _ P (0, 0) _ HP2.out Tryz.underlying25 rfl HPS.out ?_) | fail)
   refine (HT1.out w2).mono ?_
   rintro e w3 ⟨rfl, hb⟩
   have HA3 := lh (HA2.out.below hb)
   have HY3 := kpB hb HY2
   have HP3 := kpB hb HP2
   clear hb
   have hcm : (mr = 0 ∧ (aboveH y p) = (if m % 2 = 0 then aboveH y p else aboveH p y)) ∨ (mr = 1 ∧ (aboveH p y) = (if m % 2 = 0 then aboveH y p else aboveH p y)) := by
    rcases Nat.lt_or_ge mr 1 with h | h
    ·exact .inl ⟨by omega, by rw [if_pos (by rw [← Hmr.out]; omega)]⟩
    ·exact .inr ⟨by omega, by rw [if_neg (by rw [← Hmr.out]; omega)]⟩
   rcases hcm with ⟨rfl, hq⟩ | ⟨rfl, hq⟩
   ·skip
    have Hq := lh hq
    clear hq
    go_wp2_with (at_builtin; go_must (refine wpList_accK OctQ.tyStrs strNF HA3.out S1 rfl _ _ rfl rfl #[.string S1] rfl _ rfl (by first | rfl | simp) ?hl ?hb ?go))
    case hl => rw [HTL.out]; unfold maxLen; omega
    case hb => rw [HTL.out]; omega
    case go =>
    intro v5 w5 A5 K5
    have hb5 : Below w.heap.size w w5 := A5.bel
    have HA5 := lh A5
    have HY5 := lh (show w5.heap[BA]? = some (.cells Y 25 (0, 0)) by first | exact K5 _ _ _ _ HY3.out (by decide) | exact K5 _ _ _ _ _ HY3.out (by decide))
    clear A5 K5 hb5
    go_wp2_with fail
    refine (EntZ.Sum2_ok w5 S1 (by omega)).mono ?_
    rintro e w6 ⟨rfl, hb⟩
    rw [He1.out]
    have HA6 := lh (HA5.out.below hb)
    have HY6 := kpB hb HY5
    clear hb
    obtain ⟨yn, hyn⟩ := nXe (aboveH y p)
    rw [show (byV (aboveH y p).l).toArray = yn.A from by rw [hyn]; rfl]
    obtain ⟨N, hN⟩ : ∃ E : Array Value, E = (yn).A := ⟨_, rfl⟩
    have hNn : N.size = 32 := by rw [hN]; exact H32.size _
    have HNS := lh (show (Tryz.prog.info? 25).map (·.size) = some N.size by rw [hN]; exact H32.info _)
    have HNN := lh (show 32 = N.size by rw [hN]; exact (H32.size _).symm)
    have HNO := lh (show N.all (·.oneCell') = true by rw [hN]; exact H32.one _)
    have HNe := lh hN
    rw [← hN]
    have Hyn := lh hyn
    clear hyn hN
    go_wp2_with (first | (refine wpList_store_rowA rfl _ _ _ rfl BA N rfl rfl _ _ HY6.out HNS.out (by rw [← HYN.out]; exact HNN.out) HNO.out ?_) | fail)
    intro wf hwf
    have HAf := lh (show AccS w wf v5 (ts ++ [S1]) by rw [hwf.out]; exact acc_setRow HA6.out HY6.out gA)
    have HYf := lh (show wf.heap[BA]? = some (.cells N 25 (0, 0)) by rw [hwf.out]; exact setRow_at HY6.out)
    clear hwf
    go_wp2
    go_roundw
    case rel =>
     refine ⟨k + 1, mq, yn, _, ts ++ [S1], by go_num, rfl, by go_num, by omega, by omega, HMQ, lh ?_, HAf.out, by rw [List.length_append, HTL.out]; rfl, lh (fun _ => ⟨S1, ?_, hs1, ?_⟩), ?_⟩
     ·rw [Hyn.out, Hq.out]; exact HST.out.symm
     ·rw [Nat.add_sub_cancel, List.getElem?_append_right (by rw [HTL.out]; exact Nat.le_refl _), HTL.out, Nat.sub_self]; rfl
     ·rw [He1.out, Hyn.out]
     ·rw [← HNe.out]; exact HYf.out
    case measure => simp [intOf]; omega
   ·skip
    go_wp2_with (first | (refine wpList_load_row rfl _ _ rfl BA rfl _ Y (0, 0) _ HY3.out Tryz.underlying25 rfl HYS.out ?_) | (refine wpList_load_row rfl _ _ rfl BP rfl _ P (0, 0) _ HP3.out Tryz.underlying25 rfl HPS.out ?_) | fail)
    refine (HT2.out w3).mono ?_
    rintro e w4 ⟨rfl, hb⟩
    have HA4 := lh (HA3.out.below hb)
    have HY4 := kpB hb HY3
    have HP4 := kpB hb HP3
    clear hb
    have Hq := lh hq
    clear hq
    go_wp2_with (at_builtin; go_must (refine wpList_accK OctQ.tyStrs strNF HA4.out S2 rfl _ _ rfl rfl #[.string S2] rfl _ rfl (by first | rfl | simp) ?hl ?hb ?go))
    case hl => rw [HTL.out]; unfold maxLen; omega
    case hb => rw [HTL.out]; omega
    case go =>
    intro v5 w5 A5 K5
    have hb5 : Below w.heap.size w w5 := A5.bel
    have HA5 := lh A5
    have HY5 := lh (show w5.heap[BA]? = some (.cells Y 25 (0, 0)) by first | exact K5 _ _ _ _ HY4.out (by decide) | exact K5 _ _ _ _ _ HY4.out (by decide))
    clear A5 K5 hb5
    go_wp2_with fail
    refine (EntZ.Sum2_ok w5 S2 (by omega)).mono ?_
    rintro e w6 ⟨rfl, hb⟩
    rw [He2.out]
    have HA6 := lh (HA5.out.below hb)
    have HY6 := kpB hb HY5
    clear hb
    obtain ⟨yn, hyn⟩ := nXe (aboveH p y)
    rw [show (byV (aboveH p y).l).toArray = yn.A from by rw [hyn]; rfl]
    obtain ⟨N, hN⟩ : ∃ E : Array Value, E = (yn).A := ⟨_, rfl⟩
    have hNn : N.size = 32 := by rw [hN]; exact H32.size _
    have HNS := lh (show (Tryz.prog.info? 25).map (·.size) = some N.size by rw [hN]; exact H32.info _)
    have HNN := lh (show 32 = N.size by rw [hN]; exact (H32.size _).symm)
    have HNO := lh (show N.all (·.oneCell') = true by rw [hN]; exact H32.one _)
    have HNe := lh hN
    rw [← hN]
    have Hyn := lh hyn
    clear hyn hN
    go_wp2_with (first | (refine wpList_store_rowA rfl _ _ _ rfl BA N rfl rfl _ _ HY6.out HNS.out (by rw [← HYN.out]; exact HNN.out) HNO.out ?_) | fail)
    intro wf hwf
    have HAf := lh (show AccS w wf v5 (ts ++ [S2]) by rw [hwf.out]; exact acc_setRow HA6.out HY6.out gA)
    have HYf := lh (show wf.heap[BA]? = some (.cells N 25 (0, 0)) by rw [hwf.out]; exact setRow_at HY6.out)
    clear hwf
    go_wp2
    go_roundw
    case rel =>
     refine ⟨k + 1, mq, yn, _, ts ++ [S2], by go_num, rfl, by go_num, by omega, by omega, HMQ, lh ?_, HAf.out, by rw [List.length_append, HTL.out]; rfl, lh (fun _ => ⟨S2, ?_, hs2, ?_⟩), ?_⟩
     ·rw [Hyn.out, Hq.out]; exact HST.out.symm
     ·rw [Nat.add_sub_cancel, List.getElem?_append_right (by rw [HTL.out]; exact Nat.le_refl _), HTL.out, Nat.sub_self]; rfl
     ·rw [He2.out, Hyn.out]
     ·rw [← HNe.out]; exact HYf.out
    case measure => simp [intOf]; omega
  ·skip
   obtain rfl : k = n := by omega
   have hm0 : m = 0 := by have h := HMP.out; rw [Nat.sub_self] at h; omega
   subst hm0
   have hfin : y = RES := by have h := HR.out; rw [List.drop_of_length_le (by rw [← Hn.out]; exact Nat.le_refl _)] at h; exact h
   subst hfin
   go_wp2
   go_ret2
   exact ⟨_, ts, rfl, HA.out, HTL.out, HLA.out, HE0.out⟩
theorem Climb2_ok (w : World) (x : H32) (i : Nat) (v : Value) (L : List H32) (hv : Sl w v 32 L.length (L.flatMap H32.cs)) (hL : L.length ≤ 7) (hi : i < 2 ^ L.length) : Calls Tryz.prog 111 #[.agg x.A, .int .i64 i, v] w (RB (.tuple #[.agg (climbH x i L).A, .int .i64 0]) w) := by
 obtain ⟨RES, hRES⟩ := nXe (climbH x i L)
 have hW := fun w' (hb : Below w.heap.size w w') => Way2_ok w' x i v L (Sl.below hv hb) hL hi
 rw [← hRES] at hW ⊢
 obtain ⟨n, hn⟩ := nXe (L.length)
 rw [← hn] at hW hL
 obtain ⟨X, hX⟩ : ∃ E : Array Value, E = (x).A := ⟨_, rfl⟩
 have hXn : X.size = 32 := by rw [hX]; exact H32.size _
 have HXS := lh (show (Tryz.prog.info? 25).map (·.size) = some X.size by rw [hX]; exact H32.info _)
 have HXN := lh (show 32 = X.size by rw [hX]; exact (H32.size _).symm)
 have HXO := lh (show X.all (·.oneCell') = true by rw [hX]; exact H32.one _)
 have HXe := lh hX
 obtain ⟨R, hR⟩ : ∃ E : Array Value, E = (RES).A := ⟨_, rfl⟩
 have hRn : R.size = 32 := by rw [hR]; exact H32.size _
 have HRS := lh (show (Tryz.prog.info? 25).map (·.size) = some R.size by rw [hR]; exact H32.info _)
 have HRN := lh (show 32 = R.size by rw [hR]; exact (H32.size _).symm)
 have HRO := lh (show R.all (·.oneCell') = true by rw [hR]; exact H32.one _)
 have HRe := lh hR
 obtain ⟨Z, hZ⟩ : ∃ E : Array Value, E = (zeroH).A := ⟨_, rfl⟩
 have hZn : Z.size = 32 := by rw [hZ]; exact H32.size _
 have HZS := lh (show (Tryz.prog.info? 25).map (·.size) = some Z.size by rw [hZ]; exact H32.info _)
 have HZN := lh (show 32 = Z.size by rw [hZ]; exact (H32.size _).symm)
 have HZO := lh (show Z.all (·.oneCell') = true by rw [hZ]; exact H32.one _)
 have HZe := lh hZ
 rw [← hX] at hW ⊢
 rw [← hR]
 have HLIT : Hid (zq0 Z) := lh (by rw [hZ]; unfold zq0; kernel_rfl)
 obtain ⟨w0, hw0⟩ := nXe ((w.alloc (.cells X 25)).alloc (.cells Z 25))
 have hb0 : Below w.heap.size w w0 := by rw [hw0]; exact ((Below.refl _ w).alloc (Nat.le_refl _) _).alloc (by simp) _
 have HX0 := lh (show w0.heap[w.heap.size]? = some (.cells X 25 (0, 0)) by rw [hw0]; exact heap_at (heap_new _ _) _)
 have HZ0 := lh (show w0.heap[w.heap.size + 1]? = some (.cells Z 25 (0, 0)) by rw [hw0]; exact heap_new' _ (by simp))
 have HB0 := lh hb0
 have HW0 := lh hw0
 have HW := lh (hW w0 hb0)
 clear hW hRES hn hX hR hZ hw0 hb0 hv hi
 go_enter Tryz.func111, Tryz.ntmps111
 go_wp2_with (first | (rw [HLIT.out, ← HW0.out]; refine wpList_load_row rfl _ _ rfl w.heap.size rfl _ X (0, 0) _ HX0.out Tryz.underlying25 rfl HXS.out ?_) | (refine wpList_load_row rfl _ _ rfl w.heap.size rfl _ X (0, 0) _ HX0.out Tryz.underlying25 rfl HXS.out ?_) | fail)
 refine HW.out.mono ?_
 rintro e w1 ⟨u, ts, rfl, hA, hl, hlast, h0⟩
 have hb := hA.bel
 have HB1 := tbB HB0 hb
 have HX1 := kpB hb HX0
 have HZ1 := kpB hb HZ0
 have hsl := hA.sl
 rw [hl] at hsl
 obtain ⟨a1, c1, rfl, hc1, hm1⟩ := hsl.form
 have Hsl := lh hsl
 have Hlast := lh hlast
 have H0 := lh h0
 clear hA hb hsl hlast h0
 rcases Nat.eq_zero_or_pos n with hz | hp
 ·skip
  subst hz
  have hXR : X = R := by rw [HXe.out, HRe.out, H0.out rfl]
  subst hXR
  go_wp2_with (first | (refine wpList_load_row rfl _ _ rfl w.heap.size rfl _ X (0, 0) _ HX1.out Tryz.underlying25 rfl HXS.out ?_) | (refine wpList_store_rowA rfl _ _ _ rfl (w.heap.size + 1) X rfl rfl _ _ HZ1.out HXS.out (by rw [← HZN.out]; exact HXN.out) HXO.out ?_) | fail)
  intro wf hwf
  go_wp2
  refine bodyPost_ret (v := .tuple #[.agg X, .int .i64 0]) (WireT.results_cell_slot rfl _ _ (w.heap.size + 1) 25 X (0, 0) _ rfl (by rw [hwf.out]; exact setRow_at HZ1.out) Tryz.underlying25 rfl HXS.out rfl) rfl ⟨rfl, by rw [hwf.out]; exact below_row HB1.out (by omega) _⟩
 ·skip
  obtain ⟨t, ht, hts, hsum⟩ := Hlast.out hp
  obtain ⟨n1, rfl⟩ : ∃ q, n = q + 1 := ⟨n - 1, by omega⟩
  rw [Nat.add_sub_cancel] at ht
  obtain ⟨b, bo, hae, hblt, hcc⟩ := row_cells strNF (by omega) (l := ts) (by rw [hl]; exact Hsl.out) ht
  subst hae
  have hcell : w1.cell? ⟨b, bo + n1, none⟩ = some (.string t) := by have := hcc 0 (.string t) rfl; rw [show bo + n1 * 1 + 0 = bo + n1 by omega] at this; exact this
  have hSum := fun w => EntZ.Sum2_ok w t (by omega)
  rw [hsum, show (byV RES.l).toArray = R from by rw [HRe.out]; rfl] at hSum
  have HS := lh hSum
  clear hcc hSum hsum ht Hlast H0 Hsl hl
  go_wp2_with fail
  refine (HS.out w1).mono ?_
  rintro e w2 ⟨rfl, hb⟩
  have HB2 := tbB HB1 hb
  have HZ2 := kpB hb HZ1
  clear hb
  go_wp2_with (first | (refine wpList_store_rowA rfl _ _ _ rfl (w.heap.size + 1) R rfl rfl _ _ HZ2.out HRS.out (by rw [← HZN.out]; exact HRN.out) HRO.out ?_) | fail)
  intro wf hwf
  go_wp2
  refine bodyPost_ret (v := .tuple #[.agg R, .int .i64 0]) (WireT.results_cell_slot rfl _ _ (w.heap.size + 1) 25 R (0, 0) _ rfl (by rw [hwf.out]; exact setRow_at HZ2.out) Tryz.underlying25 rfl HRS.out rfl) rfl ⟨rfl, by rw [hwf.out]; exact below_row HB2.out (by omega) _⟩
end Go.Proofs.YtkcikadgnnjjjaaGreatDoor.RkW
