/-
  WHAT IS PROVED: contracts and plain laws. Condition: each names its own.
-/
import Derived.Test.YtceiajepcokacaaGreatDoorS0
import Derived.Test.YtceiajepcokacaaGreatDoorZH31
set_option linter.unusedVariables false
set_option linter.unusedSimpArgs false
set_option maxRecDepth 100000
set_option maxHeartbeats 4000000
namespace Go.Proofs.YtceiajepcokacaaGreatDoor
open Go.Proofs.Tryz
namespace RkC
open Go Go.RowKit Go.Shelf OctP OctG RowsX Lift ShaS KeyS ShaA ShaB Steps KeyA KeyB TreeA TreeE TreeF TreeG WireT RkA
def Jm (x y : List UInt8) : List UInt8 := 1 :: (x ++ y)
theorem Ji (w : World) (x y : H32) : Calls Tryz.prog 122 #[.agg x.A, .agg y.A] w (RB (.string (bsOf (Jm x.l y.l))) w) := by
 have hxs := fun w g h => sl_row w g x h
 have hys := fun w g h => sl_row w g y h
 have hxl : x.l.length = 32 := x.len
 have hyl : y.l.length = 32 := y.len
 obtain ⟨X, hX⟩ : ∃ E : Array Value, E = (x).A := ⟨_, rfl⟩
 have HXS := lh (show (Tryz.prog.info? 44).map (·.size) = some X.size by rw [hX]; exact H32.info _)
 have HXN := lh (show 32 = X.size by rw [hX]; exact (H32.size _).symm)
 have HXO := lh (show X.all (·.oneCell') = true by rw [hX]; exact H32.one _)
 have HXe := lh hX
 obtain ⟨Y, hY⟩ : ∃ E : Array Value, E = (y).A := ⟨_, rfl⟩
 have HYS := lh (show (Tryz.prog.info? 44).map (·.size) = some Y.size by rw [hY]; exact H32.info _)
 have HYN := lh (show 32 = Y.size by rw [hY]; exact (H32.size _).symm)
 have HYO := lh (show Y.all (·.oneCell') = true by rw [hY]; exact H32.one _)
 have HYe := lh hY
 rw [← hX] at hxs ⊢
 rw [← hY] at hys ⊢
 obtain ⟨sx, hsx⟩ := nXe (bsOf x.l)
 obtain ⟨sy, hsy⟩ := nXe (bsOf y.l)
 have Mo : sx.size = 32 := by rw [hsx, AY, hxl]
 have Mm : sy.size = 32 := by rw [hsy, AY, hyl]
 obtain ⟨RES, hRES⟩ : ∃ q : ByteArray, q = ⟨#[1]⟩ ++ sx ++ sy := ⟨_, rfl⟩
 have hfin : bsOf (Jm x.l y.l) = RES := by
  rw [hRES, hsx, hsy]
  unfold Jm
  apply JG
  rw [AV]
  simp [bl, bsOf]
 rw [hfin]
 have l1 : ¬ 9223372036854775807 < 1 + sx.size := by omega
 have l2 : ¬ 9223372036854775807 < 1 + sx.size + sy.size := by omega
 have cvx := fun wq (q : wq.heap[w.heap.size]? = some (.cells X 44 (0, 0))) => BX (P := Tryz.prog) wq 100 9 5 underlying100 underlying5 underlying9 _ _ (by have := hxs wq _ q; rw [show 32 = x.l.length from hxl.symm] at this; exact this)
 have cvy := fun wq (q : wq.heap[w.heap.size + 1]? = some (.cells Y 44 (0, 0))) => BX (P := Tryz.prog) wq 100 9 5 underlying100 underlying5 underlying9 _ _ (by have := hys wq _ q; rw [show 32 = y.l.length from hyl.symm] at this; exact this)
 rw [hxl, ← hsx] at cvx
 rw [hyl, ← hsy] at cvy
 obtain ⟨HCX, HCY, HR⟩ := l3h cvx cvy hRES
 obtain ⟨w0, hw0⟩ := nXe ((w.alloc (.cells X 44)).alloc (.cells Y 44))
 have hb0 : Below w.heap.size w w0 := by rw [hw0]; exact ((Below.refl _ w).alloc nR _).alloc (by simp) _
 have HX0 := lh (show w0.heap[w.heap.size]? = some (.cells X 44 (0, 0)) by rw [hw0]; exact Ak (AL _ _) _)
 have HY0 := lh (show w0.heap[w.heap.size + 1]? = some (.cells Y 44 (0, 0)) by rw [hw0]; exact Ad _ (by simp))
 obtain ⟨HB0, HW0⟩ := l2h hb0 hw0
 clear hxs hys hX hY hsx hsy hRES hfin cvx cvy hw0 hb0 hxl hyl
 go_enter func122, ntmps122
 go_wp2_with fail
 rw [← HW0.out]
 refine wp_region_noPanic ?_
 refine Wr.BI (S := (fun W => W.heap[w.heap.size]? = some (.cells X 44 (0, 0)) ∧ W.heap[w.heap.size + 1]? = some (.cells Y 44 (0, 0)))) (K := []) (by kernel_rfl) ?_
 change Wr.Ar _ _ _ _ _ _ _ _ _ (World.drew w0)
 have hBL0 : Below w0.heap.size w0 (World.drew w0) := Bl.drew (Below.refl _ _)
 have hS0 : (World.drew w0).heap[w.heap.size]? = some (.cells X 44 (0, 0)) ∧ (World.drew w0).heap[w.heap.size + 1]? = some (.cells Y 44 (0, 0)) := ⟨(hBL0.block _ (AJ HX0.out)).trans HX0.out, (hBL0.block _ (AJ HY0.out)).trans HY0.out⟩
 refine Wr.tkI 0 ?_ ?_ hS0 ?_
 rotate_left
 ·intro wq hSw
  obtain ⟨q0, q1⟩ := hSw
  obtain ⟨qc0, qf0⟩ := AA q0
  obtain ⟨qc1, qf1⟩ := AA q1
  go_simp
  rfl
 simp only [sq]
 refine Wr.tkK (i := 1) (v := .string sx) rfl (.inl ⟨by rfl, ?_⟩) hS0 ?_
 ·intro wq hSw
  obtain ⟨q0, q1⟩ := hSw
  obtain ⟨qc0, qf0⟩ := AA q0
  obtain ⟨qc1, qf1⟩ := AA q1
  have cv := HCX.out wq q0
  go_simp
 simp only [sq]
 refine Wr.tkI 2 ?_ ?_ hS0 ?_
 rotate_left
 ·intro wq hSw
  obtain ⟨q0, q1⟩ := hSw
  obtain ⟨qc0, qf0⟩ := AA q0
  obtain ⟨qc1, qf1⟩ := AA q1
  go_simp
  rfl
 simp only [sq]
 refine Wr.tkI 3 ?_ ?_ hS0 ?_
 rotate_left
 ·intro wq hSw
  obtain ⟨q0, q1⟩ := hSw
  obtain ⟨qc0, qf0⟩ := AA q0
  obtain ⟨qc1, qf1⟩ := AA q1
  go_simp
  rfl
 simp only [sq]
 refine Wr.tkK (i := 4) (v := .string sy) rfl (.inl ⟨by rfl, ?_⟩) hS0 ?_
 ·intro wq hSw
  obtain ⟨q0, q1⟩ := hSw
  obtain ⟨qc0, qf0⟩ := AA q0
  obtain ⟨qc1, qf1⟩ := AA q1
  have cv := HCY.out wq q1
  go_simp
 simp only [sq]
 refine Wr.tkK (i := 5) (v := .string RES) rfl (.inl ⟨by rfl, ?_⟩) hS0 ?_
 ·intro wq hSw
  obtain ⟨q0, q1⟩ := hSw
  obtain ⟨qc0, qf0⟩ := AA q0
  obtain ⟨qc1, qf1⟩ := AA q1
  have hr := HR.out
  go_simp
 simp only [sq]
 refine Wr.tkI 6 ?_ ?_ hS0 ?_
 rotate_left
 ·intro wq hSw
  obtain ⟨q0, q1⟩ := hSw
  obtain ⟨qc0, qf0⟩ := AA q0
  obtain ⟨qc1, qf1⟩ := AA q1
  go_simp
  rfl
 simp only [sq]
 refine Wr.Ag (by kernel_rfl) (NoPanic.normal ?_) _
 go_wp2
 go_ret
 exact ⟨rfl, HB0.out.trans (hBL0.mono HB0.out.size)⟩
end RkC
namespace RkW
open Go Go.RowKit Go.Shelf OctP OctG RowsX Lift ShaS KeyS ShaA ShaB Steps KeyA KeyB KeyG TreeA TreeB TreeE TreeF TreeG WireT RkA RkC
attribute [-go_sem] Builtin.append_
def Kt (s : ByteArray) : List Value := [.string s]
theorem Ka : El 1 Kt := ⟨fun _ => rfl, fun x u hu => by simp [Kt] at hu; rw [hu]; rfl⟩
abbrev KU (w0 w : World) (v : Value) (l : List ByteArray) : Prop := AccR 9 1 Kt w0 w v l
theorem JH {w0 w : World} {v : Value} {l : List ByteArray} {B : Nat} {cs old : Array Value} (h : KU w0 w v l) (hB : w.heap[B]? = some (.cells old 44 (0, 0))) (hge : w0.heap.size ≤ B) : KU w0 (w.setRow B cs) v l := by
 refine ⟨?_, AQ h.bel hge cs⟩
 obtain ⟨h1, h2⟩ := h.own
 refine ⟨h1, ?_⟩
 rcases h2 with h2 | ⟨g, cap, cur, fr, e1, e2, e3, e4⟩
 ·exact .inl h2
 ·refine .inr ⟨g, cap, cur, fr, e1, e2, ?_, e4⟩
  rw [CO _ (fun hg => by
   subst hg
   rw [hB] at e3
   simp only [Option.some.injEq, Obj.cells.injEq] at e3
   exact absurd e3.2.1 (by decide))]
  exact e3
theorem KG {W : World} {B : Nat} {t e : TypeId} {cs : Array Value} {fr : Nat × Nat} (h : W.heap[B]? = some (.cells cs t fr)) (hte : t ≠ e) {base size k : Nat} {v : Value} {xs : List Value} (hr : Ow W base e size v k xs) : v.ownBlock ≠ some B := by
 rcases hr.2 with ⟨rfl, _⟩ | ⟨g, cap, cur, fr', rfl, _, hgb, _⟩
 ·simp [Value.ownBlock]
 ·intro e'
  obtain rfl : g = B := by simpa [Value.ownBlock] using e'
  rw [h] at hgb
  simp only [Option.some.injEq, Obj.cells.injEq] at hgb
  exact hte hgb.2.1
theorem Ir {P : Program} {α : Type} {f : α → List Value} {t e : TypeId} {size bytes : Nat} {z : Value} {ops : Array Oper} {rest : List Oper} {o : Oper} {a : Act} {w : World} {Q : Exit → Act → World → Prop} (T : BN P t e size bytes z) (F : El size f) {w0 : World} {v : Value} {l : List α} (A : AccR e size f w0 w v l) (x : α)
 (hgd : o.guard = none) (s y : Operand) (ho : o.op = .call { callee := .builtin .append, args := #[s, y], argTypes := #[t, t] }) (hv : a.eval s = v) (cs : Array Value) (hcs : cs.toList = f x)
 (g : Nat) (hy : a.eval y = .slice (some ⟨g, 0, none⟩) 1 1) (hgw : g = w.heap.size) (hl : l.length + 1 ≤ maxLen) (hb : (l.length + 1) * bytes ≤ 140737488355328)
 (h : ∀ v' w', AccR e size f w0 w' v' (l ++ [x]) → (∀ (B : Nat) (cs' : Array Value) (t' : TypeId) (fr : Nat × Nat), w.heap[B]? = some (.cells cs' t' fr) → t' ≠ e → w'.heap[B]? = some (.cells cs' t' fr)) → wpList P ops Q rest (a.put o.dst v') w') : wpList P ops Q (o :: rest) a (w.alloc (.cells cs e)) := by
 subst hgw
 have A' := A.alloc (.cells cs e)
 refine Al _ hgd s y _ _ ho T w0.heap.size v l.length (l.flatMap f) hv A'.own _ 1 (f x) hy (EI T.ht F w x cs hcs e) (l.length + 1) rfl ((l ++ [x]).flatMap f) (by rw [List.flatMap_append, List.flatMap_singleton]) hl hb A'.bel.size ?_
 intro a' c' w' hown hgrow _
 refine h _ _ ⟨?_, Bl.grown A'.bel hgrow (fun j hj => (A.own.lt j hj).1)⟩ (fun B cs' t' fr hB ht => K9 hgrow (Ak hB _) (KG hB ht A.own))
 rw [List.length_append]
 exact hown
theorem Jg (y p : H32) (m : Nat) (r : List H32) : Cs y m (p :: r) = Cs (if m % 2 = 0 then CB y p else CB p y) (m / 2) r := rfl
theorem LA (w : World) (x : H32) (i : Nat) (v : Value) (L : List H32) (hv : Sl w v 32 L.length (L.flatMap H32.cs)) (hL : L.length ≤ 7) (hi : i < 2 ^ L.length) : Calls Tryz.prog 103 #[.agg x.A, .int .i64 i, v] w fun e w' => ∃ u ts, e = .returned (.tuple #[u, .bool true]) ∧ KU w w' u ts ∧ ts.length = L.length ∧ (0 < L.length → ∃ t, ts[L.length - 1]? = some t ∧ t.size = 65 ∧ ShaS.sum (bl t) = (Cs x i L).l) ∧ (L.length = 0 → Cs x i L = x) := by
 obtain ⟨a, cap, rfl, hcap, hm63⟩ := hv.form
 have Hrow := lh (fun (k : Nat) (g : H32) (hx : L[k]? = some g) => BU hF (by omega) hv hx)
 have hi128 : i < 128 := Nat.lt_of_lt_of_le hi (Nat.le_trans (Nat.pow_le_pow_right (by omega) hL) (by omega))
 obtain ⟨RES, hRES⟩ := nXe (Cs x i L)
 have hE0 : L.length = 0 → RES = x := by intro h; rw [hRES, List.length_eq_zero_iff.1 h]; rfl
 rw [← hRES]
 have hR0 : Cs x i (L.drop 0) = RES := by rw [hRES]; rfl
 obtain ⟨HR0, HE0⟩ := l2h hR0 hE0
 obtain ⟨n, hn⟩ := nXe (L.length)
 rw [← hn] at hcap hi hL HE0 ⊢
 have Hn := lh hn
 have hiP : i < 2 ^ (n - 0) := hi
 have HI := lh hiP
 obtain ⟨X, hX⟩ : ∃ E : Array Value, E = (x).A := ⟨_, rfl⟩
 have hXn : X.size = 32 := by rw [hX]; exact H32.size _
 have HXS := lh (show (Tryz.prog.info? 44).map (·.size) = some X.size by rw [hX]; exact H32.info _)
 have HXN := lh (show 32 = X.size by rw [hX]; exact (H32.size _).symm)
 have HXO := lh (show X.all (·.oneCell') = true by rw [hX]; exact H32.one _)
 have HXe := lh hX
 rw [← hX]
 obtain ⟨w0, hw0⟩ := nXe (w.alloc (.cells X 44))
 have hb0 : Below w.heap.size w w0 := by rw [hw0]; exact (Below.refl _ w).alloc nR _
 have HX0 := lh (show w0.heap[w.heap.size]? = some (.cells X 44 (0, 0)) by rw [hw0]; exact AL _ _)
 obtain ⟨HB0, HW0⟩ := l2h hb0 hw0
 have hsz : w0.heap.size = w.heap.size + 1 := by rw [hw0]; simp
 have HSZ := lh hsz
 clear hv hm63 hRES hR0 hE0 hn hX hw0 hb0 hsz hi hiP
 go_enter func103, ntmps103
 go_wp2_with (first | (rw [← HW0.out]; refine wpList_load_row rfl _ _ rfl w.heap.size rfl _ X (0, 0) _ HX0.out underlying44 rfl HXS.out ?_) | (refine wpList_load_row rfl _ _ rfl w.heap.size rfl _ X (0, 0) _ HX0.out underlying44 rfl HXS.out ?_) | (refine AC rfl _ _ _ rfl w0.heap.size X rfl rfl _ _ (AL _ _) HXS.out (by rw [← HXN.out]; rfl) HXO.out ?_) | fail)
 intro u1 hu1
 have hb : Below w0.heap.size w0 u1 := by rw [hu1.out]; exact AQ bAx nR _
 have hy : u1.heap[w0.heap.size]? = some (.cells X 44 (0, 0)) := by rw [hu1.out]; exact AR (AL _ _)
 clear hu1
 obtain ⟨w1, hww⟩ : ∃ w', w' = u1 := ⟨_, rfl⟩
 rw [← hww] at hb hy ⊢
 clear hww
 obtain ⟨BA, hBA⟩ := nXe (w0.heap.size)
 rw [← hBA] at hy ⊢
 have gA : w.heap.size ≤ BA := by rw [hBA]; exact HB0.out.size
 clear hBA
 have HB1 := tbB HB0 hb
 have HA1 := lh hy
 clear hb hy
 have MF := lh (AccR.below (AccR.nil (f := Kt) (e := 9) (size := 1) w) HB1.out)
 rw [HXe.out] at HA1
 go_wp2
 go_loopw [1, 8, 23] (fun q out j wr => ∃ (k m : Nat) (y : H32) (vo : Value) (ts : List ByteArray), q = .int .i64 m ∧ out = vo ∧ j = .int .i64 k ∧ k ≤ n ∧ m < 128 ∧ Hid (m < 2 ^ (n - k)) ∧ Hid (Cs y m (L.drop k) = RES) ∧ KU w wr vo ts ∧ ts.length = k ∧ Hid (0 < k → ∃ t, ts[k - 1]? = some t ∧ t.size = 65 ∧ ShaS.sum (bl t) = y.l) ∧ wr.heap[BA]? = some (.cells y.A 44 (0, 0)))
  (fun _ _ j _ => n - (intOf j).toNat)
 case atStart => exact ⟨0, i, x, _, [], rfl, rfl, rfl, by omega, by omega, HI, HR0, MF.out, rfl, lh (fun h => by omega), HA1.out⟩
 case round =>
  obtain ⟨k, m, y, vo, ts, rfl, rfl, rfl, hk, hm, hmp, hR, hA, htl, hlast, hy⟩ := hrel
  have HMP : Hid (m < 2 ^ (n - k)) := hmp
  have HR : Hid (Cs y m (L.drop k) = RES) := hR
  have HLA : Hid (0 < k → ∃ t, ts[k - 1]? = some t ∧ t.size = 65 ∧ ShaS.sum (bl t) = y.l) := hlast
  obtain ⟨HA, HY, HTL, HBr⟩ := l4h hA hy htl hA.bel
  clear hmp hR hlast hA hy htl MF HR0 HI HA1
  by_cases hlt : k < n
  ·skip
   obtain ⟨p, hp⟩ : ∃ p, L[k]? = some p := ⟨_, List.getElem?_eq_getElem (by rw [← Hn.out]; exact hlt)⟩
   have hdrop : L.drop k = p :: L.drop (k + 1) := by
        have hlt' : k < L.length := by rw [← Hn.out]; exact hlt
        rw [List.drop_eq_getElem_cons hlt']
        rw [List.getElem?_eq_getElem hlt'] at hp
        rw [Option.some.inj hp]
   obtain ⟨b, ao, rfl, hblt, hcc⟩ := Hrow.out k p hp
   obtain ⟨P, hP⟩ : ∃ E : Array Value, E = (p).A := ⟨_, rfl⟩
   have hPn : P.size = 32 := by rw [hP]; exact H32.size _
   have HPS := lh (show (Tryz.prog.info? 44).map (·.size) = some P.size by rw [hP]; exact H32.info _)
   have HPN := lh (show 32 = P.size by rw [hP]; exact (H32.size _).symm)
   have HPO := lh (show P.all (·.oneCell') = true by rw [hP]; exact H32.one _)
   have HPe := lh hP
   obtain ⟨Y, hY⟩ : ∃ E : Array Value, E = (y).A := ⟨_, rfl⟩
   have hYn : Y.size = 32 := by rw [hY]; exact H32.size _
   have HYS := lh (show (Tryz.prog.info? 44).map (·.size) = some Y.size by rw [hY]; exact H32.info _)
   have HYN := lh (show 32 = Y.size by rw [hY]; exact (H32.size _).symm)
   have HYO := lh (show Y.all (·.oneCell') = true by rw [hY]; exact H32.one _)
   have HYe := lh hY
   have hcc2 : ∀ (j : Nat) (u : Value), P.toList[j]? = some u → wr.cell? ⟨b, ao + k * 32 + j, none⟩ = some u := fun j u h => (HBr.out.cell (p := ⟨b, ao + k * 32 + j, none⟩) hblt).trans (hcc j u (by rw [hP] at h; exact h))
   have Hcc := lh hcc2
   rw [← hY] at HY
   have hT1 := fun w => Ji w y p
   have hT2 := fun w => Ji w p y
   rw [← hY, ← hP] at hT1 hT2
   obtain ⟨S1, hS1⟩ := nXe (bsOf (Jm y.l p.l))
   obtain ⟨S2, hS2⟩ := nXe (bsOf (Jm p.l y.l))
   have hs1 : S1.size = 65 := by rw [hS1, AY]; unfold Jm; simp [y.len, p.len]
   have hs2 : S2.size = 65 := by rw [hS2, AY]; unfold Jm; simp [y.len, p.len]
   have he1 : ShaS.sum (bl S1) = (CB y p).l := by rw [hS1, AV]; rfl
   have he2 : ShaS.sum (bl S2) = (CB p y).l := by rw [hS2, AV]; rfl
   rw [← hS1] at hT1
   rw [← hS2] at hT2
   have hstep := Jg y p m (L.drop (k + 1))
   rw [← hdrop, HR.out] at hstep
   obtain ⟨HT1, HT2, He1, He2, HST⟩ := l5h hT1 hT2 he1 he2 hstep
   have hd2 : ((m : Nat) : Int).tdiv 2 = ((m / 2 : Nat) : Int) := rfl
   have hm2 : ((m : Nat) : Int).tmod 2 = ((m % 2 : Nat) : Int) := rfl
   obtain ⟨mq, hmq⟩ := nXe (m / 2)
   obtain ⟨mr, hmr⟩ := nXe (m % 2)
   rw [← hmq] at hd2
   rw [← hmr] at hm2
   have Mj : mq < 64 := by omega
   have Mr : mr < 2 := by omega
   have Lr : mq < 2 ^ (n - (k + 1)) := by
        have h := HMP.out
        rw [show n - k = (n - (k + 1)) + 1 by omega, Nat.pow_succ] at h
        omega
   rw [← hmq] at HST
   obtain ⟨HMQ, Hmr⟩ := l2h Lr hmr
   clear hT1 hT2 he1 he2 hstep hS1 hS2 hP hY hcc hcc2 hp hdrop hmq hmr Lr HMP HR
   go_wp2_with (first | (refine Ah rfl _ _ rfl b (ao + k * 32) rfl P Hcc.out underlying44 rfl HPS.out ?_) | (refine AC rfl _ _ _ rfl wr.heap.size P rfl rfl _ _ (AL _ _) HPS.out (by rw [← HPN.out]; rfl) HPO.out ?_) | fail)
   intro u1 hu1
   have hb : Below wr.heap.size wr u1 := by rw [hu1.out]; exact AQ bAx nR _
   have hy : u1.heap[wr.heap.size]? = some (.cells P 44 (0, 0)) := by rw [hu1.out]; exact AR (AL _ _)
   clear hu1
   obtain ⟨w2, hww⟩ : ∃ w', w' = u1 := ⟨_, rfl⟩
   rw [← hww] at hb hy ⊢
   clear hww
   obtain ⟨BP, hBP⟩ := nXe (wr.heap.size)
   rw [← hBP] at hy ⊢
   clear hBP
   have HA2 := lh (HA.out.below hb)
   have HY2 := kpB hb HY
   have HP2 := lh hy
   clear hb hy
   go_wp2_with (first | (refine wpList_load_row rfl _ _ rfl BA rfl _ Y (0, 0) _ HY2.out underlying44 rfl HYS.out ?_) | (refine wpList_load_row rfl _ _ rfl BP rfl _ P (0, 0) _ HP2.out underlying44 rfl HPS.out ?_) | fail)
   refine (HT1.out w2).mono ?_
   rintro e w3 ⟨rfl, hb⟩
   have HA3 := lh (HA2.out.below hb)
   have HY3 := kpB hb HY2
   have HP3 := kpB hb HP2
   clear hb
   have hcm : (mr = 0 ∧ (CB y p) = (if m % 2 = 0 then CB y p else CB p y)) ∨ (mr = 1 ∧ (CB p y) = (if m % 2 = 0 then CB y p else CB p y)) := by
        rcases Nat.lt_or_ge mr 1 with h | h
        ·exact .inl ⟨by omega, by rw [if_pos (by rw [← Hmr.out]; omega)]⟩
        ·exact .inr ⟨by omega, by rw [if_neg (by rw [← Hmr.out]; omega)]⟩
   rcases hcm with ⟨rfl, hq⟩ | ⟨rfl, hq⟩
   ·skip
    have Hq := lh hq
    clear hq
    go_wp2_with (at_builtin; go_must (refine Ir OctQ.tyStrs Ka HA3.out S1 rfl _ _ rfl rfl #[.string S1] rfl _ rfl (by first | rfl | simp) ?hl ?hb ?go))
    case hl => rw [HTL.out]; unfold maxLen; omega
    case hb => rw [HTL.out]; omega
    case go =>
    intro v5 w5 A5 K5
    have hb5 : Below w.heap.size w w5 := A5.bel
    have HA5 := lh A5
    have HY5 := lh (show w5.heap[BA]? = some (.cells Y 44 (0, 0)) by first | exact K5 _ _ _ _ HY3.out (by decide) | exact K5 _ _ _ _ _ HY3.out (by decide))
    clear A5 K5 hb5
    go_wp2_with fail
    refine (EntZ.GQ w5 S1 (by omega)).mono ?_
    rintro e w6 ⟨rfl, hb⟩
    rw [He1.out]
    have HA6 := lh (HA5.out.below hb)
    have HY6 := kpB hb HY5
    clear hb
    obtain ⟨yn, hyn⟩ := nXe (CB y p)
    rw [show (byV (CB y p).l).toArray = yn.A from by rw [hyn]; rfl]
    obtain ⟨N, hN⟩ : ∃ E : Array Value, E = (yn).A := ⟨_, rfl⟩
    have hNn : N.size = 32 := by rw [hN]; exact H32.size _
    have HNS := lh (show (Tryz.prog.info? 44).map (·.size) = some N.size by rw [hN]; exact H32.info _)
    have HNN := lh (show 32 = N.size by rw [hN]; exact (H32.size _).symm)
    have HNO := lh (show N.all (·.oneCell') = true by rw [hN]; exact H32.one _)
    have HNe := lh hN
    rw [← hN]
    have Hyn := lh hyn
    clear hyn hN
    go_wp2_with (first | (refine AC rfl _ _ _ rfl BA N rfl rfl _ _ HY6.out HNS.out (by rw [← HYN.out]; exact HNN.out) HNO.out ?_) | fail)
    intro wf hwf
    have HAf := lh (show KU w wf v5 (ts ++ [S1]) by rw [hwf.out]; exact JH HA6.out HY6.out gA)
    have HYf := lh (show wf.heap[BA]? = some (.cells N 44 (0, 0)) by rw [hwf.out]; exact AR HY6.out)
    clear hwf
    go_wp2
    go_roundw
    case rel =>
     refine ⟨k + 1, mq, yn, _, ts ++ [S1], by go_num, rfl, by go_num, by omega, by omega, HMQ, lh ?_, HAf.out, by rw [List.length_append, HTL.out]; rfl, lh (fun _ => ⟨S1, ?_, hs1, ?_⟩), ?_⟩
     ·rw [Hyn.out, Hq.out]; exact HST.out.symm
     ·rw [Nat.add_sub_cancel, List.getElem?_append_right (by rw [HTL.out]; exact Nat.le_refl _), HTL.out, Nat.sub_self]; rfl
     ·rw [He1.out, Hyn.out]
     ·rw [← HNe.out]; exact HYf.out
    case measure => simp [intOf]; omega
   ·skip
    go_wp2_with (first | (refine wpList_load_row rfl _ _ rfl BA rfl _ Y (0, 0) _ HY3.out underlying44 rfl HYS.out ?_) | (refine wpList_load_row rfl _ _ rfl BP rfl _ P (0, 0) _ HP3.out underlying44 rfl HPS.out ?_) | fail)
    refine (HT2.out w3).mono ?_
    rintro e w4 ⟨rfl, hb⟩
    have HA4 := lh (HA3.out.below hb)
    have HY4 := kpB hb HY3
    have HP4 := kpB hb HP3
    clear hb
    have Hq := lh hq
    clear hq
    go_wp2_with (at_builtin; go_must (refine Ir OctQ.tyStrs Ka HA4.out S2 rfl _ _ rfl rfl #[.string S2] rfl _ rfl (by first | rfl | simp) ?hl ?hb ?go))
    case hl => rw [HTL.out]; unfold maxLen; omega
    case hb => rw [HTL.out]; omega
    case go =>
    intro v5 w5 A5 K5
    have hb5 : Below w.heap.size w w5 := A5.bel
    have HA5 := lh A5
    have HY5 := lh (show w5.heap[BA]? = some (.cells Y 44 (0, 0)) by first | exact K5 _ _ _ _ HY4.out (by decide) | exact K5 _ _ _ _ _ HY4.out (by decide))
    clear A5 K5 hb5
    go_wp2_with fail
    refine (EntZ.GQ w5 S2 (by omega)).mono ?_
    rintro e w6 ⟨rfl, hb⟩
    rw [He2.out]
    have HA6 := lh (HA5.out.below hb)
    have HY6 := kpB hb HY5
    clear hb
    obtain ⟨yn, hyn⟩ := nXe (CB p y)
    rw [show (byV (CB p y).l).toArray = yn.A from by rw [hyn]; rfl]
    obtain ⟨N, hN⟩ : ∃ E : Array Value, E = (yn).A := ⟨_, rfl⟩
    have hNn : N.size = 32 := by rw [hN]; exact H32.size _
    have HNS := lh (show (Tryz.prog.info? 44).map (·.size) = some N.size by rw [hN]; exact H32.info _)
    have HNN := lh (show 32 = N.size by rw [hN]; exact (H32.size _).symm)
    have HNO := lh (show N.all (·.oneCell') = true by rw [hN]; exact H32.one _)
    have HNe := lh hN
    rw [← hN]
    have Hyn := lh hyn
    clear hyn hN
    go_wp2_with (first | (refine AC rfl _ _ _ rfl BA N rfl rfl _ _ HY6.out HNS.out (by rw [← HYN.out]; exact HNN.out) HNO.out ?_) | fail)
    intro wf hwf
    have HAf := lh (show KU w wf v5 (ts ++ [S2]) by rw [hwf.out]; exact JH HA6.out HY6.out gA)
    have HYf := lh (show wf.heap[BA]? = some (.cells N 44 (0, 0)) by rw [hwf.out]; exact AR HY6.out)
    clear hwf
    go_wp2
    go_roundw
    case rel =>
     refine ⟨k + 1, mq, yn, _, ts ++ [S2], by go_num, rfl, by go_num, by omega, by omega, HMQ, lh ?_, HAf.out, by rw [List.length_append, HTL.out]; rfl, lh (fun _ => ⟨S2, ?_, hs2, ?_⟩), ?_⟩
     ·rw [Hyn.out, Hq.out]; exact HST.out.symm
     ·rw [Nat.add_sub_cancel, List.getElem?_append_right (by rw [HTL.out]; exact Nat.le_refl _), HTL.out, Nat.sub_self]; rfl
     ·rw [He2.out, Hyn.out]
     ·rw [← HNe.out]; exact HYf.out
    case measure => simp [intOf]; omega
  ·skip
   obtain rfl : k = n := by omega
   have hm0 : m = 0 := by have h := HMP.out; rw [Nat.sub_self] at h; omega
   subst hm0
   have hfin : y = RES := by have h := HR.out; rw [List.drop_of_length_le (by rw [← Hn.out]; exact Nat.le_refl _)] at h; exact h
   subst hfin
   go_wp2
   go_ret2
   exact ⟨_, ts, rfl, HA.out, HTL.out, HLA.out, HE0.out⟩
theorem KT (w : World) (x : H32) (i : Nat) (v : Value) (L : List H32) (hv : Sl w v 32 L.length (L.flatMap H32.cs)) (hL : L.length ≤ 7) (hi : i < 2 ^ L.length) : Calls Tryz.prog 74 #[.agg x.A, .int .i64 i, v] w (RB (.tuple #[.agg (Cs x i L).A, .int .i64 0]) w) := by
 obtain ⟨RES, hRES⟩ := nXe (Cs x i L)
 have hW := fun w' (hb : Below w.heap.size w w') => LA w' x i v L (Sl.below hv hb) hL hi
 rw [← hRES] at hW ⊢
 obtain ⟨n, hn⟩ := nXe (L.length)
 rw [← hn] at hW hL
 obtain ⟨X, hX⟩ : ∃ E : Array Value, E = (x).A := ⟨_, rfl⟩
 have hXn : X.size = 32 := by rw [hX]; exact H32.size _
 have HXS := lh (show (Tryz.prog.info? 44).map (·.size) = some X.size by rw [hX]; exact H32.info _)
 have HXN := lh (show 32 = X.size by rw [hX]; exact (H32.size _).symm)
 have HXO := lh (show X.all (·.oneCell') = true by rw [hX]; exact H32.one _)
 have HXe := lh hX
 obtain ⟨R, hR⟩ : ∃ E : Array Value, E = (RES).A := ⟨_, rfl⟩
 have hRn : R.size = 32 := by rw [hR]; exact H32.size _
 have HRS := lh (show (Tryz.prog.info? 44).map (·.size) = some R.size by rw [hR]; exact H32.info _)
 have HRN := lh (show 32 = R.size by rw [hR]; exact (H32.size _).symm)
 have HRO := lh (show R.all (·.oneCell') = true by rw [hR]; exact H32.one _)
 have HRe := lh hR
 obtain ⟨Z, hZ⟩ : ∃ E : Array Value, E = (CQ).A := ⟨_, rfl⟩
 have hZn : Z.size = 32 := by rw [hZ]; exact H32.size _
 have HZS := lh (show (Tryz.prog.info? 44).map (·.size) = some Z.size by rw [hZ]; exact H32.info _)
 have HZN := lh (show 32 = Z.size by rw [hZ]; exact (H32.size _).symm)
 have HZO := lh (show Z.all (·.oneCell') = true by rw [hZ]; exact H32.one _)
 have HZe := lh hZ
 rw [← hX] at hW ⊢
 rw [← hR]
 have HLIT : Hid (zq0 Z) := lh (by rw [hZ]; unfold zq0; kernel_rfl)
 obtain ⟨w0, hw0⟩ := nXe ((w.alloc (.cells X 44)).alloc (.cells Z 44))
 have hb0 : Below w.heap.size w w0 := by rw [hw0]; exact ((Below.refl _ w).alloc nR _).alloc (by simp) _
 have HX0 := lh (show w0.heap[w.heap.size]? = some (.cells X 44 (0, 0)) by rw [hw0]; exact Ak (AL _ _) _)
 have HZ0 := lh (show w0.heap[w.heap.size + 1]? = some (.cells Z 44 (0, 0)) by rw [hw0]; exact Ad _ (by simp))
 obtain ⟨HB0, HW0, HW⟩ := l3h hb0 hw0 (hW w0 hb0)
 clear hW hRES hn hX hR hZ hw0 hb0 hv hi
 go_enter func74, ntmps74
 go_wp2_with (first | (rw [HLIT.out, ← HW0.out]; refine wpList_load_row rfl _ _ rfl w.heap.size rfl _ X (0, 0) _ HX0.out underlying44 rfl HXS.out ?_) | (refine wpList_load_row rfl _ _ rfl w.heap.size rfl _ X (0, 0) _ HX0.out underlying44 rfl HXS.out ?_) | fail)
 refine HW.out.mono ?_
 rintro e w1 ⟨u, ts, rfl, hA, hl, hlast, h0⟩
 have hb := hA.bel
 have HB1 := tbB HB0 hb
 have HX1 := kpB hb HX0
 have HZ1 := kpB hb HZ0
 have hsl := hA.sl
 rw [hl] at hsl
 obtain ⟨a1, c1, rfl, hc1, hm1⟩ := hsl.form
 obtain ⟨Hsl, LC, H0⟩ := l3h hsl hlast h0
 clear hA hb hsl hlast h0
 rcases Nat.eq_zero_or_pos n with hz | hp
 ·skip
  subst hz
  have hXR : X = R := by rw [HXe.out, HRe.out, H0.out rfl]
  subst hXR
  go_wp2_with (first | (refine wpList_load_row rfl _ _ rfl w.heap.size rfl _ X (0, 0) _ HX1.out underlying44 rfl HXS.out ?_) | (refine AC rfl _ _ _ rfl (w.heap.size + 1) X rfl rfl _ _ HZ1.out HXS.out (by rw [← HZN.out]; exact HXN.out) HXO.out ?_) | fail)
  intro wf hwf
  go_wp2
  refine bodyPost_ret (v := .tuple #[.agg X, .int .i64 0]) (WireT.AU rfl _ _ (w.heap.size + 1) 44 X (0, 0) _ rfl (by rw [hwf.out]; exact AR HZ1.out) underlying44 rfl HXS.out rfl) rfl ⟨rfl, by rw [hwf.out]; exact AQ HB1.out (by omega) _⟩
 ·skip
  obtain ⟨t, ht, hts, hsum⟩ := LC.out hp
  obtain ⟨n1, rfl⟩ : ∃ q, n = q + 1 := ⟨n - 1, by omega⟩
  rw [Nat.add_sub_cancel] at ht
  obtain ⟨b, bo, hae, hblt, hcc⟩ := BU Ka (by omega) (l := ts) (by rw [hl]; exact Hsl.out) ht
  subst hae
  have hcell : w1.cell? ⟨b, bo + n1, none⟩ = some (.string t) := by have := hcc 0 (.string t) rfl; rw [show bo + n1 * 1 + 0 = bo + n1 by omega] at this; exact this
  have LW := fun w => EntZ.GQ w t (by omega)
  rw [hsum, show (byV RES.l).toArray = R from by rw [HRe.out]; rfl] at LW
  have HS := lh LW
  clear hcc LW hsum ht LC H0 Hsl hl
  go_wp2_with fail
  refine (HS.out w1).mono ?_
  rintro e w2 ⟨rfl, hb⟩
  have HB2 := tbB HB1 hb
  have HZ2 := kpB hb HZ1
  clear hb
  go_wp2_with (first | (refine AC rfl _ _ _ rfl (w.heap.size + 1) R rfl rfl _ _ HZ2.out HRS.out (by rw [← HZN.out]; exact HRN.out) HRO.out ?_) | fail)
  intro wf hwf
  go_wp2
  refine bodyPost_ret (v := .tuple #[.agg R, .int .i64 0]) (WireT.AU rfl _ _ (w.heap.size + 1) 44 R (0, 0) _ rfl (by rw [hwf.out]; exact AR HZ2.out) underlying44 rfl HRS.out rfl) rfl ⟨rfl, by rw [hwf.out]; exact AQ HB2.out (by omega) _⟩
end RkW
namespace RkF
open Go Go.RowKit Go.Shelf OctP OctG RowsX Lift ShaS KeyS ShaA ShaB Steps KeyA KeyB KeyG KeyI KeyK TreeA TreeE TreeF TreeG WireT RkA RkB RkC
attribute [-go_sem] Builtin.append_
theorem Jd (w : World) (n : Int) : Calls Tryz.prog 99 #[.int .i64 n] w (fun e w' => e = .returned (.bool (decide (0 ≤ n) && decide (n ≤ 7))) ∧ w = w') := by
 by_cases h : 0 ≤ n
 ·rw [dT h, Bool.true_and]
  have d0 : decide (0 ≤ n) = true := dT h
  go_enter func99, ntmps99
  go_wp2
  go_ret
  exact ⟨rfl, rfl⟩
 ·rw [dF h, Bool.false_and]
  have d0 : decide (0 ≤ n) = false := dF h
  go_enter func99, ntmps99
  go_wp2
  go_ret
  exact ⟨rfl, rfl⟩
theorem I6 (w : World) (h : Nat) (hh : h ≤ 7) : Calls Tryz.prog 100 #[.int .i64 h] w (fun e w' => e = .returned (.int .i64 (2 ^ h : Nat)) ∧ w = w') := by
 have hc : h = 0 ∨ h = 1 ∨ h = 2 ∨ h = 3 ∨ h = 4 ∨ h = 5 ∨ h = 6 ∨ h = 7 := by omega
 rcases hc with rfl | rfl | rfl | rfl | rfl | rfl | rfl | rfl
 ·show Calls _ _ #[.int .i64 0] _ (fun e w' => e = .returned (.int .i64 1) ∧ w = w')
  go_enter func100, ntmps100
  go_wp2
  refine wp_loop_rounds 1 ?_
  rw [rounds_succ]
  go_wp2
  go_ret
  exact ⟨rfl, rfl⟩
 ·show Calls _ _ #[.int .i64 1] _ (fun e w' => e = .returned (.int .i64 2) ∧ w = w')
  go_enter func100, ntmps100
  go_wp2
  refine wp_loop_rounds 2 ?_
  rw [rounds_succ]
  go_wp2
  rw [rounds_succ]
  go_wp2
  go_ret
  exact ⟨rfl, rfl⟩
 ·show Calls _ _ #[.int .i64 2] _ (fun e w' => e = .returned (.int .i64 4) ∧ w = w')
  go_enter func100, ntmps100
  go_wp2
  refine wp_loop_rounds 3 ?_
  iterate 3
   rw [rounds_succ]
   go_wp2
  go_ret
  exact ⟨rfl, rfl⟩
 ·show Calls _ _ #[.int .i64 3] _ (fun e w' => e = .returned (.int .i64 8) ∧ w = w')
  go_enter func100, ntmps100
  go_wp2
  refine wp_loop_rounds 4 ?_
  iterate 4
   rw [rounds_succ]
   go_wp2
  go_ret
  exact ⟨rfl, rfl⟩
 ·show Calls _ _ #[.int .i64 4] _ (fun e w' => e = .returned (.int .i64 16) ∧ w = w')
  go_enter func100, ntmps100
  go_wp2
  refine wp_loop_rounds 5 ?_
  iterate 5
   rw [rounds_succ]
   go_wp2
  go_ret
  exact ⟨rfl, rfl⟩
 ·show Calls _ _ #[.int .i64 5] _ (fun e w' => e = .returned (.int .i64 32) ∧ w = w')
  go_enter func100, ntmps100
  go_wp2
  refine wp_loop_rounds 6 ?_
  iterate 6
   rw [rounds_succ]
   go_wp2
  go_ret
  exact ⟨rfl, rfl⟩
 ·show Calls _ _ #[.int .i64 6] _ (fun e w' => e = .returned (.int .i64 64) ∧ w = w')
  go_enter func100, ntmps100
  go_wp2
  refine wp_loop_rounds 7 ?_
  iterate 7
   rw [rounds_succ]
   go_wp2
  go_ret
  exact ⟨rfl, rfl⟩
 ·show Calls _ _ #[.int .i64 7] _ (fun e w' => e = .returned (.int .i64 128) ∧ w = w')
  go_enter func100, ntmps100
  go_wp2
  refine wp_loop_rounds 8 ?_
  iterate 8
   rw [rounds_succ]
   go_wp2
  go_ret
  exact ⟨rfl, rfl⟩
end RkF
namespace RkP
open Go Go.RowKit Go.Shelf OctP OctG RowsX Lift ShaS KeyS ShaA ShaB Steps KeyA KeyB KeyG KeyH KeyJ TreeA TreeE TreeF TreeG WireT RkA RkC RkF
attribute [-go_sem] Builtin.append_
theorem KS (w : World) (n : Nat) (sig : ByteArray) (hn : n ≤ 7) (hsz : sig.size ≤ maxLen) (hno : sigB n (bl sig) = false) :
 Calls Tryz.prog 72 #[.int .i64 n, .string sig] w (RB (.tuple #[.int .i64 0, .int .i64 2]) w) := by
 unfold maxLen at hsz
 have hH : ∀ w, Calls Tryz.prog 99 #[.int .i64 n] w (fun e w' => e = .returned (.bool true) ∧ w = w') := fun w => by
  have h := Jd w n
  rw [dT (show (0 : Int) ≤ (n : Int) by omega), dT (show (n : Int) ≤ 7 by omega)] at h
  exact h
 have hP := fun w => I6 w n hn
 obtain ⟨M, hMe⟩ := nXe (2 ^ n)
 have MB : M ≤ 128 := by rw [hMe]; exact Nat.le_trans (Nat.pow_le_pow_right (by omega) hn) (by omega)
 unfold sigB at hno
 rw [← hMe] at hP hno
 obtain ⟨HH, HP⟩ := l2h hH hP
 have w1 : IntKind.i64.wrap (32 * (n : Int)) = 32 * (n : Int) := by rw [IntKind.wrap_i64]; omega
 have w2 : IntKind.i64.wrap (1089 + 32 * (n : Int)) = 1089 + 32 * (n : Int) := by rw [IntKind.wrap_i64]; omega
 by_cases hs : sig.size = 1089 + 32 * n
 ·have h0 : 0 < sig.size := by omega
  obtain ⟨b, hb⟩ : ∃ b, sig[0] = b := ⟨_, rfl⟩
  have hhd : (bl sig).headD 0 = b := by
   have := Dv sig 0 h0
   rw [List.drop_zero] at this
   rw [this, ← hb]
   rfl
  rw [hhd, AP, hs, dT rfl, Bool.true_and] at hno
  have hb2 : M ≤ b.toNat := by have := of_decide_eq_false hno; omega
  have hb8 := b.toNat_lt
  have hz : ((sig.size : Nat) : Int) = 1089 + 32 * (n : Int) := by omega
  have hd : decide ((M : Int) ≤ (b.toNat : Int)) = true := dT (by omega)
  have hd2 : decide (M ≤ b.toNat) = true := dT (by omega)
  have hb3 : IntKind.i64.wrap (b.toNat : Int) = (b.toNat : Int) := by rw [IntKind.wrap_i64]; omega
  have hpos : (0 : Int) < 1089 + 32 * (n : Int) := by omega
  clear hMe hs hno hhd hsz hH hP
  go_enter func72, ntmps72
  go_wp2
  refine Uniform.A9 (S := (fun W => Below w.heap.size w W ∧ Below w.heap.size w W)) (List.range 19) (by kernel_rfl) (by kernel_rfl) ⟨((Below.refl w.heap.size w)).drew, ((Below.refl w.heap.size w)).drew⟩ ?_
  refine ⟨_, ?_, rfl, .inl ⟨by rfl, fun wq hSw => .value (w' := wq) ?_ hSw⟩, ?_⟩
  rotate_left
  ·obtain ⟨q0, q1⟩ := hSw
   go_simp
   rfl
  simp only [sq]
  refine ⟨_, ?_, rfl, Or.inl ⟨by rfl, fun wq hSw => Uniform.UStep.call (w' := wq) ?_ ((HH.out wq).mono ?_)⟩, ?_⟩
  rotate_left
  ·obtain ⟨q0, q1⟩ := hSw
   go_simp
   all_goals (and_intros <;> rfl)
  ·have hSk := hSw
   obtain ⟨q0, q1⟩ := hSw
   rintro e wq2 ⟨rfl, rfl⟩
   refine ⟨?_, hSk⟩
   rfl
  iterate 14
   simp only [sq]
   refine ⟨_, ?_, rfl, .inl ⟨by rfl, fun wq hSw => .value (w' := wq) ?_ hSw⟩, ?_⟩
   rotate_left
   ·obtain ⟨q0, q1⟩ := hSw
    go_simp
    rfl
  simp only [sq]
  refine ⟨_, ?_, rfl, Or.inl ⟨by rfl, fun wq hSw => Uniform.UStep.call (w' := wq) ?_ ((HP.out wq).mono ?_)⟩, ?_⟩
  rotate_left
  ·obtain ⟨q0, q1⟩ := hSw
   go_simp
   all_goals (and_intros <;> rfl)
  ·have hSk := hSw
   obtain ⟨q0, q1⟩ := hSw
   rintro e wq2 ⟨rfl, rfl⟩
   refine ⟨?_, hSk⟩
   rfl
  iterate 2
   simp only [sq]
   refine ⟨_, ?_, rfl, .inl ⟨by rfl, fun wq hSw => .value (w' := wq) ?_ hSw⟩, ?_⟩
   rotate_left
   ·obtain ⟨q0, q1⟩ := hSw
    go_simp
    rfl
  simp only [sq]
  intro wz hSz
  obtain ⟨q0, q1⟩ := hSz
  go_wp2
  go_ret2
  exact ⟨rfl, q0⟩
 ·have hz : ((sig.size : Nat) : Int) ≠ 1089 + 32 * (n : Int) := by omega
  have hz2 : (((sig.size : Nat) : Int) != 1089 + 32 * (n : Int)) = true := by simpa using hz
  have hz3 : (((sig.size : Nat) : Int) == 1089 + 32 * (n : Int)) = false := by simpa using hz
  clear hMe hno hs hH hP
  go_enter func72, ntmps72
  go_wp2
  refine Uniform.A9 (S := (fun W => Below w.heap.size w W ∧ Below w.heap.size w W)) (List.range 19) (by kernel_rfl) (by kernel_rfl) ⟨((Below.refl w.heap.size w)).drew, ((Below.refl w.heap.size w)).drew⟩ ?_
  refine ⟨_, ?_, rfl, .inl ⟨by rfl, fun wq hSw => .value (w' := wq) ?_ hSw⟩, ?_⟩
  rotate_left
  ·obtain ⟨q0, q1⟩ := hSw
   go_simp
   rfl
  simp only [sq]
  refine ⟨_, ?_, rfl, Or.inl ⟨by rfl, fun wq hSw => Uniform.UStep.call (w' := wq) ?_ ((HH.out wq).mono ?_)⟩, ?_⟩
  rotate_left
  ·obtain ⟨q0, q1⟩ := hSw
   go_simp
   all_goals (and_intros <;> rfl)
  ·have hSk := hSw
   obtain ⟨q0, q1⟩ := hSw
   rintro e wq2 ⟨rfl, rfl⟩
   refine ⟨?_, hSk⟩
   rfl
  iterate 10
   simp only [sq]
   refine ⟨_, ?_, rfl, .inl ⟨by rfl, fun wq hSw => .value (w' := wq) ?_ hSw⟩, ?_⟩
   rotate_left
   ·obtain ⟨q0, q1⟩ := hSw
    go_simp
    rfl
  iterate 6
   simp only [sq]
   refine ⟨_, undef, rfl, Or.inr ⟨by rfl, rfl⟩, ?_⟩
  simp only [sq]
  refine ⟨_, ?_, rfl, .inl ⟨by rfl, fun wq hSw => .value (w' := wq) ?_ hSw⟩, ?_⟩
  rotate_left
  ·obtain ⟨q0, q1⟩ := hSw
   go_simp
   rfl
  simp only [sq]
  intro wz hSz
  obtain ⟨q0, q1⟩ := hSz
  go_wp2
  go_ret2
  exact ⟨rfl, q0⟩
theorem Jz (w : World) (n : Nat) (sig : ByteArray) (hn : n ≤ 7) (hs : sig.size = 1089 + 32 * n) (b : UInt8) (h0 : 0 < sig.size) (hb : sig[0] = b) (hb2 : b.toNat < 2 ^ n) :
 Calls Tryz.prog 72 #[.int .i64 n, .string sig] w (RB (.tuple #[.int .i64 b.toNat, .int .i64 0]) w) := by
 have hH : ∀ w, Calls Tryz.prog 99 #[.int .i64 n] w (fun e w' => e = .returned (.bool true) ∧ w = w') := fun w => by
  have h := Jd w n
  rw [dT (show (0 : Int) ≤ (n : Int) by omega), dT (show (n : Int) ≤ 7 by omega)] at h
  exact h
 have hP := fun w => I6 w n hn
 obtain ⟨M, hMe⟩ := nXe (2 ^ n)
 have MB : M ≤ 128 := by rw [hMe]; exact Nat.le_trans (Nat.pow_le_pow_right (by omega) hn) (by omega)
 rw [← hMe] at hP hb2
 obtain ⟨HH, HP⟩ := l2h hH hP
 have w1 : IntKind.i64.wrap (32 * (n : Int)) = 32 * (n : Int) := by rw [IntKind.wrap_i64]; omega
 have w2 : IntKind.i64.wrap (1089 + 32 * (n : Int)) = 1089 + 32 * (n : Int) := by rw [IntKind.wrap_i64]; omega
 ·have hb8 := b.toNat_lt
  have hz : ((sig.size : Nat) : Int) = 1089 + 32 * (n : Int) := by omega
  have hd : decide ((M : Int) ≤ (b.toNat : Int)) = false := dF (by omega)
  have hd2 : decide (M ≤ b.toNat) = false := dF (by omega)
  have hb3 : IntKind.i64.wrap (b.toNat : Int) = (b.toNat : Int) := by rw [IntKind.wrap_i64]; omega
  have hpos : (0 : Int) < 1089 + 32 * (n : Int) := by omega
  clear hMe hs hH hP
  go_enter func72, ntmps72
  go_wp2
  refine Uniform.A9 (S := (fun W => Below w.heap.size w W ∧ Below w.heap.size w W)) (List.range 19) (by kernel_rfl) (by kernel_rfl) ⟨((Below.refl w.heap.size w)).drew, ((Below.refl w.heap.size w)).drew⟩ ?_
  refine ⟨_, ?_, rfl, .inl ⟨by rfl, fun wq hSw => .value (w' := wq) ?_ hSw⟩, ?_⟩
  rotate_left
  ·obtain ⟨q0, q1⟩ := hSw
   go_simp
   rfl
  simp only [sq]
  refine ⟨_, ?_, rfl, Or.inl ⟨by rfl, fun wq hSw => Uniform.UStep.call (w' := wq) ?_ ((HH.out wq).mono ?_)⟩, ?_⟩
  rotate_left
  ·obtain ⟨q0, q1⟩ := hSw
   go_simp
   all_goals (and_intros <;> rfl)
  ·have hSk := hSw
   obtain ⟨q0, q1⟩ := hSw
   rintro e wq2 ⟨rfl, rfl⟩
   refine ⟨?_, hSk⟩
   rfl
  iterate 14
   simp only [sq]
   refine ⟨_, ?_, rfl, .inl ⟨by rfl, fun wq hSw => .value (w' := wq) ?_ hSw⟩, ?_⟩
   rotate_left
   ·obtain ⟨q0, q1⟩ := hSw
    go_simp
    rfl
  simp only [sq]
  refine ⟨_, ?_, rfl, Or.inl ⟨by rfl, fun wq hSw => Uniform.UStep.call (w' := wq) ?_ ((HP.out wq).mono ?_)⟩, ?_⟩
  rotate_left
  ·obtain ⟨q0, q1⟩ := hSw
   go_simp
   all_goals (and_intros <;> rfl)
  ·have hSk := hSw
   obtain ⟨q0, q1⟩ := hSw
   rintro e wq2 ⟨rfl, rfl⟩
   refine ⟨?_, hSk⟩
   rfl
  iterate 2
   simp only [sq]
   refine ⟨_, ?_, rfl, .inl ⟨by rfl, fun wq hSw => .value (w' := wq) ?_ hSw⟩, ?_⟩
   rotate_left
   ·obtain ⟨q0, q1⟩ := hSw
    go_simp
    rfl
  simp only [sq]
  intro wz hSz
  obtain ⟨q0, q1⟩ := hSz
  go_wp2
  go_ret2
  exact ⟨rfl, q0⟩
end RkP
end Go.Proofs.YtceiajepcokacaaGreatDoor
