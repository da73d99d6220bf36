/-
  WHAT IS PROVED: contracts of functions, and plain laws. Condition: what each theorem names.
-/
import Derived.Test.YtadofbbpfgmclaaGreatDoorS0
import Derived.Test.YtadofbbpfgmclaaGreatDoorZTBH19
import Derived.Deep.CutRange
set_option linter.unusedVariables false
set_option linter.unusedSimpArgs false
set_option maxRecDepth 100000
set_option maxHeartbeats 4000000
namespace Go.Proofs.YtadofbbpfgmclaaGreatDoor
open Go.Proofs.Tryz
namespace PfS
open OctetS IdentS ShaS EntS WireS WireT BookA BkF
def swap (p : Pf) : Pf := ⟨p.server, p.b, p.sigB, p.a, p.sigA⟩
theorem check_swap (L : List Gr') (p : Pf) : Bg L p = 0 ↔ Bg L (swap p) = 0 := by
 have key : ∀ p : Pf, Bg L p = 0 → Bg L (swap p) = 0 := by
  intro p h
  obtain ⟨hr, x, y, hx, hy, ⟨h1, h2, h3⟩, hs, hv, hv2⟩ := BV.1 h
  refine BV.2 ⟨?_, y, x, hy, hx, ⟨h1.symm, h2.symm, h3.symm⟩, fun e => hs e.symm, ?_, ?_⟩
  ·have := CX.1 hr
   exact CX.2 ⟨this.1, this.2.1, this.2.2.2.2.1, this.2.2.2.2.2, this.2.2.1, this.2.2.2.1⟩
  ·show BF L p.server y.ix p.b p.sigB = 0
   rw [← h3]; exact hv2
  ·show BF L p.server y.ix p.a p.sigA = 0
   rw [← h3]; exact hv
 exact ⟨key p, fun h => key (swap p) h⟩
theorem parse_ok {s : List UInt8} {p : Pf} (h : Cj s = some p) : Ct p = true ∧ EB p = s := by
 unfold Cj at h
 split at h
 ·rename_i h0
  obtain ⟨l, y, ha⟩ : ∃ l y, all s = (l, y) := ⟨_, _, rfl⟩
  rw [ha] at h h0
  simp only at h h0
  subst h0
  obtain ⟨hfit, hlist⟩ := all_ok ha
  match l, h with
  | [n, a, x, b, y], h =>
    simp only [D9] at h
    cases hx : small 63 n with
    | none => rw [hx] at h; cases h
    | some k =>
      rw [hx] at h
      obtain ⟨hk1, hk2⟩ := EI hx
      have hf := (Ca.1 hfit).2
      obtain rfl : (⟨(k : Int), a, x, b, y⟩ : Pf) = p := Option.some.inj h
      refine ⟨CX.2 ⟨Int.natCast_nonneg _, by show (k : Int) ≤ 63; omega, hf a (by simp), hf x (by simp), hf b (by simp), hf y (by simp)⟩, ?_⟩
      rw [← hlist]
      unfold EB
      simp only [Dp, Int.toNat_natCast]
      rw [hk2]
  | [], h => simp [D9] at h
  | [_], h => simp [D9] at h
  | [_, _], h => simp [D9] at h
  | [_, _, _], h => simp [D9] at h
  | [_, _, _, _], h => simp [D9] at h
  | _ :: _ :: _ :: _ :: _ :: _ :: _, h => simp [D9] at h
 ·cases h
end PfS
namespace HdK
open OctetS IdentS EntS KeyS KeyN NSha EntK WireS WireT
set_option maxRecDepth 100000
theorem sm_len : sm.length = 32 := ShaS.Bf _
end HdK
namespace HdL
open Go Go.RowKit Go.Shelf OctetS IdentS EntS OctP OctG IdentP EntP EventC ShaA Steps KeyA KeyS KeyI KeyK TreeA EntK BookA EntL WireT Lift
theorem hP (ep : Nat) (s : ByteArray) : HdP (hA ep s) rB (ep : Int) 5 HdK.sm s := ⟨rfl, HdK.sm_len⟩
/-! ### The ring's root -/
end HdL
namespace PfM
open Go Go.RowKit Go.Shelf OctetS IdentS EntS OctG IdentP EntP EventC ShaA Steps KeyA TreeA WireS WireT BookA PfS PfA
attribute [-go_sem] run_equalIn_agg
theorem back_p (w : World) (p : Array Value) (n : Int) (a x b y : ByteArray) (hp : p = pfA n a x b y) (ha : a.size ≤ 140737488351232) (hx : x.size ≤ maxLen) (hb' : b.size ≤ maxLen) (hy : y.size ≤ maxLen) :
 ∃ (T : ByteArray) (W2 : Int) (X : Array Value) (W3 : Int), (∀ w, Calls Tryz.prog 9 #[.agg p] w (RB (.tuple #[.string T, .int .i64 W2]) w)) ∧ (∀ w, Calls Tryz.prog 11 #[.string T] w (RB (.tuple #[.agg X, .int .i64 W3]) w)) ∧ (∃ n a x b y, X = pfA n a x b y) ∧ ((W2 = 0 ∧ W3 = 0 ∧ p = X) ∨ W2 = 2) := by
 have hB := fun w => Ik w p n a x b y hp ha hx hb' hy
 cases hc : Ct (pfOf n a x b y)
 ·rw [hc] at hB
  simp only [Bool.false_eq_true, if_false] at hB
  obtain ⟨Y, W, n', a', x', b', y', e, h⟩ : ∃ (Y : Array Value) (W n : Int) (a x b y : ByteArray), Y = pfA n a x b y ∧ pfV (Cj (bl (bsOf []))) = .tuple #[.agg Y, .int .i64 W] := by
   cases hx : Cj (bl (bsOf [])) with
   | none => exact ⟨pfZ, 6, 0, ⟨#[]⟩, ⟨#[]⟩, ⟨#[]⟩, ⟨#[]⟩, rfl, rfl⟩
   | some e => exact ⟨_, 0, e.server, bsOf e.a, bsOf e.sigA, bsOf e.b, bsOf e.sigB, rfl, rfl⟩
  refine ⟨bsOf [], 2, Y, W, hB, fun w => ?_, ⟨_, _, _, _, _, e⟩, .inr rfl⟩
  have := WireP.IU w (bsOf []) (by decide)
  rw [h] at this
  exact this
 ·rw [hc] at hB
  simp only [if_true] at hB
  refine ⟨bsOf (EB (pfOf n a x b y)), 0, p, 0, hB, fun w => ?_, ⟨_, _, _, _, _, hp⟩, .inl ⟨rfl, rfl, rfl⟩⟩
  have hz : (bsOf (EB (pfOf n a x b y))).size ≤ 140737488351232 := by
   rw [AY]
   have hl := (Ca.1 (Ef hc)).2
   unfold EB OctetS.list
   have h1 := EntX.F6 _ hl
   have h2 : (OctetS.num (Dp (pfOf n a x b y)).length).length ≤ 2 := OctetS.CF (by simp [Dp])
   have h3 : (Dp (pfOf n a x b y)).length = 5 := rfl
   simp only [List.length_append]
   rw [h3] at h1 h2 ⊢
   omega
  have := WireP.IU w _ hz
  rw [AU, parse_bytes hc] at this
  have e : pfV (some (pfOf n a x b y)) = .tuple #[.agg p, .int .i64 0] := by
   rw [hp]
   show Value.tuple #[.agg (pfA n (bsOf (bl a)) (bsOf (bl x)) (bsOf (bl b)) (bsOf (bl y))), .int .i64 0] = _
   rw [Bj, Bj, Bj, Bj]
  rw [e] at this
  exact this
theorem back_s (s : ByteArray) (hs : s.size ≤ 140737488351232) :
 ∃ (Y : Array Value) (W4 : Int) (T : ByteArray) (W5 : Int), (∀ w, Calls Tryz.prog 11 #[.string s] w (RB (.tuple #[.agg Y, .int .i64 W4]) w)) ∧ (∃ n a x b y, Y = pfA n a x b y) ∧ (∀ w, Calls Tryz.prog 9 #[.agg Y] w (RB (.tuple #[.string T, .int .i64 W5]) w)) ∧ ((W4 = 0 ∧ W5 = 0 ∧ s = T) ∨ W4 = 6) := by
 have hP := fun w => WireP.IU w s hs
 cases hx : Cj (bl s) with
 | none =>
   rw [hx] at hP
   exact ⟨pfZ, 6, _, _, hP, ⟨_, _, _, _, _, rfl⟩, fun w => Ik w pfZ 0 ⟨#[]⟩ ⟨#[]⟩ ⟨#[]⟩ ⟨#[]⟩ rfl (by decide) (by decide) (by decide) (by decide), .inr rfl⟩
 | some e =>
   rw [hx] at hP
   obtain ⟨hr, hby⟩ := parse_ok hx
   obtain ⟨h0, h1, h2, h3, h4, h5⟩ := CX.1 hr
   have hB := fun w => Ik w _ e.server (bsOf e.a) (bsOf e.sigA) (bsOf e.b) (bsOf e.sigB) rfl (by rw [AY]; omega) (by rw [AY]; unfold maxLen; omega) (by rw [AY]; unfold maxLen; omega) (by rw [AY]; unfold maxLen; omega)
   have he : pfOf e.server (bsOf e.a) (bsOf e.sigA) (bsOf e.b) (bsOf e.sigB) = e := by
    unfold pfOf
    rw [AU, AU, AU, AU]
   rw [he, hr] at hB
   simp only [if_true] at hB
   rw [hby, Bj] at hB
   exact ⟨_, 0, s, 0, hP, ⟨_, _, _, _, _, rfl⟩, hB, .inl ⟨rfl, rfl, rfl⟩⟩
theorem back_ok (w : World) (hv : Ag w) (hk : Al w) (p : Array Value) (n : Int) (a x b y : ByteArray) (hp : p = pfA n a x b y) (ha : a.size ≤ 140737488351232) (hb2 : b.size ≤ 140737488351232) (hx : x.size ≤ maxLen) (hb' : b.size ≤ maxLen) (hy : y.size ≤ maxLen) (s : ByteArray) (hs : s.size ≤ 140737488351232) (v : Value) (L : List Gr') (hL : Sl w v 36 L.length (L.flatMap Gr'.cs)) :
 Calls Tryz.prog 4 #[v, .agg p, .string s] w (RB (.bool true) w) := by
 obtain ⟨T, W2, X, W3, hB, hX, hXe, hK1⟩ := back_p w p n a x b y hp ha hx hb' hy
 obtain ⟨Y, W4, Tc, W5, hY, hYe, hB2, hK2⟩ := back_s s hs
 obtain ⟨W6, W7, hD1, hD2, hK3⟩ : ∃ (W6 W7 : Int), (∀ w, Ag w → Al w → Sl w v 36 L.length (L.flatMap Gr'.cs) → Calls Tryz.prog 13 #[v, .agg p] w (RB (.int .i64 W6) w)) ∧ (∀ w, Ag w → Al w → Sl w v 36 L.length (L.flatMap Gr'.cs) → Calls Tryz.prog 13 #[v, .agg (pfA n b y a x)] w (RB (.int .i64 W7) w)) ∧ (W6 = 0 ↔ W7 = 0) := ⟨Bg L (pfOf n a x b y), Bg L (pfOf n b y a x), fun w hv hk hL => PfC.Ew w p n a x b y hp ha hx hb' hy v L hL hv hk, fun w hv hk hL => PfC.Ew w _ n b y a x rfl hb2 hy (by unfold maxLen; omega) hx v L hL hv hk, check_swap L _⟩
 have hqp : ∀ w, (Op.equalIn 10000 24 (.agg p) (.agg p)).run Tryz.prog w = .ok true w := by rw [hp]; exact fun w => PfQ.pf_self _ _ _ _ _ w
 obtain ⟨Q, hQ⟩ := nXe (pfA n b y a x)
 rw [← hQ] at hD2
 have hQb : Tryz.prog.built 24 [(0, .int .i64 n), (1, .string b), (2, .string y), (3, .string a), (4, .string x)] = some Q := by rw [hQ]; kernel_rfl
 have p0 : p[0]? = some (.int .i64 n) := by rw [hp]; rfl
 have p1 : p[1]? = some (.string a) := by rw [hp]; rfl
 have p2 : p[2]? = some (.string x) := by rw [hp]; rfl
 have p3 : p[3]? = some (.string b) := by rw [hp]; rfl
 have p4 : p[4]? = some (.string y) := by rw [hp]; rfl
 have HpS := lh (show (Tryz.prog.info? 24).map (·.size) = some p.size by rw [hp]; kernel_rfl)
 have HpN := lh (show 5 = p.size by rw [hp]; rfl)
 have HpO := lh (show p.all (·.oneCell') = true by rw [hp]; simp [pfA, Value.oneCell'])
 have HQS := lh (show (Tryz.prog.info? 24).map (·.size) = some Q.size by rw [hQ]; kernel_rfl)
 have HQN := lh (show 5 = Q.size by rw [hQ]; rfl)
 have HQO := lh (show Q.all (·.oneCell') = true by rw [hQ]; simp [pfA, Value.oneCell'])
 have HXS := lh (show (Tryz.prog.info? 24).map (·.size) = some X.size by obtain ⟨_, _, _, _, _, e⟩ := hXe; rw [e]; kernel_rfl)
 have HXN := lh (show 5 = X.size by obtain ⟨_, _, _, _, _, e⟩ := hXe; rw [e]; rfl)
 have HXO := lh (show X.all (·.oneCell') = true by obtain ⟨_, _, _, _, _, e⟩ := hXe; rw [e]; simp [pfA, Value.oneCell'])
 have HYS := lh (show (Tryz.prog.info? 24).map (·.size) = some Y.size by obtain ⟨_, _, _, _, _, e⟩ := hYe; rw [e]; kernel_rfl)
 have HYN := lh (show 5 = Y.size by obtain ⟨_, _, _, _, _, e⟩ := hYe; rw [e]; rfl)
 have HYO := lh (show Y.all (·.oneCell') = true by obtain ⟨_, _, _, _, _, e⟩ := hYe; rw [e]; simp [pfA, Value.oneCell'])
 obtain ⟨B1, C1, E1, F1, D1, D2, HQP, HQB, HK1⟩ := l9h hB hX hY hB2 hD1 hD2 hqp hQb hK1
 obtain ⟨HK2, HK3, Hp0, Hp1, Hp2, Hp3, Hp4, HGY, HV⟩ := l9h hK2 hK3 p0 p1 p2 p3 p4 PfQ.guardPf hv
 obtain ⟨HK, HSL⟩ := l2h hk hL
 clear hB hX hXe hK1 hY hYe hB2 hK2 hD1 hD2 hK3 hqp hQ hQb p0 p1 p2 p3 p4 hp ha hb2 hx hb' hy hs hv hk hL
 obtain ⟨w0, hw0⟩ := nXe (w.alloc (.cells p 24))
 have hb0 : Below w.heap.size w w0 := by rw [hw0]; exact bAx
 have HP0 : Hid (w0.heap[w.heap.size]? = some (.cells p 24 (0, 0))) := lh (by rw [hw0]; exact AL _ _)
 have lP0 := AB HP0.out
 obtain ⟨HBL0, HW0⟩ := l2h hb0 hw0
 have z0 := hb0.size
 clear hw0 hb0
 go_enter func4, ntmps4
 go_wp2_with fail
 rw [← HW0.out]
 refine (PfQ.Ej w0 (HV.out.below HBL0.out) (HK.out.below HBL0.out)).mono ?_
 rintro e' w1 ⟨rfl, hb⟩
 have HP1 := lh ((hb.block _ lP0).trans HP0.out)
 have lP1 := AB HP1.out
 have HBL1 := tbB HBL0 hb
 have z1 := HBL1.out.size
 clear hb z0 lP0
 go_wp2_with (first | (refine wpList_load_row rfl _ _ rfl w.heap.size rfl _ p (0, 0) _ HP1.out underlying24 rfl HpS.out ?_) | fail)
 refine (B1.out w1).mono ?_
 rintro e w2 ⟨rfl, hb⟩
 have HP2 := lh ((hb.block _ lP1).trans HP1.out)
 have lP2 := AB HP2.out
 have HBL2 := tbB HBL1 hb
 have z2 := HBL2.out.size
 clear hb z1 lP1
 go_wp2_with fail
 refine (C1.out w2).mono ?_
 rintro e w3 ⟨rfl, hb⟩
 have HP3 := lh ((hb.block _ lP2).trans HP2.out)
 have lP3 := AB HP3.out
 have HBL3 := tbB HBL2 hb
 have z3 := HBL3.out.size
 clear hb z2 lP2
 go_wp2_with (first | (refine AC rfl _ _ _ rfl w3.heap.size X rfl rfl _ _ (AL _ _) HXS.out (by rw [← HXN.out]; rfl) HXO.out ?_) | fail)
 intro u1 hu1
 have hb : Below w3.heap.size w3 u1 := by rw [hu1.out]; exact AQ bAx nR _
 have hy : u1.heap[w3.heap.size]? = some (.cells X 24 (0, 0)) := by rw [hu1.out]; exact AR (AL _ _)
 clear hu1
 obtain ⟨w4, hww⟩ : ∃ w', w' = u1 := ⟨_, rfl⟩
 rw [← hww] at hb hy ⊢
 clear hww
 obtain ⟨BX, hBX⟩ := nXe (w3.heap.size)
 rw [← hBX] at hy ⊢
 have gX : w.heap.size ≤ BX := by omega
 clear hBX
 have Hyn := lh hy
 clear hy
 have HP4 := lh ((hb.block _ lP3).trans HP3.out)
 have lP4 := AB HP4.out
 have HBL4 := tbB HBL3 hb
 have z4 := HBL4.out.size
 clear hb z3 lP3
 have HX4 := lh Hyn.out
 have lX4 := AB HX4.out
 clear Hyn
 go_wp2_with fail
 refine (E1.out w4).mono ?_
 rintro e w5 ⟨rfl, hb⟩
 have HP5 := lh ((hb.block _ lP4).trans HP4.out)
 have lP5 := AB HP5.out
 have HX5 := lh ((hb.block _ lX4).trans HX4.out)
 have lX5 := AB HX5.out
 have HBL5 := tbB HBL4 hb
 have z5 := HBL5.out.size
 clear hb z4 lP4 lX4
 go_wp2_with (first | (refine AC rfl _ _ _ rfl w5.heap.size Y rfl rfl _ _ (AL _ _) HYS.out (by rw [← HYN.out]; rfl) HYO.out ?_) | fail)
 intro u1 hu1
 have hb : Below w5.heap.size w5 u1 := by rw [hu1.out]; exact AQ bAx nR _
 have hy : u1.heap[w5.heap.size]? = some (.cells Y 24 (0, 0)) := by rw [hu1.out]; exact AR (AL _ _)
 clear hu1
 obtain ⟨w6, hww⟩ : ∃ w', w' = u1 := ⟨_, rfl⟩
 rw [← hww] at hb hy ⊢
 clear hww
 obtain ⟨BY, hBY⟩ := nXe (w5.heap.size)
 rw [← hBY] at hy ⊢
 have gY : w.heap.size ≤ BY := by omega
 clear hBY
 have Hyn := lh hy
 clear hy
 have HP6 := lh ((hb.block _ lP5).trans HP5.out)
 have lP6 := AB HP6.out
 have HX6 := lh ((hb.block _ lX5).trans HX5.out)
 have lX6 := AB HX6.out
 have HBL6 := tbB HBL5 hb
 have z6 := HBL6.out.size
 clear hb z5 lP5 lX5
 have HY6 := lh Hyn.out
 have lY6 := AB HY6.out
 clear Hyn
 go_wp2_with (first | (refine wpList_load_row rfl _ _ rfl BY rfl _ Y (0, 0) _ HY6.out underlying24 rfl HYS.out ?_) | fail)
 refine (F1.out w6).mono ?_
 rintro e w7 ⟨rfl, hb⟩
 have HP7 := lh ((hb.block _ lP6).trans HP6.out)
 have lP7 := AB HP7.out
 have HX7 := lh ((hb.block _ lX6).trans HX6.out)
 have lX7 := AB HX7.out
 have HY7 := lh ((hb.block _ lY6).trans HY6.out)
 have lY7 := AB HY7.out
 have HBL7 := tbB HBL6 hb
 have z7 := HBL7.out.size
 clear hb z6 lP6 lX6 lY6
 have c0 := (AO (j := 0) HP7.out).trans Hp0.out
 have c1 := (AO (j := 1) HP7.out).trans Hp1.out
 have c2 := (AO (j := 2) HP7.out).trans Hp2.out
 have c3 := (AO (j := 3) HP7.out).trans Hp3.out
 have c4 := (AO (j := 4) HP7.out).trans Hp4.out
 have hqp := HQP.out
 have hGY := HGY.out
 go_upto_region 7 with fail
 go_cut [61] from 38 to 62 (fun t wx => t = .bool false ∧ w7 = wx)
 case first =>
  rcases HK1.out with ⟨rfl, rfl, rfl⟩ | rfl
  ·rcases HK2.out with ⟨rfl, rfl, rfl⟩ | rfl
   ·skip
    go_wp2_with (first | (refine WireT.Ad (by kernel_rfl) _ _ rfl BX rfl _ p (0, 0) _ HX7.out underlying24 rfl HpS.out ?_) | (refine WireT.Ad (by kernel_rfl) _ _ rfl w.heap.size rfl _ p (0, 0) _ HP7.out underlying24 rfl HpS.out ?_) | fail)
    go_meet
    exact ⟨rfl, rfl⟩
   ·skip
    go_wp2_with (first | (refine WireT.Ad (by kernel_rfl) _ _ rfl BX rfl _ p (0, 0) _ HX7.out underlying24 rfl HpS.out ?_) | (refine WireT.Ad (by kernel_rfl) _ _ rfl w.heap.size rfl _ p (0, 0) _ HP7.out underlying24 rfl HpS.out ?_) | fail)
    go_meet
    exact ⟨rfl, rfl⟩
  ·rcases HK2.out with ⟨rfl, rfl, rfl⟩ | rfl
   ·skip
    go_wp2_with (first | (refine WireT.Ad (by kernel_rfl) _ _ rfl BX rfl _ X (0, 0) _ HX7.out underlying24 rfl HXS.out ?_) | (refine WireT.Ad (by kernel_rfl) _ _ rfl w.heap.size rfl _ p (0, 0) _ HP7.out underlying24 rfl HpS.out ?_) | fail)
    go_meet
    exact ⟨rfl, rfl⟩
   ·skip
    go_wp2_with (first | (refine WireT.Ad (by kernel_rfl) _ _ rfl BX rfl _ X (0, 0) _ HX7.out underlying24 rfl HXS.out ?_) | (refine WireT.Ad (by kernel_rfl) _ _ rfl w.heap.size rfl _ p (0, 0) _ HP7.out underlying24 rfl HpS.out ?_) | fail)
    go_meet
    exact ⟨rfl, rfl⟩
 case rest =>
  obtain ⟨rfl, rfl⟩ := hcut
  go_wp2_with (first | (refine EntQ.Cg rfl 24 _ rfl Q (by go_simp; exact HQB.out) ?_) | (refine AC rfl _ _ _ rfl w7.heap.size Q rfl rfl _ _ (AL _ _) HQS.out (by rw [← HQN.out]; rfl) HQO.out ?_) | fail)
  intro u hu
  obtain ⟨wq0, hwq⟩ := nXe (u)
  rw [← hwq] at hu ⊢
  clear hwq
  have hb : Below w7.heap.size w7 wq0 := by rw [hu.out]; exact AQ bAx nR _
  have HQq := lh (show wq0.heap[w7.heap.size]? = some (.cells Q 24 (0, 0)) by rw [hu.out]; exact AR (AL _ _))
  have HPq := kpB hb HP7
  have HBLq := tbB HBL7 hb
  obtain ⟨BQ, hBQ⟩ := nXe (w7.heap.size)
  rw [← hBQ] at HQq ⊢
  clear hb hu hBQ c0 c1 c2 c3 c4
  obtain ⟨HVk, HKk, HLk⟩ := l3h (HV.out.below HBLq.out) (HK.out.below HBLq.out) (HSL.out.below HBLq.out)
  have hk3 : (W6 = 0 ∧ W7 = 0) ∨ ((W6 == 0) = false ∧ (W7 == 0) = false) := by
   by_cases h : W6 = 0
   ·exact .inl ⟨h, HK3.out.1 h⟩
   ·exact .inr ⟨by simpa using h, by simpa using fun h7 => h (HK3.out.2 h7)⟩
  go_wp2_with fail
  rcases hk3 with ⟨rfl, rfl⟩ | ⟨h6, h7⟩
  ·skip
   refine Uniform.Ak (S := (fun W => W.heap[w.heap.size]? = some (.cells p 24 (0, 0)) ∧ W.heap[BQ]? = some (.cells Q 24 (0, 0)) ∧ Sl W v 36 L.length (L.flatMap Gr'.cs) ∧ Ag W ∧ Al W ∧ Below w.heap.size w W)) (List.range 10) (by kernel_rfl) (by kernel_rfl) ⟨HPq.out, HQq.out, (HLk.out).below (Bl.drew (Below.refl _ _)), (HVk.out).below (Bl.drew (Below.refl _ _)), (HKk.out).below (Bl.drew (Below.refl _ _)), (HBLq.out).drew⟩ ?_
   refine ⟨_, ?_, rfl, .inl ⟨by rfl, fun wq hSw => .value (w' := wq) ?_ hSw⟩, ?_⟩
   rotate_left
   ·obtain ⟨q0, q1, q2, q3, q4, q5⟩ := hSw
    go_simp
    rfl
   simp only [Act.put, sxx]
   refine ⟨_, _, rfl, Or.inl ⟨by rfl, fun wq hSw => Uniform.UStep.value (w' := wq) (EqHash.Ay 24 _ rfl _ rfl hSw.1 underlying24 rfl HpS.out) hSw⟩, ?_⟩
   simp only [Act.put, sxx]
   refine ⟨_, ?_, rfl, Or.inl ⟨by rfl, fun wq hSw => Uniform.UStep.call (w' := wq) ?_ ((D1.out wq hSw.2.2.2.1 hSw.2.2.2.2.1 hSw.2.2.1).mono ?_)⟩, ?_⟩
   rotate_left
   ·obtain ⟨q0, q1, q2, q3, q4, q5⟩ := hSw
    go_simp
    all_goals (and_intros <;> rfl)
   ·have hSk := hSw
    obtain ⟨q0, q1, q2, q3, q4, q5⟩ := hSw
    rintro e wq2 ⟨rfl, hbq⟩
    refine ⟨?_, (hbq.block _ (AB q0)).trans q0, (hbq.block _ (AB q1)).trans q1, q2.below hbq, q3.below hbq, q4.below hbq, q5.trans (hbq.mono q5.size)⟩
    rfl
   iterate 2
        simp only [Act.put, sxx]
        refine ⟨_, ?_, rfl, .inl ⟨by rfl, fun wq hSw => .value (w' := wq) ?_ hSw⟩, ?_⟩
        rotate_left
        ·obtain ⟨q0, q1, q2, q3, q4, q5⟩ := hSw
         go_simp
         rfl
   simp only [Act.put, sxx]
   refine ⟨_, _, rfl, Or.inl ⟨by rfl, fun wq hSw => Uniform.UStep.value (w' := wq) (EqHash.Ay 24 _ rfl _ rfl hSw.2.1 underlying24 rfl HQS.out) hSw⟩, ?_⟩
   simp only [Act.put, sxx]
   refine ⟨_, ?_, rfl, Or.inl ⟨by rfl, fun wq hSw => Uniform.UStep.call (w' := wq) ?_ ((D2.out wq hSw.2.2.2.1 hSw.2.2.2.2.1 hSw.2.2.1).mono ?_)⟩, ?_⟩
   rotate_left
   ·obtain ⟨q0, q1, q2, q3, q4, q5⟩ := hSw
    go_simp
    all_goals (and_intros <;> rfl)
   ·have hSk := hSw
    obtain ⟨q0, q1, q2, q3, q4, q5⟩ := hSw
    rintro e wq2 ⟨rfl, hbq⟩
    refine ⟨?_, (hbq.block _ (AB q0)).trans q0, (hbq.block _ (AB q1)).trans q1, q2.below hbq, q3.below hbq, q4.below hbq, q5.trans (hbq.mono q5.size)⟩
    rfl
   iterate 3
        simp only [Act.put, sxx]
        refine ⟨_, ?_, rfl, .inl ⟨by rfl, fun wq hSw => .value (w' := wq) ?_ hSw⟩, ?_⟩
        rotate_left
        ·obtain ⟨q0, q1, q2, q3, q4, q5⟩ := hSw
         go_simp
         rfl
   simp only [Act.put, sxx]
   intro wz hSz
   obtain ⟨_, _, _, _, _, q8⟩ := hSz
   go_wp2
   go_ret
   exact ⟨rfl, q8⟩
  ·skip
   refine Uniform.Ak (S := (fun W => W.heap[w.heap.size]? = some (.cells p 24 (0, 0)) ∧ W.heap[BQ]? = some (.cells Q 24 (0, 0)) ∧ Sl W v 36 L.length (L.flatMap Gr'.cs) ∧ Ag W ∧ Al W ∧ Below w.heap.size w W)) (List.range 10) (by kernel_rfl) (by kernel_rfl) ⟨HPq.out, HQq.out, (HLk.out).below (Bl.drew (Below.refl _ _)), (HVk.out).below (Bl.drew (Below.refl _ _)), (HKk.out).below (Bl.drew (Below.refl _ _)), (HBLq.out).drew⟩ ?_
   refine ⟨_, ?_, rfl, .inl ⟨by rfl, fun wq hSw => .value (w' := wq) ?_ hSw⟩, ?_⟩
   rotate_left
   ·obtain ⟨q0, q1, q2, q3, q4, q5⟩ := hSw
    go_simp
    rfl
   simp only [Act.put, sxx]
   refine ⟨_, _, rfl, Or.inl ⟨by rfl, fun wq hSw => Uniform.UStep.value (w' := wq) (EqHash.Ay 24 _ rfl _ rfl hSw.1 underlying24 rfl HpS.out) hSw⟩, ?_⟩
   simp only [Act.put, sxx]
   refine ⟨_, ?_, rfl, Or.inl ⟨by rfl, fun wq hSw => Uniform.UStep.call (w' := wq) ?_ ((D1.out wq hSw.2.2.2.1 hSw.2.2.2.2.1 hSw.2.2.1).mono ?_)⟩, ?_⟩
   rotate_left
   ·obtain ⟨q0, q1, q2, q3, q4, q5⟩ := hSw
    go_simp
    all_goals (and_intros <;> rfl)
   ·have hSk := hSw
    obtain ⟨q0, q1, q2, q3, q4, q5⟩ := hSw
    rintro e wq2 ⟨rfl, hbq⟩
    refine ⟨?_, (hbq.block _ (AB q0)).trans q0, (hbq.block _ (AB q1)).trans q1, q2.below hbq, q3.below hbq, q4.below hbq, q5.trans (hbq.mono q5.size)⟩
    rfl
   iterate 2
        simp only [Act.put, sxx]
        refine ⟨_, ?_, rfl, .inl ⟨by rfl, fun wq hSw => .value (w' := wq) ?_ hSw⟩, ?_⟩
        rotate_left
        ·obtain ⟨q0, q1, q2, q3, q4, q5⟩ := hSw
         go_simp
         rfl
   simp only [Act.put, sxx]
   refine ⟨_, _, rfl, Or.inl ⟨by rfl, fun wq hSw => Uniform.UStep.value (w' := wq) (EqHash.Ay 24 _ rfl _ rfl hSw.2.1 underlying24 rfl HQS.out) hSw⟩, ?_⟩
   simp only [Act.put, sxx]
   refine ⟨_, ?_, rfl, Or.inl ⟨by rfl, fun wq hSw => Uniform.UStep.call (w' := wq) ?_ ((D2.out wq hSw.2.2.2.1 hSw.2.2.2.2.1 hSw.2.2.1).mono ?_)⟩, ?_⟩
   rotate_left
   ·obtain ⟨q0, q1, q2, q3, q4, q5⟩ := hSw
    go_simp
    all_goals (and_intros <;> rfl)
   ·have hSk := hSw
    obtain ⟨q0, q1, q2, q3, q4, q5⟩ := hSw
    rintro e wq2 ⟨rfl, hbq⟩
    refine ⟨?_, (hbq.block _ (AB q0)).trans q0, (hbq.block _ (AB q1)).trans q1, q2.below hbq, q3.below hbq, q4.below hbq, q5.trans (hbq.mono q5.size)⟩
    rfl
   iterate 3
        simp only [Act.put, sxx]
        refine ⟨_, ?_, rfl, .inl ⟨by rfl, fun wq hSw => .value (w' := wq) ?_ hSw⟩, ?_⟩
        rotate_left
        ·obtain ⟨q0, q1, q2, q3, q4, q5⟩ := hSw
         go_simp
         rfl
   simp only [Act.put, sxx]
   intro wz hSz
   obtain ⟨_, _, _, _, _, q8⟩ := hSz
   go_wp2
   go_ret
   exact ⟨rfl, q8⟩
end PfM
end Go.Proofs.YtadofbbpfgmclaaGreatDoor
