/-
  WHAT IS PROVED: contracts and plain laws. Condition: each names its own.
-/
import Derived.Test.YtceiajepcokacaaGreatDoorS0
import Derived.Test.YtceiajepcokacaaGreatDoorZHF04
import Derived.Test.YtceiajepcokacaaGreatDoorZHF09
import Derived.Deep.MidRow
set_option linter.unusedVariables false
set_option linter.unusedSimpArgs false
set_option maxRecDepth 100000
set_option maxHeartbeats 4000000
namespace Go.Proofs.YtceiajepcokacaaGreatDoor
open Go.Proofs.Tryz
namespace KeyH
open Go Go.RowKit Go.Shelf OctP OctG RowsX Lift ShaS KeyS ShaA ShaB Steps KeyA TreeA KeyG
theorem Na (w : World) (n : Nat) (hn : n ≤ 7) : Calls Tryz.prog 53 #[.int .i64 n] w fun e w' => e = .returned (.bool true) ∧ w = w' := by
 have h1 : decide ((n : Int) ≤ 7) = true := dT (by omega)
 have h0 : decide ((0 : Int) ≤ (n : Int)) = true := dT (by omega)
 go_enter func53, ntmps53
 go_wp2
 go_ret
 exact ⟨by first | rfl | simp [h1, h0], rfl⟩
theorem Gu (n : Nat) (hn : n ≤ 7) : wrap64 ((2 : Int) ^ n) = ((2 ^ n : Nat) : Int) ∧ 2 ^ n ≤ 128 := by
 have h : 2 ^ n ≤ 2 ^ 7 := Nat.pow_le_pow_right (by omega) hn
 have h2 : (2 : Int) ^ n = ((2 ^ n : Nat) : Int) := by simp
 rw [h2, wrap64]
 obtain ⟨M, hM⟩ := nXe (2 ^ n)
 rw [← hM] at h ⊢
 have h3 : M ≤ 128 := by simpa using h
 exact ⟨by omega, h3⟩
theorem SN (w : World) (n : Nat) (sig : ByteArray) (hn : n ≤ 7) (hs : sig.size = 1089 + 32 * n) (b : UInt8) (h0 : 0 < sig.size) (hb : sig[0] = b) (hb2 : b.toNat < 2 ^ n) :
 Calls Tryz.prog 77 #[.int .i64 n, .string sig] w (RB (.tuple #[.int .i64 b.toNat, .int .i64 0]) w) := by
 obtain ⟨hp, hM⟩ := Gu n hn
 obtain ⟨M, hMe⟩ := nXe (2 ^ n)
 rw [← hMe] at hp hM hb2
 have hb8 := b.toNat_lt
 have hz : ((sig.size : Nat) : Int) = 1089 + (n : Int) * 32 := by omega
 have w1 : IntKind.i64.wrap ((n : Int) * 32) = (n : Int) * 32 := by rw [IntKind.wrap_i64]; omega
 have w2 : IntKind.i64.wrap (1089 + (n : Int) * 32) = 1089 + (n : Int) * 32 := by rw [IntKind.wrap_i64]; omega
 have hd : decide ((M : Int) ≤ (b.toNat : Int)) = false := dF (by omega)
 have hd2 : decide (M ≤ b.toNat) = false := dF (by omega)
 have hp2 : IntKind.i64.wrap ((2 : Int) ^ n) = (M : Int) := by have h := hp; unfold wrap64 at h; rw [IntKind.wrap_i64]; exact h
 have hb3 : IntKind.i64.wrap (b.toNat : Int) = (b.toNat : Int) := by rw [IntKind.wrap_i64]; omega
 have hpos : (0 : Int) < 1089 + (n : Int) * 32 := by omega
 clear hMe hs
 go_enter func77, ntmps77
 go_wp2
 refine Uniform.A9 (S := (fun W => Below w.heap.size w W ∧ Below w.heap.size w W)) [0, 1, 2, 3, 4, 5, 6, 7, 8, 9, 10, 11, 12, 13, 14, 15, 16, 17, 18] (by kernel_rfl) (by kernel_rfl) ⟨((Below.refl _ _)).drew, ((Below.refl _ _)).drew⟩ ?_
 refine ⟨_, ?_, rfl, .inl ⟨by rfl, fun wq hSw => .value (w' := wq) ?_ hSw⟩, ?_⟩
 rotate_left
 ·obtain ⟨q0, q1⟩ := hSw
  go_simp
  rfl
 simp only [sq]
 refine ⟨_, ?_, rfl, Or.inl ⟨by rfl, fun wq hSw => Uniform.UStep.call (w' := wq) ?_ ((Na wq n hn).mono ?_)⟩, ?_⟩
 rotate_left
 ·obtain ⟨q0, q1⟩ := hSw
  go_simp
  all_goals (and_intros <;> rfl)
 ·have hSk := hSw
  obtain ⟨q0, q1⟩ := hSw
  rintro e wq2 ⟨rfl, rfl⟩
  refine ⟨?_, hSk⟩
  rfl
 iterate 17
  simp only [sq]
  refine ⟨_, ?_, rfl, .inl ⟨by rfl, fun wq hSw => .value (w' := wq) ?_ hSw⟩, ?_⟩
  rotate_left
  ·obtain ⟨q0, q1⟩ := hSw
   go_simp
   rfl
 simp only [sq]
 rintro w3 ⟨hB3, _⟩
 have HB3 := lh hB3
 clear hB3
 go_wp2
 go_ret2
 exact ⟨rfl, HB3.out⟩
end KeyH
namespace KeyI
open Go Go.RowKit Go.Shelf OctP OctG RowsX Lift ShaS KeyS ShaA ShaB Steps KeyA KeyD KeyH
def XJ (s : ByteArray) (h n : Int) : Array Value := #[.string s, .int .i64 h, .int .i64 n]
theorem Q6 (w : World) (s : ByteArray) (h nx : Int) (i : Nat) (hi : i < 256) (hs : s.size ≤ 1000) (hk : Au w) :
 Calls Tryz.prog 32 #[.agg (XJ s h nx), .int .i64 i] w (RB (.string (bsOf (Az (bl s) i))) w) := by
 unfold XJ
 obtain ⟨w0, hw0⟩ := nXe (w.alloc (.cells #[.string s, .int .i64 h, .int .i64 nx] 62))
 have hsz0 : w0.heap.size = w.heap.size + 1 := by rw [hw0]; simp
 have hb0 : Below w.heap.size w w0 := by rw [hw0]; exact bAx
 have hcv := conv_one w0 (w.heap.size + 1) i hsz0.symm hi
 obtain ⟨w1, hw1⟩ := nXe (w0.alloc (.cells #[.int .u8 (i : Int)] 5))
 have hb1 : Below w.heap.size w w1 := by rw [hw1]; exact hb0.alloc (by omega) _
 have hc0 : w1.cell? ⟨w.heap.size, 0, none⟩ = some (.string s) := by rw [hw1, hw0]; rw [AO (Ak (AL _ _) _)]; rfl
 rw [← hw1] at hcv
 obtain ⟨u, hu⟩ := nXe (bsOf [UInt8.ofNat i])
 have hus : u.size = 1 := by rw [hu]; rfl
 rw [← hu] at hcv
 obtain ⟨S, hS⟩ : ∃ S : ByteArray, S = ⟨#[5]⟩ ++ u ++ s := ⟨_, rfl⟩
 have hSb : bl S = 5 :: UInt8.ofNat i :: bl s := by rw [hS, hu]; simp [bl, bsOf]
 have hSs : S.size ≤ 140737488355328 := by rw [← AP, hSb, List.length_cons, List.length_cons, AP]; omega
 have hk8 : IntKind.u8.wrap (i : Int) = (i : Int) := by rw [IntKind.wrap_u8']; omega
 have hl1 : ¬ 9223372036854775807 < 1 + u.size := by omega
 have hl2 : ¬ 9223372036854775807 < 1 + u.size + s.size := by omega
 have hM := PE w1 S hSs (hk.below hb1)
 have hE : Az (bl s) i = mid (bl S) := by rw [hSb]; rfl
 rw [hE]
 obtain ⟨HM, HW0, HW1, HCV, HS, HB1⟩ := l6h hM hw0 hw1 hcv hS hb1
 clear hM hw0 hw1 hcv hS hSb hSs hE hb0 hb1 hu hk
 go_enter func32, ntmps32
 go_wp2_with fail
 rw [← HW0.out, ← HW1.out, HCV.out]
 go_wp2_with fail
 rw [← HS.out]
 refine HM.out.mono ?_
 rintro e w2 ⟨rfl, hb⟩
 have HB2 := tbB HB1 hb
 clear hb
 go_wp2
 go_ret
 exact ⟨rfl, HB2.out⟩
theorem SX (w : World) (s : ByteArray) (h nx : Nat) (hs0 : 0 < s.size) (hs : s.size ≤ 64) (hh : h ≤ 7) (hn : nx ≤ 2 ^ h) :
 Calls Tryz.prog 30 #[.agg (XJ s h nx)] w (RB (.int .i64 0) w) := by
 unfold XJ
 obtain ⟨hp, hM⟩ := Gu h hh
 obtain ⟨M, hMe⟩ := nXe (2 ^ h)
 rw [← hMe] at hp hM hn
 have hp2 : IntKind.i64.wrap ((2 : Int) ^ h) = (M : Int) := by have h := hp; unfold wrap64 at h; rw [IntKind.wrap_i64]; exact h
 have d1 : ((s.size : Int) == 0) = false := by rw [beq_eq_false_iff_ne]; omega
 have d2 : decide ((64 : Int) < (s.size : Int)) = false := dF (by omega)
 have d3 : decide ((nx : Int) < 0) = false := dF (by omega)
 have d4 : decide ((M : Int) < (nx : Int)) = false := dF (by omega)
 have d5 : decide (M < nx) = false := dF (by omega)
 have d6 : decide (64 < s.size) = false := dF (by omega)
 have d7 : (s.size == 0) = false := by rw [beq_eq_false_iff_ne]; omega
 obtain ⟨w0, hw0⟩ := nXe (w.alloc (.cells #[.string s, .int .i64 (h : Int), .int .i64 (nx : Int)] 62))
 have hb0 : Below w.heap.size w w0 := by rw [hw0]; exact bAx
 have hx0 : w0.heap[w.heap.size]? = some (.cells #[.string s, .int .i64 (h : Int), .int .i64 (nx : Int)] 62 (0, 0)) := by rw [hw0]; exact AL _ _
 have HW0 := lh hw0
 clear hMe hw0
 go_enter func30, ntmps30
 go_wp2_with fail
 rw [← HW0.out]
 go_wp2
 refine Uniform.A9 (S := (fun W => W.heap[w.heap.size]? = some (.cells #[.string s, .int .i64 (h : Int), .int .i64 (nx : Int)] 62 (0, 0)) ∧ Below w.heap.size w W)) (List.range 29) (by kernel_rfl) (by kernel_rfl) ⟨hx0, (hb0).drew⟩ ?_
 iterate 13
  refine ⟨_, ?_, rfl, .inl ⟨by rfl, fun wq hSw => .value (w' := wq) ?_ hSw⟩, ?_⟩
  rotate_left
  ·obtain ⟨q0, q1⟩ := hSw
   obtain ⟨qc0, qf0⟩ := AA q0
   go_simp
   rfl
  simp only [sq]
 refine ⟨_, ?_, rfl, Or.inl ⟨by rfl, fun wq hSw => Uniform.UStep.call (w' := wq) ?_ ((Na wq h hh).mono ?_)⟩, ?_⟩
 rotate_left
 ·obtain ⟨q0, q1⟩ := hSw
  obtain ⟨qc0, qf0⟩ := AA q0
  go_simp
  all_goals (and_intros <;> rfl)
 ·have hSk := hSw
  obtain ⟨q0, q1⟩ := hSw
  rintro e wq2 ⟨rfl, rfl⟩
  refine ⟨?_, hSk⟩
  rfl
 iterate 15
  simp only [sq]
  refine ⟨_, ?_, rfl, .inl ⟨by rfl, fun wq hSw => .value (w' := wq) ?_ hSw⟩, ?_⟩
  rotate_left
  ·obtain ⟨q0, q1⟩ := hSw
   obtain ⟨qc0, qf0⟩ := AA q0
   go_simp
   rfl
 simp only [sq]
 rintro w3 ⟨_, hB3⟩
 have HB3 := lh hB3
 clear hB3
 go_wp2
 go_ret
 exact ⟨rfl, HB3.out⟩
end KeyI
namespace KeyJ
open Go Go.RowKit Go.Shelf OctP OctG RowsX Lift ShaS KeyS ShaA ShaB Steps KeyA TreeA TreeB KeyG KeyH
attribute [-go_sem] run_equalIn_agg
theorem YS (x : H32) : x.A = pB 32 x.l := by
 unfold H32.A pB
 simp [x.len]
theorem eqH (x y : H32) (w : World) : (Op.equalIn 10000 44 (.agg x.A) (.agg y.A)).run Tryz.prog w = .ok (EqHash.hEq x.l y.l) w := by
 rw [YS, YS]
 exact EqHash.UJ _ _ w
theorem hEq_dec (x y : H32) : EqHash.hEq x.l y.l = decide (x.l = y.l) := by
 by_cases h : x.l = y.l
 ·rw [dT h, h, EqHash.P5]
 ·rw [dF h, EqHash.Xg x.len y.len h]
def U3 (l : List UInt8) (h : l.length = 32) : H32 := ⟨l, h⟩
theorem XH (l : List UInt8) (h : l.length = 32) : (U3 l h).l = l := rfl
theorem Tg (l : List UInt8) (h : l.length = 32) : (U3 l h).A = (byV l).toArray := rfl
theorem Nj (text sig : List UInt8) : (recover text sig).length = 32 := Bb _
def Et (text sig : List UInt8) : H32 := U3 (recover text sig) (Nj text sig)
theorem recoverH_l (t s : List UInt8) : (Et t s).l = recover t s := by
 unfold Et
 exact XH _ _
theorem recoverH_A (t s : List UInt8) : (Et t s).A = (byV (recover t s)).toArray := by
 unfold Et
 exact Tg _ _
theorem Qm (w : World) (rt : H32) (n : Nat) (text sig : ByteArray) (hn : n ≤ 7) (ht : text.size ≤ 140737488355328) (hs : sig.size = 1089 + 32 * n) (hb2 : ((bl sig).headD 0).toNat < 2 ^ n) (hk : Au w) :
 Calls Tryz.prog 47 #[.agg rt.A, .int .i64 n, .string text, .string sig] w (RB (.int .i64 (if FR n (bl text) (bl sig) = rt.l then 0 else 9)) w) := by
 have h0 : 0 < sig.size := by omega
 obtain ⟨b, hb⟩ : ∃ b, sig[0] = b := ⟨_, rfl⟩
 have hhd : (bl sig).headD 0 = b := by
  have := Dv sig 0 h0
  rw [List.drop_zero] at this
  rw [this, ← hb]
  rfl
 unfold FR
 rw [hhd] at hb2 ⊢
 have hP := fun w => SN w n sig hn hs b h0 hb hb2
 obtain ⟨X, hX⟩ := nXe (sig.extract 1 1089)
 have hXb : bl X = ((bl sig).drop 1).take 1088 := by rw [hX, Aj]
 have hXs : X.size = 1088 := by rw [← AP, hXb, List.length_take, List.length_drop, AP]; omega
 obtain ⟨Y, hY⟩ := nXe (sig.extract 1089 sig.size)
 have hYb : bl Y = (bl sig).drop 1089 := by rw [hY, Aj, List.take_of_length_le (by rw [List.length_drop, AP]; omega)]
 have hYs : (bl Y).length = 32 * n := by rw [hYb, List.length_drop, AP]; omega
 rw [← hXb, ← hYb, ← partsH_l n (bl Y) hYs]
 obtain ⟨L, hL⟩ := nXe (Cw n (bl Y) hYs)
 have hLl : L.length = n := by rw [hL]; exact Ep _ _ _
 have hR := fun w hv => KeyC.Qn w text X ht hXs hv
 obtain ⟨lf, hlf⟩ := nXe (Et (bl text) (bl X))
 obtain ⟨at', hat⟩ : ∃ a, a = Cs lf b.toNat L := ⟨_, rfl⟩
 have hcl : climb (recover (bl text) (bl X)) b.toNat (L.map H32.l) = at'.l := by rw [hat, climbH_l, hlf, recoverH_l]
 rw [← hL, hcl]
 obtain ⟨C, hC⟩ := nXe (lf.A)
 have hRC : (byV (recover (bl text) (bl X))).toArray = C := by rw [hC, hlf, recoverH_A]
 rw [hRC] at hR
 obtain ⟨E, hE⟩ := nXe (at'.A)
 obtain ⟨p, hp⟩ := nXe (rt.A)
 obtain ⟨Z, hZ⟩ := nXe (CQ.A)
 have HLIT : Hid (zq0 Z) := lh (by rw [hZ]; unfold zq0; kernel_rfl)
 have HCN : Hid (32 = C.size) := lh (by rw [hC]; exact (H32.size _).symm)
 have HZC : Hid (Z.size = C.size) := lh (by rw [hZ, hC, H32.size, H32.size])
 have HZE : Hid (Z.size = E.size) := lh (by rw [hZ, hE, H32.size, H32.size])
 have HCS : Hid ((Tryz.prog.info? 44).map (·.size) = some C.size) := lh (by rw [hC]; exact H32.info _)
 have HCO : Hid (C.all (·.oneCell') = true) := lh (by rw [hC]; exact H32.one _)
 have HES : Hid ((Tryz.prog.info? 44).map (·.size) = some E.size) := lh (by rw [hE]; exact H32.info _)
 have HEO : Hid (E.all (·.oneCell') = true) := lh (by rw [hE]; exact H32.one _)
 have HPS : Hid ((Tryz.prog.info? 44).map (·.size) = some p.size) := lh (by rw [hp]; exact H32.info _)
 have hSm := fun w => Un w Y n hn hYs
 rw [← hL] at hSm
 simp only [hY] at hSm
 have hCl : ∀ w v, Au w → Sl w v 32 L.length (L.flatMap H32.cs) → Calls Tryz.prog 79 #[.agg C, .int .i64 (b.toNat : Int), v] w (RB (.tuple #[.agg E, .int .i64 0]) w) := fun w v hv hsl => by
  rw [hC, hE, hat]
  exact UZ w lf b.toNat v L hsl (by omega) (by rw [hLl]; exact hb2) hv
 obtain ⟨q, hq⟩ := nXe (decide (at'.l = rt.l))
 have heq : ∀ w, (Op.equalIn 10000 44 (.agg E) (.agg p)).run Tryz.prog w = .ok q w := fun w => by rw [hE, hp, eqH, hEq_dec, hq]
 have hG := EqHash.D8
 have hpost : (if at'.l = rt.l then (0 : Int) else 9) = (if q then 0 else 9) := by rw [hq]; by_cases h : at'.l = rt.l <;> simp [h]
 obtain ⟨res, hres⟩ : ∃ r : Int, r = (if q then 0 else 9) := ⟨_, rfl⟩
 rw [hpost, ← hp, ← hres]
 obtain ⟨HRes, HEQ, HGG, HP, HR, HSm, HCl, HV⟩ := l8h hres heq hG hP hR hSm hCl hk
 have hx1 : (1089 : Int) ≤ (sig.size : Int) := by omega
 obtain ⟨HXe, HYe⟩ := l2h hX hY
 obtain ⟨w0, hw0⟩ := nXe (w.alloc (.cells p 44))
 have HB0 := lh (show Below w.heap.size w w0 by rw [hw0]; exact bAx)
 have HX0 := lh (show w0.heap[w.heap.size]? = some (.cells p 44 (0, 0)) by rw [hw0]; exact AL _ _)
 have HW0 := lh hw0
 have hs1 : 1089 ≤ sig.size := by omega
 clear heq hG hP hR hSm hCl hk hX hY hw0 hXb hYb hYs hL hLl hlf hat hcl hC hRC hE hp hZ hhd hb hpost hres hb2 hq hs hXs
 go_enter func47, ntmps47
 go_wp2_with fail
 rw [← HW0.out]
 refine (HP.out w0).mono ?_
 rintro e w1 ⟨rfl, hb⟩
 have HB1 := tbB HB0 hb
 have HX1 := kpB hb HX0
 clear hb
 go_wp2_with fail
 rw [← HXe.out]
 refine (HR.out w1 (HV.out.below HB1.out)).mono ?_
 rintro e w2 ⟨rfl, hb⟩
 have HB2 := tbB HB1 hb
 have HX2 := kpB hb HX1
 clear hb
 go_wp2_with (first | (refine AC rfl _ _ _ rfl w2.heap.size C rfl rfl _ _ (AL _ _) HCS.out (by rw [← HCN.out]; rfl) HCO.out ?_) | fail)
 intro u1 hu1
 have hb : Below w2.heap.size w2 u1 := by rw [hu1.out]; exact AQ bAx nR _
 have hyy : u1.heap[w2.heap.size]? = some (.cells C 44 (0, 0)) := by rw [hu1.out]; exact AR (AL _ _)
 clear hu1
 obtain ⟨w4, hww⟩ : ∃ w', w' = u1 := ⟨_, rfl⟩
 rw [← hww] at hb hyy ⊢
 clear hww
 obtain ⟨g1, Yp⟩ := nXe (w2.heap.size)
 rw [← Yp] at hyy ⊢
 have HB4 := tbB HB2 hb
 have hx4 := (hb.block _ (AJ HX2.out)).trans HX2.out
 clear hb Yp
 go_wp2
 refine wp_region_noPanic ?_
 refine wp_region_held (S := (fun W => W.heap[g1]? = some (.cells C 44 (0, 0)) ∧ W.heap[w.heap.size]? = some (.cells p 44 (0, 0)))) (by kernel_rfl) ?_
 change wpAnyH _ _ _ _ _ _ _ _ (World.drew w4)
 have hS0 : (World.drew w4).heap[g1]? = some (.cells C 44 (0, 0)) ∧ (World.drew w4).heap[w.heap.size]? = some (.cells p 44 (0, 0)) := ⟨hyy, hx4⟩
 refine tkH (i := 0) (v := .agg C) rfl (.inl ⟨by rfl, fun wq hSw => EqHash.Bg 44 _ rfl _ rfl hSw.1 underlying44 rfl HCS.out⟩) hS0 ?_
 simp only [sq]
 refine tkJ 1 ?_ ?_ hS0 ?_
 rotate_left
 ·intro wq hSw
  obtain ⟨q0, q1⟩ := hSw
  go_simp
  rfl
 simp only [sq]
 refine tkJ 2 ?_ ?_ hS0 ?_
 rotate_left
 ·intro wq hSw
  obtain ⟨q0, q1⟩ := hSw
  go_simp
  rfl
 simp only [sq]
 refine tkJ 3 ?_ ?_ hS0 ?_
 rotate_left
 ·intro wq hSw
  obtain ⟨q0, q1⟩ := hSw
  go_simp
  rfl
 simp only [sq]
 refine wpAnyH_all (rs := [4, 9]) (by kernel_rfl) (by simp) ?_
 intro i hi
 simp only [List.mem_cons, List.not_mem_nil, or_false] at hi
 rcases hi with rfl | rfl
 ·skip
  refine BR rfl (by rfl) (by go_simp; all_goals (and_intros <;> rfl)) ?_
  refine (HSm.out (World.drew w4)).mono ?_
  rintro e wa1 ⟨v, rfl, hA⟩
  have hb2 := hA.bel
  have hS3 : wa1.heap[g1]? = some (.cells C 44 (0, 0)) ∧ wa1.heap[w.heap.size]? = some (.cells p 44 (0, 0)) := ⟨(hb2.block _ (AJ hS0.1)).trans hS0.1, (hb2.block _ (AJ hS0.2)).trans hS0.2⟩
  have HB4 := lh ((HB4.out).drew.trans (hb2.mono ((HB4.out).drew).size))
  have SQ := lh (show Sl wa1 v 32 L.length (L.flatMap H32.cs) from hA.sl)
  clear hA
  refine ⟨_, rfl, ?_, ?_⟩
  ·exact hS3
  simp only [sq]
  refine wpAnyH_all (rs := [5, 9]) (by kernel_rfl) (by simp) ?_
  intro i hi
  simp only [List.mem_cons, List.not_mem_nil, or_false] at hi
  rcases hi with rfl | rfl
  ·skip
   refine BR rfl (by rfl) (by go_simp; all_goals (and_intros <;> rfl)) ?_
   refine (HCl.out wa1 v (HV.out.below HB4.out) SQ.out).mono ?_
   rintro e wc6 ⟨rfl, hb7⟩
   have hS8 : wc6.heap[g1]? = some (.cells C 44 (0, 0)) ∧ wc6.heap[w.heap.size]? = some (.cells p 44 (0, 0)) := ⟨(hb7.block _ (AJ hS3.1)).trans hS3.1, (hb7.block _ (AJ hS3.2)).trans hS3.2⟩
   obtain ⟨HB9, fD⟩ := l2h (HB4.out.trans (hb7.mono (HB4.out).size)) (Sl.below SQ.out hb7)
   refine ⟨_, rfl, ?_, ?_⟩
   ·exact hS8
   simp only [sq]
   refine tkJ 6 ?_ ?_ hS8 ?_
   rotate_left
   ·intro wq hSw
    obtain ⟨q0, q1⟩ := hSw
    go_simp
    rfl
   simp only [sq]
   refine tkJ 7 ?_ ?_ hS8 ?_
   rotate_left
   ·intro wq hSw
    obtain ⟨q0, q1⟩ := hSw
    go_simp
    rfl
   simp only [sq]
   refine tkJ 8 ?_ ?_ hS8 ?_
   rotate_left
   ·intro wq hSw
    obtain ⟨q0, q1⟩ := hSw
    go_simp
    rfl
   simp only [sq]
   refine aOne (r := 9) ?_
   refine Ap rfl (by rfl) (w' := wc6.alloc (.cells #[.int .u8 0, .int .u8 0, .int .u8 0, .int .u8 0, .int .u8 0, .int .u8 0, .int .u8 0, .int .u8 0, .int .u8 0, .int .u8 0, .int .u8 0, .int .u8 0, .int .u8 0, .int .u8 0, .int .u8 0, .int .u8 0, .int .u8 0, .int .u8 0, .int .u8 0, .int .u8 0, .int .u8 0, .int .u8 0, .int .u8 0, .int .u8 0, .int .u8 0, .int .u8 0, .int .u8 0, .int .u8 0, .int .u8 0, .int .u8 0, .int .u8 0, .int .u8 0] 44)) (v := .pointer (some ⟨wc6.heap.size, 0, none⟩)) (by go_simp; first | done | rfl) ?_
   rw [HLIT.out]
   obtain ⟨Uf, VD⟩ := nXe (wc6.alloc (.cells Z 44))
   rw [← VD]
   have Xb : Below wc6.heap.size wc6 Uf := by rw [VD]; exact bAx
   have ZI := lh (show Uf.heap[wc6.heap.size]? = some (.cells Z 44 (0, 0)) by rw [VD]; exact AL _ _)
   have hS15 : Uf.heap[g1]? = some (.cells C 44 (0, 0)) ∧ Uf.heap[w.heap.size]? = some (.cells p 44 (0, 0)) := ⟨(Xb.block _ (AJ hS8.1)).trans hS8.1, (Xb.block _ (AJ hS8.2)).trans hS8.2⟩
   have eD := lh (HB9.out.trans (Xb.mono (HB9.out).size))
   clear VD
   refine ⟨hS15, ?_⟩
   simp only [sq]
   refine aOne (r := 10) ?_
   have hg1 : g1 < wc6.heap.size := AJ hS8.1
   have hg0 : w.heap.size < wc6.heap.size := AJ hS8.2
   refine WrC.BM rfl (by rfl) _ _ _ rfl (wc6.heap.size) E rfl rfl _ _ ZI.out HES.out HZE.out HEO.out ?_
   intro wd17 hw18
   have hS19 : wd17.heap[g1]? = some (.cells C 44 (0, 0)) ∧ wd17.heap[w.heap.size]? = some (.cells p 44 (0, 0)) := ⟨by rw [hw18.out]; exact (CO _ (by omega)).trans hS15.1, by rw [hw18.out]; exact (CO _ (by omega)).trans hS15.2⟩
   have dx := lh (show Below w.heap.size w wd17 by rw [hw18.out]; exact AQ eD.out (by omega) _)
   have bG := lh (show wd17.heap[wc6.heap.size]? = some (.cells E 44 (0, 0)) by rw [hw18.out]; exact AR ZI.out)
   clear hw18
   refine ⟨hS19, ?_⟩
   simp only [sq]
   refine tkJ 11 ?_ ?_ hS19 ?_
   rotate_left
   ·intro wq hSw
    obtain ⟨q0, q1⟩ := hSw
    go_simp
    rfl
   simp only [sq]
   refine wpAnyH_done (by kernel_rfl) (NoPanic.normal ?_) _
   have HXF := lh hS19.2
   have heq := HEQ.out
   have hG := HGG.out
   clear HEQ
   cases q
   all_goals
        go_wp2_with (first | (refine WireT.BQ (by rfl) _ _ rfl (wc6.heap.size) rfl _ E (0, 0) _ bG.out underlying44 rfl HES.out ?_) | (refine WireT.BQ (by rfl) _ _ rfl w.heap.size rfl _ p (0, 0) _ HXF.out underlying44 rfl HPS.out ?_) | fail)
        go_ret
        exact ⟨by rw [HRes.out]; rfl, dx.out⟩
  ·skip
   refine Ap rfl (by rfl) (w' := wa1.alloc (.cells #[.int .u8 0, .int .u8 0, .int .u8 0, .int .u8 0, .int .u8 0, .int .u8 0, .int .u8 0, .int .u8 0, .int .u8 0, .int .u8 0, .int .u8 0, .int .u8 0, .int .u8 0, .int .u8 0, .int .u8 0, .int .u8 0, .int .u8 0, .int .u8 0, .int .u8 0, .int .u8 0, .int .u8 0, .int .u8 0, .int .u8 0, .int .u8 0, .int .u8 0, .int .u8 0, .int .u8 0, .int .u8 0, .int .u8 0, .int .u8 0, .int .u8 0, .int .u8 0] 44)) (v := .pointer (some ⟨wa1.heap.size, 0, none⟩)) (by go_simp; first | done | rfl) ?_
   rw [HLIT.out]
   obtain ⟨Sm, VC⟩ := nXe (wa1.alloc (.cells Z 44))
   rw [← VC]
   have VH : Below wa1.heap.size wa1 Sm := by rw [VC]; exact bAx
   have bF := lh (show Sm.heap[wa1.heap.size]? = some (.cells Z 44 (0, 0)) by rw [VC]; exact AL _ _)
   have hS26 : Sm.heap[g1]? = some (.cells C 44 (0, 0)) ∧ Sm.heap[w.heap.size]? = some (.cells p 44 (0, 0)) := ⟨(VH.block _ (AJ hS3.1)).trans hS3.1, (VH.block _ (AJ hS3.2)).trans hS3.2⟩
   obtain ⟨YE, WO⟩ := l2h (HB4.out.trans (VH.mono (HB4.out).size)) (Sl.below SQ.out VH)
   clear VC
   refine ⟨hS26, ?_⟩
   simp only [sq]
   have hg1 : g1 < wa1.heap.size := AJ hS3.1
   have hg0 : w.heap.size < wa1.heap.size := AJ hS3.2
   refine aOne (r := 5) ?_
   refine BR rfl (by rfl) (by go_simp; all_goals (and_intros <;> rfl)) ?_
   refine (HCl.out Sm v (HV.out.below YE.out) WO.out).mono ?_
   rintro e wc29 ⟨rfl, Tw⟩
   have hS31 : wc29.heap[g1]? = some (.cells C 44 (0, 0)) ∧ wc29.heap[w.heap.size]? = some (.cells p 44 (0, 0)) := ⟨(Tw.block _ (AJ hS26.1)).trans hS26.1, (Tw.block _ (AJ hS26.2)).trans hS26.2⟩
   obtain ⟨dw, fC⟩ := l2h (YE.out.trans (Tw.mono (YE.out).size)) (Sl.below WO.out Tw)
   have ZH := kpB Tw bF
   refine ⟨_, rfl, ?_, ?_⟩
   ·exact hS31
   simp only [sq]
   refine tkJ 6 ?_ ?_ hS31 ?_
   rotate_left
   ·intro wq hSw
    obtain ⟨q0, q1⟩ := hSw
    go_simp
    rfl
   simp only [sq]
   refine tkJ 7 ?_ ?_ hS31 ?_
   rotate_left
   ·intro wq hSw
    obtain ⟨q0, q1⟩ := hSw
    go_simp
    rfl
   simp only [sq]
   refine tkJ 8 ?_ ?_ hS31 ?_
   rotate_left
   ·intro wq hSw
    obtain ⟨q0, q1⟩ := hSw
    go_simp
    rfl
   simp only [sq]
   refine aOne (r := 10) ?_
   refine WrC.BM rfl (by rfl) _ _ _ rfl (wa1.heap.size) E rfl rfl _ _ ZH.out HES.out HZE.out HEO.out ?_
   intro wd35 hw36
   have hS37 : wd35.heap[g1]? = some (.cells C 44 (0, 0)) ∧ wd35.heap[w.heap.size]? = some (.cells p 44 (0, 0)) := ⟨by rw [hw36.out]; exact (CO _ (by omega)).trans hS31.1, by rw [hw36.out]; exact (CO _ (by omega)).trans hS31.2⟩
   have dn := lh (show Below w.heap.size w wd35 by rw [hw36.out]; exact AQ dw.out (by omega) _)
   have bC := lh (show wd35.heap[wa1.heap.size]? = some (.cells E 44 (0, 0)) by rw [hw36.out]; exact AR ZH.out)
   clear hw36
   refine ⟨hS37, ?_⟩
   simp only [sq]
   refine tkJ 11 ?_ ?_ hS37 ?_
   rotate_left
   ·intro wq hSw
    obtain ⟨q0, q1⟩ := hSw
    go_simp
    rfl
   simp only [sq]
   refine wpAnyH_done (by kernel_rfl) (NoPanic.normal ?_) _
   have HXF := lh hS37.2
   have heq := HEQ.out
   have hG := HGG.out
   clear HEQ
   cases q
   all_goals
        go_wp2_with (first | (refine WireT.BQ (by rfl) _ _ rfl (wa1.heap.size) rfl _ E (0, 0) _ bC.out underlying44 rfl HES.out ?_) | (refine WireT.BQ (by rfl) _ _ rfl w.heap.size rfl _ p (0, 0) _ HXF.out underlying44 rfl HPS.out ?_) | fail)
        go_ret
        exact ⟨by rw [HRes.out]; rfl, dn.out⟩
 ·skip
  refine Ap rfl (by rfl) (w' := (World.drew w4).alloc (.cells #[.int .u8 0, .int .u8 0, .int .u8 0, .int .u8 0, .int .u8 0, .int .u8 0, .int .u8 0, .int .u8 0, .int .u8 0, .int .u8 0, .int .u8 0, .int .u8 0, .int .u8 0, .int .u8 0, .int .u8 0, .int .u8 0, .int .u8 0, .int .u8 0, .int .u8 0, .int .u8 0, .int .u8 0, .int .u8 0, .int .u8 0, .int .u8 0, .int .u8 0, .int .u8 0, .int .u8 0, .int .u8 0, .int .u8 0, .int .u8 0, .int .u8 0, .int .u8 0] 44)) (v := .pointer (some ⟨(World.drew w4).heap.size, 0, none⟩)) (by go_simp; first | done | rfl) ?_
  rw [HLIT.out]
  obtain ⟨Sk, U9⟩ := nXe ((World.drew w4).alloc (.cells Z 44))
  rw [← U9]
  have Xa : Below (World.drew w4).heap.size (World.drew w4) Sk := by rw [U9]; exact bAx
  have az := lh (show Sk.heap[(World.drew w4).heap.size]? = some (.cells Z 44 (0, 0)) by rw [U9]; exact AL _ _)
  have hS44 : Sk.heap[g1]? = some (.cells C 44 (0, 0)) ∧ Sk.heap[w.heap.size]? = some (.cells p 44 (0, 0)) := ⟨(Xa.block _ (AJ hS0.1)).trans hS0.1, (Xa.block _ (AJ hS0.2)).trans hS0.2⟩
  have Z0 := lh ((HB4.out).drew.trans (Xa.mono ((HB4.out).drew).size))
  clear U9
  refine ⟨hS44, ?_⟩
  simp only [sq]
  have hg1 : g1 < (World.drew w4).heap.size := AJ hS0.1
  have hg0 : w.heap.size < (World.drew w4).heap.size := AJ hS0.2
  refine aOne (r := 4) ?_
  refine BR rfl (by rfl) (by go_simp; all_goals (and_intros <;> rfl)) ?_
  refine (HSm.out Sk).mono ?_
  rintro e wa46 ⟨v, rfl, hA⟩
  have VG := hA.bel
  have hS48 : wa46.heap[g1]? = some (.cells C 44 (0, 0)) ∧ wa46.heap[w.heap.size]? = some (.cells p 44 (0, 0)) := ⟨(VG.block _ (AJ hS44.1)).trans hS44.1, (VG.block _ (AJ hS44.2)).trans hS44.2⟩
  have YD := lh (Z0.out.trans (VG.mono (Z0.out).size))
  have ay := kpB VG az
  have WN := lh (show Sl wa46 v 32 L.length (L.flatMap H32.cs) from hA.sl)
  clear hA
  refine ⟨_, rfl, ?_, ?_⟩
  ·exact hS48
  simp only [sq]
  refine aOne (r := 5) ?_
  refine BR rfl (by rfl) (by go_simp; all_goals (and_intros <;> rfl)) ?_
  refine (HCl.out wa46 v (HV.out.below YD.out) WN.out).mono ?_
  rintro e wc52 ⟨rfl, Tv⟩
  have hS54 : wc52.heap[g1]? = some (.cells C 44 (0, 0)) ∧ wc52.heap[w.heap.size]? = some (.cells p 44 (0, 0)) := ⟨(Tv.block _ (AJ hS48.1)).trans hS48.1, (Tv.block _ (AJ hS48.2)).trans hS48.2⟩
  obtain ⟨dm, fA⟩ := l2h (YD.out.trans (Tv.mono (YD.out).size)) (Sl.below WN.out Tv)
  have ZG := kpB Tv ay
  refine ⟨_, rfl, ?_, ?_⟩
  ·exact hS54
  simp only [sq]
  refine tkJ 6 ?_ ?_ hS54 ?_
  rotate_left
  ·intro wq hSw
   obtain ⟨q0, q1⟩ := hSw
   go_simp
   rfl
  simp only [sq]
  refine tkJ 7 ?_ ?_ hS54 ?_
  rotate_left
  ·intro wq hSw
   obtain ⟨q0, q1⟩ := hSw
   go_simp
   rfl
  simp only [sq]
  refine tkJ 8 ?_ ?_ hS54 ?_
  rotate_left
  ·intro wq hSw
   obtain ⟨q0, q1⟩ := hSw
   go_simp
   rfl
  simp only [sq]
  refine aOne (r := 10) ?_
  refine WrC.BM rfl (by rfl) _ _ _ rfl ((World.drew w4).heap.size) E rfl rfl _ _ ZG.out HES.out HZE.out HEO.out ?_
  intro wd58 hw59
  have hS60 : wd58.heap[g1]? = some (.cells C 44 (0, 0)) ∧ wd58.heap[w.heap.size]? = some (.cells p 44 (0, 0)) := ⟨by rw [hw59.out]; exact (CO _ (by omega)).trans hS54.1, by rw [hw59.out]; exact (CO _ (by omega)).trans hS54.2⟩
  have di := lh (show Below w.heap.size w wd58 by rw [hw59.out]; exact AQ dm.out (by omega) _)
  have ax := lh (show wd58.heap[(World.drew w4).heap.size]? = some (.cells E 44 (0, 0)) by rw [hw59.out]; exact AR ZG.out)
  clear hw59
  refine ⟨hS60, ?_⟩
  simp only [sq]
  refine tkJ 11 ?_ ?_ hS60 ?_
  rotate_left
  ·intro wq hSw
   obtain ⟨q0, q1⟩ := hSw
   go_simp
   rfl
  simp only [sq]
  refine wpAnyH_done (by kernel_rfl) (NoPanic.normal ?_) _
  have HXF := lh hS60.2
  have heq := HEQ.out
  have hG := HGG.out
  clear HEQ
  cases q
  all_goals
   go_wp2_with (first | (refine WireT.BQ (by rfl) _ _ rfl ((World.drew w4).heap.size) rfl _ E (0, 0) _ ax.out underlying44 rfl HES.out ?_) | (refine WireT.BQ (by rfl) _ _ rfl w.heap.size rfl _ p (0, 0) _ HXF.out underlying44 rfl HPS.out ?_) | fail)
   go_ret
   exact ⟨by rw [HRes.out]; rfl, di.out⟩
end KeyJ
namespace KeyK
open Go Go.RowKit Go.Shelf OctP OctG RowsX Lift ShaS KeyS ShaA ShaB Steps KeyA KeyE KeyG KeyH KeyI TreeA TreeC TreeE TreeF
def Ga (s : List UInt8) (i : Nat) : H32 := ⟨QX (Az s i), Bb _⟩
theorem aN (t : List UInt8) (h : t.length = 32) : (H32.mk t h).A = (byV t).toArray := rfl
theorem aM (t : List UInt8) (h : t.length = 32) : (H32.mk t h).l = t := rfl
theorem YF (x : H32) : x.A.toList = x.cs := rfl
theorem U6 (s : List UInt8) (i : Nat) : (Ga s i).l = QX (Az s i) := by
 unfold Ga
 exact aM _ _
theorem U7 (s : List UInt8) (i : Nat) : (Ga s i).A = (byV (QX (Az s i))).toArray := by
 unfold Ga
 exact aN _ _
def Bv (s : List UInt8) (n : Nat) : List H32 := (List.range n).map (Ga s)
theorem DW (s : List UInt8) (n : Nat) : (Bv s n).length = n := by simp [Bv]
theorem Oz (s : List UInt8) (n : Nat) : Bv s (n + 1) = Bv s n ++ [Ga s n] := by
 unfold Bv
 rw [List.range_succ, List.map_append, List.map_singleton]
theorem OY (s : List UInt8) (n : Nat) : (Bv s n).map H32.l = Db s n := by
 unfold Bv Db
 rw [List.map_map]
 exact List.map_congr_left fun i _ => U6 s i
def Ht (s : List UInt8) (h : Nat) : H32 := NR h (Bv s (2 ^ h))
theorem Ot (s : List UInt8) (h : Nat) : (Ht s h).l = rootOf s h := by
 unfold Ht rootOf
 rw [Q8 h _ (DW _ _), OY]
def CZ (s : ByteArray) (h nx : Int) (v : Value) (x : H32) : Array Value := #[.string s, .int .i64 h, .int .i64 nx, v] ++ x.A
theorem QR (s : ByteArray) (h nx : Int) (v : Value) (x : H32) : (CZ s h nx v x).size = 36 := by
 unfold CZ
 rw [Array.size_append, x.size]
 rfl
theorem QS (s : ByteArray) (h nx : Int) (v u : Value) (x : H32) : (CZ s h nx v x).setIfInBounds 3 u = CZ s h nx u x := by
 unfold CZ
 rw [Array.setIfInBounds_append_left (by simp)]
 simp
theorem QT (s : ByteArray) (h nx my : Int) (v : Value) (x : H32) : (CZ s h nx v x).setIfInBounds 2 (.int .i64 my) = CZ s h my v x := by
 unfold CZ
 rw [Array.setIfInBounds_append_left (by simp)]
 simp
theorem NJ (s : ByteArray) (h nx : Int) (v : Value) (x : H32) : (CZ s h nx v x)[0]? = some (.string s) ∧ (CZ s h nx v x)[1]? = some (.int .i64 h) ∧ (CZ s h nx v x)[2]? = some (.int .i64 nx) ∧ (CZ s h nx v x)[3]? = some v := by
 unfold CZ
 refine ⟨?_, ?_, ?_, ?_⟩ <;> (rw [Array.getElem?_append_left (by simp)]; rfl)
theorem IB (s : ByteArray) (h nx : Int) (v : Value) (x : H32) (j : Nat) : (CZ s h nx v x)[4 + j]? = x.A[j]? := by
 unfold CZ
 rw [Array.getElem?_append_right (by simp)]
 simp
structure RingAt (w0 w : World) (R : Nat) (s : ByteArray) (h nx : Nat) (v : Value) : Prop where
 row : w.heap[R]? = some (.cells (CZ s h nx v (Ht (bl s) h)) 90 (0, 0))
 lv : Ow w w0.heap.size 44 32 v (2 ^ h) ((Bv (bl s) (2 ^ h)).flatMap H32.cs)
 ge : w0.heap.size ≤ R
 sep : ∀ k, v.ownBlock = some k → R < k
theorem QO {w w' : World} {R : Nat} {s : ByteArray} {h nx : Int} {v : Value} {x y : H32} (hx : w.heap[R]? = some (.cells (CZ s h nx v x) 90 (0, 0))) (he : w' = w.setCells R 4 y.A.toList) : w'.heap[R]? = some (.cells (CZ s h nx v y) 90 (0, 0)) := by
 subst he
 obtain ⟨cs, h1, h2, h3, h4, h5⟩ := Cz y.A.toList 4 w _ hx
 rw [h1]
 congr 2
 have hl : y.A.toList.length = 32 := by rw [Array.length_toList, y.size]
 refine Array.ext_getElem? fun j => ?_
 rcases Nat.lt_or_ge j 4 with hj | hj
 ·rw [h3 j hj]
  unfold CZ
  rw [Array.getElem?_append_left (by simpa using hj), Array.getElem?_append_left (by simpa using hj)]
 ·obtain ⟨k, rfl⟩ : ∃ k, j = 4 + k := ⟨j - 4, by omega⟩
  rw [IB]
  rcases Nat.lt_or_ge k 32 with hk | hk
  ·rw [h4 (by rw [hl, QR]; omega) k (by omega)]
   simp
  ·rw [h5 _ (by rw [hl]; omega), IB, Array.getElem?_eq_none (by rw [H32.size]; omega), Array.getElem?_eq_none (by rw [H32.size]; omega)]
theorem UV (w : World) (s : ByteArray) (h nx : Nat) (hs0 : 0 < s.size) (hs : s.size ≤ 64) (hh : h ≤ 7) (hn : nx ≤ 2 ^ h) (hk : Au w) :
 Calls Tryz.prog 15 #[.agg (XJ s h nx)] w fun e w' => ∃ R v, e = .returned (.tuple #[.pointer (some ⟨R, 0, none⟩), .int .i64 0]) ∧ RingAt w w' R s h nx v ∧ Below w.heap.size w w' := by
 have hC := fun w => SX w s h nx hs0 hs hh hn
 have hSd := fun w i hi hk => Q6 w s h nx i hi (by omega) hk
 unfold XJ at hC hSd ⊢
 obtain ⟨hp, hM⟩ := Gu h hh
 have hRt := fun w v hv hk => Ve w v (Bv (bl s) (2 ^ h)) h hh (DW _ _) hv hk
 rw [DW] at hRt
 have Yn := DW (bl s)
 obtain ⟨n, hnn⟩ := nXe (2 ^ h)
 obtain ⟨Rt, NK⟩ := nXe ((Ht (bl s) h).A)
 have Xe : ∀ w v, Sl w v 32 (2 ^ h) ((Bv (bl s) (2 ^ h)).flatMap H32.cs) → Au w → Calls Tryz.prog 33 #[v] w (RB (.tuple #[.agg Rt, .int .i64 0]) w) := by rw [NK]; exact hRt
 rw [← hnn] at Xe hp hM
 have QI := lh (show (Tryz.prog.info? 44).map (·.size) = some Rt.size by rw [NK]; exact H32.info _)
 have Vk := lh (show 32 = Rt.size by rw [NK, H32.size])
 have Vj := lh (show Rt.all (·.oneCell') = true by rw [NK]; exact H32.one _)
 have bi := lh NK
 have HLIT : Hid ((#[.string s, .int .i64 (h : Int), .int .i64 (nx : Int), .slice none 0 0, .int .u8 0, .int .u8 0, .int .u8 0, .int .u8 0, .int .u8 0, .int .u8 0, .int .u8 0, .int .u8 0, .int .u8 0, .int .u8 0, .int .u8 0, .int .u8 0, .int .u8 0, .int .u8 0, .int .u8 0, .int .u8 0, .int .u8 0, .int .u8 0, .int .u8 0, .int .u8 0, .int .u8 0, .int .u8 0, .int .u8 0, .int .u8 0, .int .u8 0, .int .u8 0, .int .u8 0, .int .u8 0, .int .u8 0, .int .u8 0, .int .u8 0, .int .u8 0] : Array Value) = CZ s h nx (.slice none 0 0) CQ) := lh (by kernel_rfl)
 obtain ⟨HC, HSd, HRt, HV, Hnn, fZ⟩ := l6h hC hSd Xe hk hnn Yn
 clear hC hSd hRt Xe hk NK hn Yn hnn
 obtain ⟨w0, hw0⟩ := nXe (w.alloc (.cells #[.string s, .int .i64 h, .int .i64 nx] 62))
 have hb0 : Below w.heap.size w w0 := by rw [hw0]; exact ((Below.refl _ w).alloc nR _)
 have hx0 : w0.heap[w.heap.size]? = some (.cells #[.string s, .int .i64 h, .int .i64 nx] 62 (0, 0)) := by rw [hw0]; exact AL _ _
 obtain ⟨HBL0, HW0⟩ := l2h hb0 hw0
 have lx0 := AJ hx0
 obtain ⟨cx0, fx0⟩ := AA hx0
 clear hw0 hb0
 go_enter func15, ntmps15
 go_wp2_with fail
 rw [← HW0.out]
 refine (HC.out w0).mono ?_
 rintro e w1 ⟨rfl, hb⟩
 have HBL1 := tbB HBL0 hb
 have hx1 := (hb.block _ lx0).trans hx0
 have lx1 := AJ hx1
 obtain ⟨cx1, fx1⟩ := AA hx1
 clear hb hx0 cx0 fx0
 go_wp2_with fail
 rw [HLIT.out]
 obtain ⟨R, hRR⟩ := nXe (w1.heap.size)
 obtain ⟨w2, hw2⟩ := nXe (w1.alloc (.cells (CZ s h nx (.slice none 0 0) CQ) 90))
 rw [← hw2]
 have hb2 : Below w1.heap.size w1 w2 := by rw [hw2]; exact bAx
 have hr2 : w2.heap[R]? = some (.cells (CZ s h nx (.slice none 0 0) CQ) 90 (0, 0)) := by rw [hw2, hRR]; exact AL _ _
 have hR0 : w.heap.size < R := by rw [hRR]; have := AJ hx1; omega
 have HR2 := lh hr2
 rw [← hRR]
 clear hw2 hRR hr2
 have HBL2 := tbB HBL1 hb2
 have hx2 := (hb2.block _ lx1).trans hx1
 have lx2 := AJ hx2
 obtain ⟨cx2, fx2⟩ := AA hx2
 clear hb2 hx1 cx1 fx1
 rw [hp]
 go_loopw [20] (fun q wr => ∃ (k : Nat) (v : Value), q = .int .i64 k ∧ k ≤ n ∧ wr.heap[w.heap.size]? = some (.cells #[.string s, .int .i64 h, .int .i64 nx] 62 (0, 0)) ∧ wr.heap[R]? = some (.cells (CZ s h nx v CQ) 90 (0, 0)) ∧ Ow wr w.heap.size 44 32 v k ((Bv (bl s) k).flatMap H32.cs) ∧ (∀ j, v.ownBlock = some j → R < j) ∧ Below w.heap.size w wr) (fun q _ => n - (intOf q).toNat)
 case atStart => exact ⟨0, _, rfl, by omega, hx2, HR2.out, Ow.nil _ _ _ _, fun j hj => by simp [Value.ownBlock] at hj, HBL2.out⟩
 case round =>
  obtain ⟨k, v, rfl, hk, hx, hr, ho, hsep, hb⟩ := hrel
  clear hx2 lx2 cx2 fx2 HR2
  obtain ⟨av, cv, rfl, hcv, hcm⟩ := ho.form
  have hR1 := AJ hr
  obtain ⟨cx, fx⟩ := AA hx
  have hc3 : wr.cell? ⟨R, 3, none⟩ = some (.slice av k cv) := by rw [AO hr]; exact (NJ _ _ _ _ _).2.2.2
  have hz : wr.frozen? ⟨R, 3, none⟩ = false := BK hr
  obtain ⟨Hx, Hr, HO, Hsep, HB⟩ := l5h hx hr ho hsep hb
  have HVr := lh (HV.out.below HB.out)
  clear ho hsep hb hx hr
  by_cases hlt : k < n
  ·skip
   obtain ⟨Sd, hSd⟩ := nXe (bsOf (Az (bl s) k))
   have Xd : Sd.size ≤ 1000 := by rw [hSd, AY]; unfold Az; rw [Cx]; omega
   have hSk := fun w hk => HSd.out w k (by omega) hk
   have hPb := fun w hk => SL w Sd Xd hk
   have hbS : bl Sd = Az (bl s) k := by rw [hSd, AV]
   rw [hbS] at hPb
   obtain ⟨C, hCe⟩ := nXe ((Ga (bl s) k).A)
   have Yr : ∀ w, Au w → Calls Tryz.prog 31 #[.string Sd] w (RB (.agg C) w) := by rw [hCe, U7]; exact hPb
   have hCn : C.size = 32 := by rw [hCe]; exact H32.size _
   have HCL := lh (show C.toList = (Ga (bl s) k).cs by rw [hCe]; exact YF _)
   rw [← hSd] at hSk
   obtain ⟨HSk, HPb⟩ := l2h hSk Yr
   clear hSk hPb Yr hSd hbS hCe
   go_wp2
   refine wp_region_noPanic ?_
   refine Wr.BI (S := (fun W => W.heap[w.heap.size]? = some (.cells #[.string s, .int .i64 h, .int .i64 nx] 62 (0, 0)) ∧ W.cell? ⟨R, 3, none⟩ = some (.slice av k cv) ∧ Au W ∧ Ow W w.heap.size 44 32 (.slice av k cv) k ((Bv (bl s) k).flatMap H32.cs))) (K := [10, 13]) (by kernel_rfl) ?_
   change Wr.Ar _ _ _ _ _ _ _ _ _ (World.drew wr)
   have hS0 : (World.drew wr).heap[w.heap.size]? = some (.cells #[.string s, .int .i64 h, .int .i64 nx] 62 (0, 0)) ∧ (World.drew wr).cell? ⟨R, 3, none⟩ = some (.slice av k cv) ∧ Au (World.drew wr) ∧ Ow (World.drew wr) w.heap.size 44 32 (.slice av k cv) k ((Bv (bl s) k).flatMap H32.cs) := ⟨Hx.out, hc3, (HVr.out).below (Bl.drew (Below.refl _ _)), (HO.out).ext (Ext.drew (Ext.refl _ _)) (fun _ _ h => h)⟩
   have hBL0 : Below wr.heap.size wr (World.drew wr) := Bl.drew (Below.refl _ _)
   clear hc3
   refine Wr.tkE 0 ?_ ?_ hS0 ?_
   rotate_left
   ·intro wq _
    go_simp
    rfl
   simp only [sq]
   refine Wr.tkE 1 ?_ ?_ hS0 ?_
   rotate_left
   ·intro wq _
    go_simp
    rfl
   simp only [sq]
   refine Wr.tkE 2 ?_ ?_ hS0 ?_
   rotate_left
   ·intro wq _
    go_simp
    rfl
   simp only [sq]
   refine Wr.tkE 3 ?_ ?_ hS0 ?_
   rotate_left
   ·intro wq _
    go_simp
    rfl
   simp only [sq]
   refine Wr.Bq [10, 13] (i := 4) (v := ?_) rfl (by kernel_rfl) (fun _ _ _ h => h) (Or.inl ⟨by rfl, ?_⟩) hS0 ?_
   rotate_left
   ·intro wq hSw
    obtain ⟨q0, q1, q2, q3⟩ := hSw
    obtain ⟨qc0, qf0⟩ := AA q0
    go_simp
    rfl
   simp only [sq]
   refine Wr.Bq [7, 8, 9, 10, 13] (i := 5) (v := ?_) rfl (by kernel_rfl) (fun _ _ _ h => h) (Or.inl ⟨by rfl, ?_⟩) hS0 ?_
   rotate_left
   ·intro wq hSw
    obtain ⟨q0, q1, q2, q3⟩ := hSw
    obtain ⟨qc0, qf0⟩ := AA q0
    go_simp
    rfl
   simp only [sq]
   refine Wr.tkE 6 ?_ ?_ hS0 ?_
   rotate_left
   ·intro wq _
    go_simp
    rfl
   simp only [sq]
   refine Wr.Ab (i := 7) (by kernel_rfl) ?_
   refine BR rfl (by rfl) (by go_simp; all_goals (and_intros <;> rfl)) ?_
   refine (HSk.out (World.drew wr) hS0.2.2.1).mono ?_
   rintro e wa ⟨rfl, Pz⟩
   have hS1 : wa.heap[w.heap.size]? = some (.cells #[.string s, .int .i64 h, .int .i64 nx] 62 (0, 0)) ∧ wa.cell? ⟨R, 3, none⟩ = some (.slice av k cv) ∧ Au wa ∧ Ow wa w.heap.size 44 32 (.slice av k cv) k ((Bv (bl s) k).flatMap H32.cs) := ⟨(Pz.block _ (AJ (hS0.1))).trans (hS0.1), AB Pz (hS0.2.1), (hS0.2.2.1).below Pz, (hS0.2.2.2).ext (Ext.ofB Pz) (fun _ _ h => h)⟩
   have hBL1 : Below wr.heap.size wr wa := hBL0.trans (Pz.mono hBL0.size)
   refine ⟨_, rfl, ?_, ?_⟩
   ·exact hS1
   simp only [sq]
   refine Wr.Ab (i := 8) (by kernel_rfl) ?_
   refine BR rfl (by rfl) (by go_simp; all_goals (and_intros <;> rfl)) ?_
   refine (HPb.out wa hS1.2.2.1).mono ?_
   rintro e wb ⟨rfl, Py⟩
   have hS2 : wb.heap[w.heap.size]? = some (.cells #[.string s, .int .i64 h, .int .i64 nx] 62 (0, 0)) ∧ wb.cell? ⟨R, 3, none⟩ = some (.slice av k cv) ∧ Au wb ∧ Ow wb w.heap.size 44 32 (.slice av k cv) k ((Bv (bl s) k).flatMap H32.cs) := ⟨(Py.block _ (AJ (hS1.1))).trans (hS1.1), AB Py (hS1.2.1), (hS1.2.2.1).below Py, (hS1.2.2.2).ext (Ext.ofB Py) (fun _ _ h => h)⟩
   have hBL2 : Below wr.heap.size wr wb := hBL1.trans (Py.mono hBL1.size)
   refine ⟨_, rfl, ?_, ?_⟩
   ·exact hS2
   simp only [sq]
   refine Wr.Ab (i := 9) (by kernel_rfl) ?_
   refine Ap rfl (by rfl) (v := .slice (some ⟨wb.heap.size, 0, none⟩) 1 1) (w' := wb.alloc (.cells C 44)) (by go_simp; rw [Fy C hCn]; first | done | rfl | exact ⟨rfl, rfl⟩) ?_
   have hsrc := EI (tx := 88) underlying88 hF wb (Ga (bl s) k) C HCL.out 44
   obtain ⟨wc, hwc⟩ := nXe (wb.alloc (.cells C 44))
   rw [← hwc] at hsrc ⊢
   have Px : Below wb.heap.size wb wc := by rw [hwc]; exact bAx
   have hS3 : wc.heap[w.heap.size]? = some (.cells #[.string s, .int .i64 h, .int .i64 nx] 62 (0, 0)) ∧ wc.cell? ⟨R, 3, none⟩ = some (.slice av k cv) ∧ Au wc ∧ Ow wc w.heap.size 44 32 (.slice av k cv) k ((Bv (bl s) k).flatMap H32.cs) := ⟨(Px.block _ (AJ (hS2.1))).trans (hS2.1), AB Px (hS2.2.1), (hS2.2.2.1).below Px, (hS2.2.2.2).ext (Ext.ofB Px) (fun _ _ h => h)⟩
   have hBL3 : Below wr.heap.size wr wc := hBL2.trans (Px.mono hBL2.size)
   clear hwc
   refine ⟨hS3, ?_⟩
   simp only [sq]
   refine Wr.BJ (i := 10) (by kernel_rfl) (by kernel_rfl) ?_
   refine Wr.Ci rfl (by rfl) _ _ _ _ rfl tyHs w.heap.size (.slice av k cv) k ((Bv (bl s) k).flatMap H32.cs) rfl hS3.2.2.2 (.slice (some ⟨wb.heap.size, 0, none⟩) 1 1) 1 (Ga (bl s) k).cs rfl hsrc (k + 1) rfl ((Bv (bl s) (k + 1)).flatMap H32.cs) (by rw [Oz, List.flatMap_append, List.flatMap_singleton]) (by unfold maxLen; omega) (by omega) (Nat.le_trans HB.out.size hBL3.size) ?_
   intro a4 c4 w4 NA hgrow4 Nn
   simp only [sq]
   have hrc := (hBL3.block R hR1).trans Hr.out
   have hr4 : w4.heap[R]? = some (.cells (CZ s h nx (.slice av k cv) CQ) 90 (0, 0)) := (hgrow4.block _ (AJ hrc) (fun e => by have := Hsep.out _ e.symm; omega)).trans hrc
   have hx4 : w4.heap[w.heap.size]? = some (.cells #[.string s, .int .i64 h, .int .i64 nx] 62 (0, 0)) := (hgrow4.block _ (AJ hS3.1) (fun e => by have := Hsep.out _ e.symm; omega)).trans hS3.1
   have hb4 : Below w.heap.size w w4 := (HB.out.trans (hBL3.mono HB.out.size)).grown hgrow4 (by have := HB.out.size; have := hBL3.size; omega) (fun j hj => by have := Hsep.out _ hj; omega)
   have Ye := hBL3.size
   have hc4 : w4.cell? ⟨R, 3, none⟩ = some (.slice av k cv) := by rw [AO hr4]; exact (NJ _ _ _ _ _).2.2.2
   have hf4 : w4.frozen? ⟨R, 3, none⟩ = false := BK hr4
   obtain ⟨Hr4, Hx4, Hb4⟩ := l3h hr4 hx4 hb4
   clear hr4 hx4 hb4 hrc
   refine Wr.FD (i := 11) (v := ?_) rfl (by kernel_rfl) (fun _ _ _ h => h) (Or.inl ⟨by rfl, ?_⟩) ?_
   rotate_left
   ·intro wq _
    go_simp
    rfl
   simp only [sq]
   refine Wr.FD (i := 12) (v := ?_) rfl (by kernel_rfl) (fun _ _ _ h => h) (Or.inl ⟨by rfl, ?_⟩) ?_
   rotate_left
   ·intro wq _
    go_simp
    rfl
   simp only [sq]
   refine Wr.BJ (i := 13) (by kernel_rfl) (by kernel_rfl) ?_
   refine BO rfl (by rfl) (w' := w4.setCell ⟨R, 3, none⟩ (.slice a4 (k + 1) c4)) (by go_simp; first | done | rfl) ?_
   simp only [sq]
   refine Wr.Ag (by kernel_rfl) (NoPanic.normal ?_) _
   go_wp2
   go_roundw
   case rel =>
        refine ⟨k + 1, .slice a4 (k + 1) c4, by go_num, by omega, ?_, ?_, ?_, ?_, ?_⟩
        ·rw [AX _ (by omega)]; exact Hx4.out
        ·rw [← QS s h nx (.slice av k cv)]; exact heap_setCell_same Hr4.out _
        ·exact NA.ext (Ext.set1 w4 R 3 _) (fun j hj e => by rcases Nn with h | h <;> (rw [h] at hj; first | (have := Hsep.out _ hj; omega) | (cases hj; omega)))
        ·intro j hj; rcases Nn with h | h <;> (rw [h] at hj; first | exact Hsep.out _ hj | (cases hj; omega))
        ·exact Hb4.out.setCell (p := ⟨R, 3, none⟩) (by simp; omega) _
   case measure => simp [intOf]; omega
  ·skip
   obtain rfl : k = n := by omega
   have HRv := lh (HRt.out wr _ HO.out.sl HVr.out)
   go_wp2_with fail
   refine HRv.out.mono ?_
   rintro e w3 ⟨rfl, hb⟩
   have hr3 := (hb.block _ hR1).trans Hr.out
   have HO3 := lh (HO.out.ext (Ext.ofB hb) (fun _ _ h => h))
   have HB3 := tbB HB hb
   have Hr3 := lh hr3
   clear hr3 hb cx fx hc3 hz
   have HZS : Hid ((Tryz.prog.info? 44).map (·.size) = some 32) := lh (by kernel_rfl)
   go_wp2_with (first | (refine AC rfl _ _ _ rfl w3.heap.size Rt rfl rfl _ _ (AL _ _) QI.out (by rw [← Vk.out]; rfl) Vj.out ?_) | fail)
   intro w4 hw4
   have hb4 : Below w3.heap.size w3 w4 := by rw [hw4.out]; exact AQ bAx nR _
   have hy4 : w4.heap[w3.heap.size]? = some (.cells Rt 44 (0, 0)) := by rw [hw4.out]; exact AR (AL _ _)
   have hr4 := (hb4.block _ (AJ Hr3.out)).trans Hr3.out
   have HO4 := lh (HO3.out.ext (Ext.ofB hb4) (fun _ _ h => h))
   have HB4 := tbB HB3 hb4
   obtain ⟨Hr4, Hy4⟩ := l2h hr4 hy4
   have hth : w4.there R 4 Rt.size := by rw [← Vk.out]; intro j hj; exact ⟨by rw [AO Hr4.out, IB, Array.getElem?_eq_getElem (by rw [H32.size]; exact hj)]; rfl, BK Hr4.out⟩
   have Hth := lh hth
   clear hb4 hw4 hr4 hy4 hth
   go_wp2_with (first | (refine wpList_load_row rfl _ _ rfl w3.heap.size rfl _ Rt (0, 0) _ Hy4.out underlying44 rfl QI.out ?_) | (refine wpList_store_mid rfl _ _ _ rfl R 4 Rt rfl rfl Hth.out QI.out Vj.out ?_) | fail)
   obtain ⟨w5, hw5⟩ := nXe (w4.setCells R 4 Rt.toList)
   rw [← hw5]
   have Hw5 := lh hw5
   clear hw5
   go_wp2
   go_ret2
   refine ⟨R, .slice av k cv, rfl, ⟨?_, ?_, by omega, Hsep.out⟩, ?_⟩
   ·exact QO Hr4.out (by rw [Hw5.out, bi.out])
   ·rw [← Hnn.out, Hw5.out]
    exact HO4.out.ext (Ext.setMany R _ 4 w4) (fun j hj e => by have := Hsep.out _ hj; omega)
   ·rw [Hw5.out]
    exact Bl.ext HB4.out (Ext.setMany R _ 4 w4) (fun j hj e => by omega)
end KeyK
namespace KeyM
open Go Go.RowKit Go.Shelf OctP OctG RowsX Lift ShaS KeyS ShaA ShaB Steps KeyA KeyE KeyF KeyG KeyH KeyI KeyK TreeA TreeC TreeE TreeF TreeB
theorem PD (w : World) (R : Nat) (s text : ByteArray) (h nx : Nat) (v : Value) (x : H32) (hs : s.size ≤ 64) (ht : text.size ≤ 140737488355328) (hh : h ≤ 7) (hn : nx < 2 ^ h) (hr : w.heap[R]? = some (.cells (CZ s h nx v x) 90 (0, 0)))
 (hv : Sl w v 32 (2 ^ h) ((Bv (bl s) (2 ^ h)).flatMap H32.cs)) (hk : Au w) :
 Calls Tryz.prog 34 #[.pointer (some ⟨R, 0, none⟩), .string text] w fun e w' => e = .returned (.tuple #[.string (bsOf (Dq (bl s) h nx (bl text))), .int .i64 0]) ∧
  w'.heap[R]? = some (.cells (CZ s h (nx + 1 : Nat) v x) 90 (0, 0)) ∧ Ext (fun k => k = R) w w' := by
 have hlv := DW (bl s) (2 ^ h)
 have hSd := fun w hk => Q6 w s h nx nx (by have := Nat.pow_le_pow_right (by omega : 0 < 2) hh; omega) (by omega) hk
 unfold XJ at hSd
 have hn7 : nx < 128 := Nat.lt_of_lt_of_le hn (by have := Nat.pow_le_pow_right (by omega : 0 < 2) hh; omega)
 obtain ⟨L, hL⟩ := nXe (Bv (bl s) (2 ^ h))
 rw [← hL] at hlv hv
 have hP := fun w' (hb : Below w.heap.size w w') => TreeH.Vf w' v L h hh hlv nx hn (by rw [hlv]; exact hv.below hb) (hk.below hb)
 have hPl := TreeG.FK h L nx
 have hPm := TreeG.RF h L nx hlv hn
 rw [hL, OY, ← hL] at hPm
 obtain ⟨Ph, hPh⟩ := nXe (TreeG.EZ h L nx)
 rw [← hPh] at hP hPl hPm
 obtain ⟨Sd, VK⟩ := nXe (bsOf (Az (bl s) nx))
 have Xd : Sd.size ≤ 1000 := by rw [VK, AY]; unfold Az; rw [Cx]; omega
 rw [← VK] at hSd
 have hSg := fun w hk => KeyF.PD w Sd text Xd ht hk
 obtain ⟨T, hT⟩ := nXe (bsOf (KeyS.sign (bl Sd) (bl text)))
 have hTz : T.size = 1088 := by rw [hT, AY, EF]
 have hTb : bl T = KeyS.sign (Az (bl s) nx) (bl text) := by rw [hT, AV, VK, AV]
 rw [← hT] at hSg
 obtain ⟨B, hB⟩ := nXe (bsOf (Dq (bl s) h nx (bl text)))
 have hBe : B = bsOf (UInt8.ofNat nx :: (bl T ++ Ph.flatMap H32.l)) := by rw [hB, hTb]; unfold Dq; rw [← hPm, List.flatMap_def]
 rw [← hB]
 obtain ⟨n, hnn⟩ := nXe (2 ^ h)
 rw [← hnn] at hn hv hlv
 obtain ⟨a, cap, rfl, hcap, hcm⟩ := hv.form
 have hlR := AJ hr
 have hg := NJ s h nx (.slice a n cap) x
 have c2 : w.cell? ⟨R, 2, none⟩ = some (.int .i64 nx) := by rw [AO hr]; exact hg.2.2.1
 have c3 : w.cell? ⟨R, 3, none⟩ = some (.slice a n cap) := by rw [AO hr]; exact hg.2.2.2
 have hd1 : decide ((nx : Int) = (n : Int)) = false := dF (by omega)
 have hd2 : decide (nx = n) = false := dF (by omega)
 have hne : ¬ nx = n := by omega
 obtain ⟨HR, Hg, HP, HPl, HSd, HSg, HV, HTz, HBe⟩ := l9h hr hg hP hPl hSd hSg hk hTz hBe
 clear hr hg hP hPl hPm hSd hSg hk hTb hT hBe hB hL hlv hv VK hPh hnn
 go_enter func34, ntmps34
 go_wp2_with fail
 refine (HP.out w (Below.refl _ _)).mono ?_
 rintro e w1 ⟨v', rfl, hA⟩
 have HA := lh hA
 obtain ⟨a', cap', rfl, _, _⟩ := hA.sl.form
 rw [HPl.out] at HA ⊢
 have hb1 := hA.bel
 have hr1 := (hb1.block _ hlR).trans HR.out
 have aU := AJ hr1
 have eu : ¬ R = w1.heap.size := by omega
 have d0 : w1.cell? ⟨R, 0, none⟩ = some (.string s) := by rw [AO hr1]; exact Hg.out.1
 have d1 : w1.cell? ⟨R, 1, none⟩ = some (.int .i64 h) := by rw [AO hr1]; exact Hg.out.2.1
 have d2 : w1.cell? ⟨R, 2, none⟩ = some (.int .i64 nx) := by rw [AO hr1]; exact Hg.out.2.2.1
 have hk8 : IntKind.u8.wrap (nx : Int) = (nx : Int) := by rw [IntKind.wrap_u8']; omega
 obtain ⟨HB1, HR1⟩ := l2h hb1 hr1
 clear hA hb1 hr1 c2 c3
 go_wp2_with fail
 obtain ⟨w2, hw2⟩ := nXe (w1.alloc (.cells #[.int .u8 (nx : Int)] 5))
 rw [← hw2]
 have hb2 : Below w1.heap.size w1 w2 := by rw [hw2]; exact bAx
 have hbv : ((UInt8.ofNat nx).toNat : Int) = (nx : Int) := by rw [UInt8.toNat_ofNat']; omega
 have hO2 : Ow w2 w1.heap.size 5 1 (.slice (some ⟨w1.heap.size, 0, none⟩) 1 1) 1 (byV [UInt8.ofNat nx]) := by
  rw [hw2]
  have h1 := Oy (w := w1) (base := w1.heap.size) (k := w1.heap.size) (n := 1) (size := 1) (e := 5) (cs := #[.int .u8 (nx : Int)]) rfl nR (by unfold maxLen; omega) rfl
  have h2 : byV [UInt8.ofNat nx] = [.int .u8 (nx : Int)] := by
   show [Value.int .u8 ((UInt8.ofNat nx).toNat : Int)] = _
   rw [hbv]
  rw [h2]
  exact Ow.of h1
 have HB2 := tbB HB1 hb2
 obtain ⟨eF, HO2⟩ := l2h hb2 hO2
 have hsz2 : w2.heap.size = w1.heap.size + 1 := by rw [hw2]; simp
 clear hw2 hb2 hO2 d0 d1 d2
 refine (HSd.out w2 (HV.out.below HB2.out)).mono ?_
 rintro e w3 ⟨rfl, hb⟩
 have HE3 := lh (Ext.ofB hb)
 have HB3 := tbB HB2 hb
 clear hb
 go_wp2_with fail
 refine (HSg.out w3 (HV.out.below HB3.out)).mono ?_
 rintro e w4 ⟨rfl, hb⟩
 have HE4 := lh (HE3.out.trans (Ext.ofB hb))
 have HB4 := tbB HB3 hb
 clear hb HE3
 have fO := HE4.out.size
 go_wp2_with (at_builtin; go_must (refine DT rfl _ _ _ _ rfl A8 (Gr.refl HO2.out) rfl (.string T) 1088 (byV (bl T)) rfl HE4.out ?src 1089 rfl (byV (UInt8.ofNat nx :: bl T)) rfl ?h63 ?hby ?hbase ?go))
 case src => have := Src.ofString (P := Tryz.prog) (w := w4) underlying9 T; rw [HTz.out] at this; exact this
 case h63 => unfold maxLen; omega
 case hby => omega
 case hbase => omega
 case go =>
 intro a5 c5 w5 hG5 _
 have hE5 : Ext (fun k => k = w1.heap.size) w2 w5 := hG5.ext.mono (fun k hk h => by simp [Value.ownBlock] at h; omega)
 have HB5 := lh (show Below w.heap.size w w5 from Ext.below (S := fun k => k = w1.heap.size) ((Ext.of_below HB2.out).trans hE5) (fun k hk h => by have := HB1.out.size; omega))
 have Y0 : Below w1.heap.size w1 w5 := Ext.below (S := fun k => k = w1.heap.size) ((Ext.of_below eF.out).trans hE5) (fun k hk h => by omega)
 obtain ⟨Z5, HO5, HG5⟩ := l3h Y0 hG5.own hG5
 have aT := hG5.own.lt
 clear hE5 hG5 Y0
 go_wp2
 go_loopw [9, 50] (fun q i wr => ∃ (k : Nat) (u : Value), u = q ∧ i = .int .i64 k ∧ k ≤ h ∧ Ow wr w1.heap.size 5 1 u (1089 + 32 * k) (byV (UInt8.ofNat nx :: (bl T ++ (Ph.take k).flatMap H32.l))) ∧ Below w1.heap.size w1 wr) (fun _ i _ => h - (intOf i).toNat)
 case atStart => exact ⟨0, _, rfl, rfl, by omega, by have := HO5.out; simpa using this, Z5.out⟩
 case round =>
  obtain ⟨k, u, rfl, rfl, hk, ho, hb⟩ := hrel
  obtain ⟨au, cu, rfl, _, _⟩ := ho.form
  have hAr := HA.out.sl.below hb
  obtain ⟨HO, HB⟩ := l2h ho hb
  clear Z5 HO5 HG5 ho aT HB5
  by_cases hlt : k < h
  ·skip
   obtain ⟨c, hc⟩ : ∃ c, Ph[k]? = some c := ⟨_, List.getElem?_eq_getElem (by rw [HPl.out]; exact hlt)⟩
   rw [← HPl.out] at hAr
   obtain ⟨b, o, rfl, hblt, hcc⟩ := BU hF (by omega) (by rw [HPl.out] at hAr ⊢; exact hAr) hc
   have htk : Ph.take (k + 1) = Ph.take k ++ [c] := by
        have hl : k < Ph.length := by rw [HPl.out]; exact hlt
        rw [List.take_succ_eq_append_getElem hl]
        rw [List.getElem?_eq_getElem hl] at hc
        rw [Option.some.inj hc]
   have Htk := lh htk
   have Hcc := lh (show ∀ (j : Nat) (u : Value), c.A.toList[j]? = some u → wr.cell? ⟨b, o + k * 32 + j, none⟩ = some u from hcc)
   obtain ⟨C, hC⟩ := nXe (c.A)
   rw [← hC] at Hcc
   have HC := lh hC
   have HCS := lh (show (Tryz.prog.info? 44).map (·.size) = some C.size by rw [hC]; exact c.info)
   have HCN := lh (show 32 = C.size by rw [hC]; exact c.size.symm)
   have HCO := lh (show C.all (·.oneCell') = true by rw [hC]; exact c.one)
   clear hc htk hAr hcc hC
   go_wp2_with (first | (refine Ah rfl _ _ rfl b (o + k * 32) rfl C Hcc.out underlying44 rfl HCS.out ?_) | (refine AC rfl _ _ _ rfl wr.heap.size C rfl rfl _ _ (AL _ _) HCS.out (by rw [← HCN.out]; rfl) HCO.out ?_) | fail)
   intro w6 hw6
   have hb6 : Below wr.heap.size wr w6 := by rw [hw6.out]; exact AQ bAx nR _
   have hy6 : w6.heap[wr.heap.size]? = some (.cells c.A 44 (0, 0)) := by rw [hw6.out, ← HC.out]; exact AR (AL _ _)
   have Yi := sl_row w6 _ c hy6
   have HO6 := lh (HO.out.ext (Ext.ofB hb6) (fun _ _ h => h))
   have HB6 := tbB HB hb6
   have bT := lh Yi
   have fM := HB6.out.size
   obtain ⟨cy6, fy6⟩ := AA hy6
   clear hw6 hb6 hy6 Yi
   go_wp2_with (at_builtin; go_must (refine DT rfl _ _ _ _ rfl A8 (Gr.refl HO6.out) rfl (.slice (some ⟨wr.heap.size, 0, none⟩) 32 32) 32 (byV c.l) rfl (Ext.refl _ _) ?src (1089 + 32 * (k + 1)) ?hN (byV (UInt8.ofNat nx :: (bl T ++ (Ph.take (k + 1)).flatMap H32.l))) ?hz ?h63 ?hby ?hbase ?go))
   case src => exact Sl.src bT.out underlying100 (fun u hu => by obtain ⟨b, _, rfl⟩ := List.mem_map.1 hu; rfl)
   case hN => omega
   case hz => rw [← Ao, Htk.out, List.flatMap_append, List.flatMap_singleton]; simp [List.append_assoc]
   case h63 => unfold maxLen; omega
   case hby => omega
   case hbase => omega
   case go =>
   intro a7 c7 w7 hG7 _
   have HB7 := lh (show Below w1.heap.size w1 w7 from Bl.ext HB6.out hG7.ext (fun k hk h => by have := (HO6.out.lt k h).1; omega))
   have HO7 := lh hG7.own
   clear hG7
   go_wp2
   go_roundw
   case rel => exact ⟨k + 1, _, rfl, by go_num, by omega, HO7.out, HB7.out⟩
   case measure => simp [intOf]; omega
  ·skip
   obtain rfl : k = h := by omega
   have ho := HO.out
   rw [List.take_of_length_le (by rw [HPl.out]; exact Nat.le_refl _)] at ho
   have hr7 := (HB.out.block _ aU).trans HR1.out
   have e2 : wr.cell? ⟨R, 2, none⟩ = some (.int .i64 nx) := by rw [AO hr7]; exact Hg.out.2.2.1
   have ef2 : wr.frozen? ⟨R, 2, none⟩ = false := BK hr7
   have hown := ho.lt
   have hwr : IntKind.i64.wrap ((nx : Int) + 1) = ((nx + 1 : Nat) : Int) := by rw [IntKind.wrap_i64]; omega
   obtain ⟨wf, hwf⟩ := nXe (wr.setCell ⟨R, 2, none⟩ (.int .i64 ((nx : Int) + 1)))
   have hEf : Ext (fun k => k = R) wr wf := by rw [hwf]; exact Ext.set1 wr R 2 _
   have hrf : wf.heap[R]? = some (.cells (CZ s k (nx + 1 : Nat) (.slice a n cap) x) 90 (0, 0)) := by rw [hwf, show ((nx + 1 : Nat) : Int) = (nx : Int) + 1 by omega, ← QT s k nx]; exact heap_setCell_same hr7 _
   have hof := ho.ext hEf (fun j hj e => by have := (hown j hj).1; omega)
   obtain ⟨Lb, hLb⟩ := nXe (UInt8.ofNat nx :: (bl T ++ Ph.flatMap H32.l))
   rw [← hLb] at hof HBe
   obtain ⟨N, hN⟩ := nXe (1089 + 32 * k)
   rw [← hN] at hof ⊢
   have hcv := BX wf 100 9 5 underlying100 underlying5 underlying9 (.slice au N cu) Lb hof.bytes.sl
   rw [← HBe.out] at hcv
   obtain ⟨HHW, HRF⟩ := l2h hwf hrf
   have HEF := lh (show Ext (fun k => k = R) w wf from (Ext.of_below (HB1.out.trans (HB.out.mono HB1.out.size))).trans hEf)
   clear hwf hrf hEf hof hLb hN ho hr7 hAr
   go_wp2_with fail
   rw [← HHW.out, hcv]
   go_wp2
   go_ret2
   exact ⟨rfl, HRF.out, HEF.out⟩
end KeyM
end Go.Proofs.YtceiajepcokacaaGreatDoor
