/-
  WHAT IS PROVED: the document's own place of a signature. the document's own verifying of any signature. what any book verifies, by the document. the document's own ring of a key. a full ring of the document's signs nothing. Condition: what each theorem names.
-/
import Derived.Test.YtkcikadgnnjjjaaGreatDoorS0
import Derived.Test.YtkcikadgnnjjjaaGreatDoorZEHD17
import Derived.Test.YtkcikadgnnjjjaaGreatDoorZEHD22
import Derived.WalkSmall
set_option linter.unusedVariables false
set_option linter.unusedSimpArgs false
set_option maxRecDepth 100000
set_option maxHeartbeats 4000000
namespace Go.Proofs.YtkcikadgnnjjjaaGreatDoor.RkP
open Go Go.RowKit Go.Shelf OctP OctG RowsX Lift ShaS KeyS ShaA ShaB Steps KeyA KeyB KeyG KeyH KeyJ TreeA TreeE TreeF TreeG WireT RkA RkC RkF
attribute [-go_sem] Builtin.append_
theorem Place2_no (w : World) (n : Nat) (sig : ByteArray) (hn : n ≤ 7) (hsz : sig.size ≤ maxLen) (hno : sigB n (bl sig) = false) :
  Calls Tryz.prog 109 #[.int .i64 n, .string sig] w (RB (.tuple #[.int .i64 0, .int .i64 2]) w) := by
 unfold maxLen at hsz
 have hH : ∀ w, Calls Tryz.prog 31 #[.int .i64 n] w (fun e w' => e = .returned (.bool true) ∧ w = w') := fun w => by
  have h := high2_ok w n
  rw [decide_eq_true (show (0 : Int) ≤ (n : Int) by omega), decide_eq_true (show (n : Int) ≤ 7 by omega)] at h
  exact h
 have hP := fun w => places2_ok w n hn
 obtain ⟨M, hMe⟩ := nXe (2 ^ n)
 have hM128 : M ≤ 128 := by rw [hMe]; exact Nat.le_trans (Nat.pow_le_pow_right (by omega) hn) (by omega)
 unfold sigB at hno
 rw [← hMe] at hP hno
 have HH := lh hH
 have HP := lh hP
 have w1 : IntKind.i64.wrap (32 * (n : Int)) = 32 * (n : Int) := by rw [IntKind.wrap_i64]; omega
 have w2 : IntKind.i64.wrap (1089 + 32 * (n : Int)) = 1089 + 32 * (n : Int) := by rw [IntKind.wrap_i64]; omega
 by_cases hs : sig.size = 1089 + 32 * n
 ·have h0 : 0 < sig.size := by omega
  obtain ⟨b, hb⟩ : ∃ b, sig[0] = b := ⟨_, rfl⟩
  have hhd : (bl sig).headD 0 = b := by
   have := bl_drop sig 0 h0
   rw [List.drop_zero] at this
   rw [this, ← hb]
   rfl
  rw [hhd, bl_length, hs, decide_eq_true rfl, Bool.true_and] at hno
  have hb2 : M ≤ b.toNat := by have := of_decide_eq_false hno; omega
  have hb8 := b.toNat_lt
  have hz : ((sig.size : Nat) : Int) = 1089 + 32 * (n : Int) := by omega
  have hd : decide ((M : Int) ≤ (b.toNat : Int)) = true := decide_eq_true (by omega)
  have hd2 : decide (M ≤ b.toNat) = true := decide_eq_true (by omega)
  have hb3 : IntKind.i64.wrap (b.toNat : Int) = (b.toNat : Int) := by rw [IntKind.wrap_i64]; omega
  have hpos : (0 : Int) < 1089 + 32 * (n : Int) := by omega
  clear hMe hs hno hhd hsz hH hP
  go_enter Tryz.func109, Tryz.ntmps109
  go_wp2
  refine Uniform.region_chain (S := (fun W => Below w.heap.size w W ∧ Below w.heap.size w W)) (List.range 19) (by kernel_rfl) (by kernel_rfl) ⟨((Below.refl w.heap.size w)).drew, ((Below.refl w.heap.size w)).drew⟩ ?_
  refine ⟨_, ?_, rfl, .inl ⟨by rfl, fun wq hSw => .value (w' := wq) ?_ hSw⟩, ?_⟩
  rotate_left
  ·obtain ⟨q0, q1⟩ := hSw
   go_simp
   rfl
  simp only [Act.put, sxx]
  refine ⟨_, ?_, rfl, Or.inl ⟨by rfl, fun wq hSw => Uniform.UStep.call (w' := wq) ?_ ((HH.out wq).mono ?_)⟩, ?_⟩
  rotate_left
  ·obtain ⟨q0, q1⟩ := hSw
   go_simp
   all_goals (and_intros <;> rfl)
  ·have hSk := hSw
   obtain ⟨q0, q1⟩ := hSw
   rintro e wq2 ⟨rfl, rfl⟩
   refine ⟨?_, hSk⟩
   rfl
  iterate 14
   simp only [Act.put, sxx]
   refine ⟨_, ?_, rfl, .inl ⟨by rfl, fun wq hSw => .value (w' := wq) ?_ hSw⟩, ?_⟩
   rotate_left
   ·obtain ⟨q0, q1⟩ := hSw
    go_simp
    rfl
  simp only [Act.put, sxx]
  refine ⟨_, ?_, rfl, Or.inl ⟨by rfl, fun wq hSw => Uniform.UStep.call (w' := wq) ?_ ((HP.out wq).mono ?_)⟩, ?_⟩
  rotate_left
  ·obtain ⟨q0, q1⟩ := hSw
   go_simp
   all_goals (and_intros <;> rfl)
  ·have hSk := hSw
   obtain ⟨q0, q1⟩ := hSw
   rintro e wq2 ⟨rfl, rfl⟩
   refine ⟨?_, hSk⟩
   rfl
  iterate 2
   simp only [Act.put, sxx]
   refine ⟨_, ?_, rfl, .inl ⟨by rfl, fun wq hSw => .value (w' := wq) ?_ hSw⟩, ?_⟩
   rotate_left
   ·obtain ⟨q0, q1⟩ := hSw
    go_simp
    rfl
  simp only [Act.put, sxx]
  intro wz hSz
  obtain ⟨q0, q1⟩ := hSz
  go_wp2
  go_ret2
  exact ⟨rfl, q0⟩
 ·have hz : ((sig.size : Nat) : Int) ≠ 1089 + 32 * (n : Int) := by omega
  have hz2 : (((sig.size : Nat) : Int) != 1089 + 32 * (n : Int)) = true := by simpa using hz
  have hz3 : (((sig.size : Nat) : Int) == 1089 + 32 * (n : Int)) = false := by simpa using hz
  clear hMe hno hs hH hP
  go_enter Tryz.func109, Tryz.ntmps109
  go_wp2
  refine Uniform.region_chain (S := (fun W => Below w.heap.size w W ∧ Below w.heap.size w W)) (List.range 19) (by kernel_rfl) (by kernel_rfl) ⟨((Below.refl w.heap.size w)).drew, ((Below.refl w.heap.size w)).drew⟩ ?_
  refine ⟨_, ?_, rfl, .inl ⟨by rfl, fun wq hSw => .value (w' := wq) ?_ hSw⟩, ?_⟩
  rotate_left
  ·obtain ⟨q0, q1⟩ := hSw
   go_simp
   rfl
  simp only [Act.put, sxx]
  refine ⟨_, ?_, rfl, Or.inl ⟨by rfl, fun wq hSw => Uniform.UStep.call (w' := wq) ?_ ((HH.out wq).mono ?_)⟩, ?_⟩
  rotate_left
  ·obtain ⟨q0, q1⟩ := hSw
   go_simp
   all_goals (and_intros <;> rfl)
  ·have hSk := hSw
   obtain ⟨q0, q1⟩ := hSw
   rintro e wq2 ⟨rfl, rfl⟩
   refine ⟨?_, hSk⟩
   rfl
  iterate 10
   simp only [Act.put, sxx]
   refine ⟨_, ?_, rfl, .inl ⟨by rfl, fun wq hSw => .value (w' := wq) ?_ hSw⟩, ?_⟩
   rotate_left
   ·obtain ⟨q0, q1⟩ := hSw
    go_simp
    rfl
  iterate 6
   simp only [Act.put, sxx]
   refine ⟨_, undef, rfl, Or.inr ⟨by rfl, rfl⟩, ?_⟩
  simp only [Act.put, sxx]
  refine ⟨_, ?_, rfl, .inl ⟨by rfl, fun wq hSw => .value (w' := wq) ?_ hSw⟩, ?_⟩
  rotate_left
  ·obtain ⟨q0, q1⟩ := hSw
   go_simp
   rfl
  simp only [Act.put, sxx]
  intro wz hSz
  obtain ⟨q0, q1⟩ := hSz
  go_wp2
  go_ret2
  exact ⟨rfl, q0⟩
theorem Place2_yes (w : World) (n : Nat) (sig : ByteArray) (hn : n ≤ 7) (hs : sig.size = 1089 + 32 * n) (b : UInt8) (h0 : 0 < sig.size) (hb : sig[0] = b) (hb2 : b.toNat < 2 ^ n) :
  Calls Tryz.prog 109 #[.int .i64 n, .string sig] w (RB (.tuple #[.int .i64 b.toNat, .int .i64 0]) w) := by
 have hH : ∀ w, Calls Tryz.prog 31 #[.int .i64 n] w (fun e w' => e = .returned (.bool true) ∧ w = w') := fun w => by
  have h := high2_ok w n
  rw [decide_eq_true (show (0 : Int) ≤ (n : Int) by omega), decide_eq_true (show (n : Int) ≤ 7 by omega)] at h
  exact h
 have hP := fun w => places2_ok w n hn
 obtain ⟨M, hMe⟩ := nXe (2 ^ n)
 have hM128 : M ≤ 128 := by rw [hMe]; exact Nat.le_trans (Nat.pow_le_pow_right (by omega) hn) (by omega)
 rw [← hMe] at hP hb2
 have HH := lh hH
 have HP := lh hP
 have w1 : IntKind.i64.wrap (32 * (n : Int)) = 32 * (n : Int) := by rw [IntKind.wrap_i64]; omega
 have w2 : IntKind.i64.wrap (1089 + 32 * (n : Int)) = 1089 + 32 * (n : Int) := by rw [IntKind.wrap_i64]; omega
 ·have hb8 := b.toNat_lt
  have hz : ((sig.size : Nat) : Int) = 1089 + 32 * (n : Int) := by omega
  have hd : decide ((M : Int) ≤ (b.toNat : Int)) = false := decide_eq_false (by omega)
  have hd2 : decide (M ≤ b.toNat) = false := decide_eq_false (by omega)
  have hb3 : IntKind.i64.wrap (b.toNat : Int) = (b.toNat : Int) := by rw [IntKind.wrap_i64]; omega
  have hpos : (0 : Int) < 1089 + 32 * (n : Int) := by omega
  clear hMe hs hH hP
  go_enter Tryz.func109, Tryz.ntmps109
  go_wp2
  refine Uniform.region_chain (S := (fun W => Below w.heap.size w W ∧ Below w.heap.size w W)) (List.range 19) (by kernel_rfl) (by kernel_rfl) ⟨((Below.refl w.heap.size w)).drew, ((Below.refl w.heap.size w)).drew⟩ ?_
  refine ⟨_, ?_, rfl, .inl ⟨by rfl, fun wq hSw => .value (w' := wq) ?_ hSw⟩, ?_⟩
  rotate_left
  ·obtain ⟨q0, q1⟩ := hSw
   go_simp
   rfl
  simp only [Act.put, sxx]
  refine ⟨_, ?_, rfl, Or.inl ⟨by rfl, fun wq hSw => Uniform.UStep.call (w' := wq) ?_ ((HH.out wq).mono ?_)⟩, ?_⟩
  rotate_left
  ·obtain ⟨q0, q1⟩ := hSw
   go_simp
   all_goals (and_intros <;> rfl)
  ·have hSk := hSw
   obtain ⟨q0, q1⟩ := hSw
   rintro e wq2 ⟨rfl, rfl⟩
   refine ⟨?_, hSk⟩
   rfl
  iterate 14
   simp only [Act.put, sxx]
   refine ⟨_, ?_, rfl, .inl ⟨by rfl, fun wq hSw => .value (w' := wq) ?_ hSw⟩, ?_⟩
   rotate_left
   ·obtain ⟨q0, q1⟩ := hSw
    go_simp
    rfl
  simp only [Act.put, sxx]
  refine ⟨_, ?_, rfl, Or.inl ⟨by rfl, fun wq hSw => Uniform.UStep.call (w' := wq) ?_ ((HP.out wq).mono ?_)⟩, ?_⟩
  rotate_left
  ·obtain ⟨q0, q1⟩ := hSw
   go_simp
   all_goals (and_intros <;> rfl)
  ·have hSk := hSw
   obtain ⟨q0, q1⟩ := hSw
   rintro e wq2 ⟨rfl, rfl⟩
   refine ⟨?_, hSk⟩
   rfl
  iterate 2
   simp only [Act.put, sxx]
   refine ⟨_, ?_, rfl, .inl ⟨by rfl, fun wq hSw => .value (w' := wq) ?_ hSw⟩, ?_⟩
   rotate_left
   ·obtain ⟨q0, q1⟩ := hSw
    go_simp
    rfl
  simp only [Act.put, sxx]
  intro wz hSz
  obtain ⟨q0, q1⟩ := hSz
  go_wp2
  go_ret2
  exact ⟨rfl, q0⟩
end Go.Proofs.YtkcikadgnnjjjaaGreatDoor.RkP
namespace Go.Proofs.YtkcikadgnnjjjaaGreatDoor.RkV
open Go Go.RowKit Go.Shelf OctP OctG RowsX Lift ShaS KeyS ShaA ShaB Steps KeyA KeyB KeyG KeyH KeyJ TreeA TreeB TreeE TreeF TreeG WireT RkA RkC RkF
attribute [-go_sem] Builtin.append_
attribute [-go_sem] run_equalIn_agg
theorem Verify2_yes (w : World) (rt : H32) (n : Nat) (text sig : ByteArray) (hn : n ≤ 7) (ht : text.size ≤ 140737488351232) (hs : sig.size = 1089 + 32 * n) (hb2 : ((bl sig).headD 0).toNat < 2 ^ n) :
  Calls Tryz.prog 72 #[.agg rt.A, .int .i64 n, .string text, .string sig] w (RB (.int .i64 (if climbOf n (bl text) (bl sig) = rt.l then 0 else 9)) w) := by
 have h0 : 0 < sig.size := by omega
 obtain ⟨b, hb⟩ : ∃ b, sig[0] = b := ⟨_, rfl⟩
 have hhd : (bl sig).headD 0 = b := by
  have := bl_drop sig 0 h0
  rw [List.drop_zero] at this
  rw [this, ← hb]
  rfl
 unfold climbOf
 rw [hhd] at hb2 ⊢
 have hP := fun w => RkP.Place2_yes w n sig hn hs b h0 hb hb2
 obtain ⟨X, hX⟩ := nXe (sig.extract 1 1089)
 have hXb : bl X = ((bl sig).drop 1).take 1088 := by rw [hX, bl_extract]
 have hXs : X.size = 1088 := by rw [← bl_length, hXb, List.length_take, List.length_drop, bl_length]; omega
 obtain ⟨Y, hY⟩ := nXe (sig.extract 1089 sig.size)
 have hYb : bl Y = (bl sig).drop 1089 := by rw [hY, bl_extract, List.take_of_length_le (by rw [List.length_drop, bl_length]; omega)]
 have hYs : (bl Y).length = 32 * n := by rw [hYb, List.length_drop, bl_length]; omega
 rw [← hXb, ← hYb, ← partsH_l n (bl Y) hYs]
 obtain ⟨L, hL⟩ := nXe (partsH n (bl Y) hYs)
 have hLl : L.length = n := by rw [hL]; exact partsH_length _ _ _
 have hR := fun w => RkB.Recover2_ok w text X ht hXs
 obtain ⟨lf, hlf⟩ := nXe (recoverH (bl text) (bl X))
 obtain ⟨at', hat⟩ : ∃ a, a = climbH lf b.toNat L := ⟨_, rfl⟩
 have hcl : climb (recover (bl text) (bl X)) b.toNat (L.map H32.l) = at'.l := by rw [hat, climbH_l, hlf, recoverH_l]
 rw [← hL, hcl]
 obtain ⟨C, hC⟩ := nXe (lf.A)
 have hRC : (byV (recover (bl text) (bl X))).toArray = C := by rw [hC, hlf, recoverH_A]
 rw [hRC] at hR
 obtain ⟨E, hE⟩ := nXe (at'.A)
 obtain ⟨p, hp⟩ := nXe (rt.A)
 obtain ⟨Z, hZ⟩ := nXe (zeroH.A)
 have HLIT : Hid (zq0 Z) := lh (by rw [hZ]; unfold zq0; kernel_rfl)
 have HCN : Hid (32 = C.size) := lh (by rw [hC]; exact (H32.size _).symm)
 have HZC : Hid (Z.size = C.size) := lh (by rw [hZ, hC, H32.size, H32.size])
 have HZE : Hid (Z.size = E.size) := lh (by rw [hZ, hE, H32.size, H32.size])
 have HCS : Hid ((Tryz.prog.info? 25).map (·.size) = some C.size) := lh (by rw [hC]; exact H32.info _)
 have HCO : Hid (C.all (·.oneCell') = true) := lh (by rw [hC]; exact H32.one _)
 have HES : Hid ((Tryz.prog.info? 25).map (·.size) = some E.size) := lh (by rw [hE]; exact H32.info _)
 have HEO : Hid (E.all (·.oneCell') = true) := lh (by rw [hE]; exact H32.one _)
 have HPS : Hid ((Tryz.prog.info? 25).map (·.size) = some p.size) := lh (by rw [hp]; exact H32.info _)
 have hCl : ∀ w v, Sl w v 32 L.length (L.flatMap H32.cs) → Calls Tryz.prog 111 #[.agg C, .int .i64 (b.toNat : Int), v] w (RB (.tuple #[.agg E, .int .i64 0]) w) := fun w v hsl => by
  rw [hC, hE, hat]
  exact RkW.Climb2_ok w lf b.toNat v L hsl (by omega) (by rw [hLl]; exact hb2)
 obtain ⟨q, hq⟩ := nXe (decide (at'.l = rt.l))
 have heq : ∀ w, (Op.equalIn 10000 25 (.agg E) (.agg p)).run Tryz.prog w = .ok q w := fun w => by rw [hE, hp, eqH, hEq_dec, hq]
 have hG := EqHash.guardHash
 have hpost : (if at'.l = rt.l then (0 : Int) else 9) = (if q then 0 else 9) := by rw [hq]; by_cases h : at'.l = rt.l <;> simp [h]
 obtain ⟨res, hres⟩ : ∃ r : Int, r = (if q then 0 else 9) := ⟨_, rfl⟩
 rw [hpost, ← hp, ← hres]
 have HRes := lh hres
 have HEQ := lh heq
 have HGG := lh hG
 have HP := lh hP
 have HR := lh hR
 have HCl := lh hCl
 have hx1 : (1089 : Int) ≤ (sig.size : Int) := by omega
 have HXe := lh hX
 have HYe := lh hY
 obtain ⟨w0, hw0⟩ := nXe (w.alloc (.cells p 25))
 have HB0 := lh (show Below w.heap.size w w0 by rw [hw0]; exact bAx)
 have HX0 := lh (show w0.heap[w.heap.size]? = some (.cells p 25 (0, 0)) by rw [hw0]; exact heap_new _ _)
 have HW0 := lh hw0
 have hs1 : 1089 ≤ sig.size := by omega
 have HLe := lh hL
 have HYl := lh hYs
 have HLl := lh hLl
 clear heq hG hP hR hCl hX hY hw0 hXb hYb hL hLl hlf hat hcl hC hRC hE hp hhd hb hpost hres hb2 hq hs hXs
 have HZe := lh hZ
 have HZN : Hid (Z.size = 32) := lh (by rw [hZ]; exact H32.size _)
 clear hZ
 go_enter Tryz.func72, Tryz.ntmps72
 go_wp2_with fail
 rw [← HW0.out]
 refine (HP.out w0).mono ?_
 rintro e w1 ⟨rfl, hb⟩
 have HB1 := tbB HB0 hb
 have HX1 := kpB hb HX0
 clear hb
 go_wp2_with fail
 rw [← HXe.out]
 refine (HR.out w1).mono ?_
 rintro e w2 ⟨rfl, hb⟩
 have HB2 := tbB HB1 hb
 have HX2 := kpB hb HX1
 clear hb
 go_wp2_with (first | (refine wpList_store_rowA rfl _ _ _ rfl w2.heap.size C rfl rfl _ _ (heap_new _ _) HCS.out (by rw [← HCN.out]; rfl) HCO.out ?_) | fail)
 intro u1 hu1
 have hb : Below w2.heap.size w2 u1 := by rw [hu1.out]; exact below_row bAx (Nat.le_refl _) _
 have hy : u1.heap[w2.heap.size]? = some (.cells C 25 (0, 0)) := by rw [hu1.out]; exact setRow_at (heap_new _ _)
 clear hu1
 obtain ⟨w3, hww⟩ : ∃ w', w' = u1 := ⟨_, rfl⟩
 rw [← hww] at hb hy ⊢
 clear hww
 have HB3 := tbB HB2 hb
 have HX3 := kpB hb HX2
 have HC3 := lh hy
 obtain ⟨BL, hBL⟩ := nXe (w2.heap.size)
 rw [← hBL] at HC3 ⊢
 clear hBL hb hy
 have HA0 := lh (AccR.nil (f := H32.cs) (e := 25) (size := 32) w3)
 go_wp2
 rw [← HYe.out]
 skip
 go_loopw [13, 14] (fun q x wr => ∃ (k : Nat) (T : ByteArray) (v : Value) (l : List H32) (ht : (bl T).length = 32 * k), v = x ∧ q = .string T ∧ k ≤ n ∧ AccH w3 wr v l ∧ Hid (l.length + k = n) ∧ Hid (l ++ partsH k (bl T) ht = L))
  (fun q _ _ => match q with | .string T => T.size | _ => 0)
 case atStart => exact ⟨n, Y, _, [], hYs, rfl, rfl, Nat.le_refl _, HA0.out, lh (by simp), lh HLe.out.symm⟩
 case round =>
  obtain ⟨k, T, v, l, ht, rfl, rfl, hk, hA, hlk, hp⟩ := hrel
  have hTs : T.size = 32 * k := by rw [← bl_length]; exact ht
  have HA := lh hA
  have HAb := lh hA.bel
  clear hA HA0
  by_cases h0 : k = 0
  ·skip
   subst h0
   have hT0 : T.size = 0 := by omega
   have hRl : l = L := by
    have := hp.out
    rw [partsH, List.append_nil] at this
    exact this
   subst hRl
   have hsl := HA.out.sl
   have Hsl := lh hsl
   obtain ⟨av, cv, rfl, _, _⟩ := hsl.form
   have HCr := lh ((HAb.out.block _ (lt_row HC3.out)).trans HC3.out)
   have HXr := lh ((HAb.out.block _ (lt_row HX3.out)).trans HX3.out)
   have HBr := lh (HB3.out.trans (HAb.out.mono HB3.out.size))
   clear hsl
   go_wp2_with (first | (refine wpList_load_row rfl _ _ rfl BL rfl _ C (0, 0) _ HCr.out Tryz.underlying25 rfl HCS.out ?_) | fail)
   refine (HCl.out wr _ Hsl.out).mono ?_
   rintro e w5 ⟨rfl, hb⟩
   have HB5 := tbB HBr hb
   have HX5 := kpB hb HXr
   clear hb
   go_wp2_with (first | (refine wpList_store_rowA rfl _ _ _ rfl w5.heap.size E rfl rfl _ _ (heap_new _ _) HES.out (by rw [← HZE.out, HZN.out]; rfl) HEO.out ?_) | fail)
   intro u1 hu1
   have hb : Below w5.heap.size w5 u1 := by rw [hu1.out]; exact below_row bAx (Nat.le_refl _) _
   have hy : u1.heap[w5.heap.size]? = some (.cells E 25 (0, 0)) := by rw [hu1.out]; exact setRow_at (heap_new _ _)
   clear hu1
   obtain ⟨w6, hww⟩ : ∃ w', w' = u1 := ⟨_, rfl⟩
   rw [← hww] at hb hy ⊢
   clear hww
   have HB6 := tbB HB5 hb
   have HX6 := kpB hb HX5
   have HE6 := lh hy
   clear hb hy
   have heq := HEQ.out
   have hG := HGG.out
   cases q
   ·have hrs : res = 9 := HRes.out
    subst hrs
    go_wp2_with (first | (refine wpList_load_row rfl _ _ rfl w5.heap.size rfl _ E (0, 0) _ HE6.out Tryz.underlying25 rfl HES.out ?_) | (refine wpList_load_row rfl _ _ rfl w.heap.size rfl _ p (0, 0) _ HX6.out Tryz.underlying25 rfl HPS.out ?_) | fail)
    go_ret
    exact ⟨rfl, HB6.out⟩
   ·have hrs : res = 0 := HRes.out
    subst hrs
    go_wp2_with (first | (refine wpList_load_row rfl _ _ rfl w5.heap.size rfl _ E (0, 0) _ HE6.out Tryz.underlying25 rfl HES.out ?_) | (refine wpList_load_row rfl _ _ rfl w.heap.size rfl _ p (0, 0) _ HX6.out Tryz.underlying25 rfl HPS.out ?_) | fail)
    go_ret
    exact ⟨rfl, HB6.out⟩
  ·skip
   obtain ⟨j, rfl⟩ : ∃ j, k = j + 1 := ⟨k - 1, by omega⟩
   have hgt : 0 < T.size := by omega
   have ht2 : 32 ≤ (bl T).length := by omega
   obtain ⟨ph, hh⟩ := nXe (partH (bl T) ht2)
   obtain ⟨N, hN⟩ := nXe (ph.A)
   obtain ⟨PT, hPT⟩ := nXe (T.extract 0 32)
   have hPTs : PT.size = 32 := by rw [hPT, ByteArray.size_extract]; omega
   have hPTb : (bl PT).take 32 = (bl T).take 32 := by rw [hPT, bl_extract]; simp [List.take_take]
   have hrow : (Z.toList.take 0 ++ byV ((bl PT).take 32) ++ Z.toList.drop (0 + 32)).toArray = N := by
    have : Z.toList.drop (0 + 32) = [] := List.drop_of_length_le (by have := HZN.out; simp; omega)
    rw [this, hN, hh, hPTb]
    simp [H32.A, partH]
   have HRow := lh hrow
   have HNe := lh hN
   have HNS := lh (show (Tryz.prog.info? 25).map (·.size) = some N.size by rw [hN]; exact ph.info)
   have hNn : N.size = 32 := by rw [hN]; exact ph.size
   have hmin : Nat.min PT.size 32 = 32 := by show min PT.size 32 = 32; omega
   have hfit : 0 + 32 ≤ Z.size := by rw [HZN.out]; omega
   have HPT := lh hPT.symm
   clear hrow hN hPT hPTb
   go_wp2_with fail
   rw [HLIT.out]
   obtain ⟨wz, hwz⟩ := nXe (wr.alloc (.cells Z 25))
   rw [← hwz]
   have hbz : Below wr.heap.size wr wz := by rw [hwz]; exact bAx
   have HZz := lh (show wz.heap[wr.heap.size]? = some (.cells Z 25 (0, 0)) by rw [hwz]; exact heap_new _ _)
   clear hwz
   have HBz := lh hbz
   clear hbz
   have hT32 : 32 ≤ T.size := by omega
   have hn32 : ¬ 32 * ((j : Int) + 1) < 32 := by omega
   have hn33 : (32 : Int) ≤ 32 * ((j : Int) + 1) := by omega
   refine wp_region_noPanic ?_
   refine Wr.region_K (S := (fun W => W.heap[wr.heap.size]? = some (.cells Z 25 (0, 0)))) (K := [3]) (by kernel_rfl) ?_
   change Wr.wpAnyK _ _ _ _ _ _ _ _ _ (World.drew wz)
   have hBL0 : Below wr.heap.size wr (World.drew wz) := Bl.drew HBz.out
   have hS0 : (World.drew wz).heap[wr.heap.size]? = some (.cells Z 25 (0, 0)) := HZz.out
   refine Wr.wpAnyK_takeP (i := 0) (v := ?_) rfl (by kernel_rfl) (fun _ _ _ h => h) (Or.inl ⟨by rfl, ?_⟩) hS0 ?_
   rotate_left
   ·intro wq _
    go_simp
    rfl
   simp only [Act.put, sxx]
   refine Wr.wpAnyK_takeP (i := 1) (v := ?_) rfl (by kernel_rfl) (fun _ _ _ h => h) (Or.inl ⟨by rfl, ?_⟩) hS0 ?_
   rotate_left
   ·intro wq _
    go_simp
    rfl
   simp only [Act.put, sxx]
   refine Wr.wpAnyK_takeP (i := 2) (v := ?_) rfl (by kernel_rfl) (fun _ _ _ h => h) (Or.inl ⟨by rfl, ?_⟩) hS0 ?_
   rotate_left
   ·intro wq _
    have hpt := HPT.out
    go_simp
    rfl
   simp only [Act.put, sxx]
   refine Wr.wpAnyK_write (i := 3) (by kernel_rfl) (by kernel_rfl) ?_
   refine WrC.wpOp_copy_str rfl (by rfl) (.tmp 39) (.tmp 41) _ _ rfl _ Tryz.underlying101 (by kernel_rfl) wr.heap.size 0 32 32 PT rfl rfl _ _ hS0 32 (hmin) (hfit) ?_
   intro u2 hw_u2
   have hBL1 : Below wr.heap.size wr u2 := by rw [hw_u2.out]; exact below_row hBL0 (Nat.le_refl _) _
   simp only [Act.put, sxx]
   refine Wr.wpAnyK_done (by kernel_rfl) (NoPanic.normal ?_) _
   rw [HRow.out] at hw_u2
   have HX2 := lh (show u2.heap[wr.heap.size]? = some (.cells N 25 (0, 0)) by rw [hw_u2.out]; exact setRow_at hS0)
   have hb : Below wr.heap.size wr u2 := by rw [hw_u2.out]; exact below_row hBL0 (Nat.le_refl _) _
   have HA2 := lh (HA.out.below hb)
   clear hw_u2 hb hS0 hBL0 hBL1 hPTs
   have hXb : bl (T.extract 32 T.size) = (bl T).drop 32 := by rw [bl_extract, List.take_of_length_le (by rw [List.length_drop, bl_length]; omega)]
   rw [hTs] at hXb
   have HXb := lh hXb
   have hll := hlk.out
   clear hXb
   go_wp2_with (first | (refine wpList_load_row rfl _ _ rfl wr.heap.size rfl _ N (0, 0) _ HX2.out Tryz.underlying25 rfl HNS.out ?_) | (at_builtin; rw [fold_row N hNn]; go_must (refine wpList_accR tyHs hF HA2.out ph rfl _ _ rfl rfl N (by rw [HNe.out]; rfl) _ rfl (by first | rfl | simp) ?hl ?hb ?go)))
   case hl => unfold maxLen; omega
   case hb => omega
   case go =>
   intro v3 w9 A3
   have HA3 := lh A3
   clear A3
   go_wp2
   go_roundw
   case rel =>
    have hlen : (bl (T.extract 32 (32 * (j + 1)))).length = 32 * j := by rw [HXb.out, List.length_drop]; omega
    refine ⟨j, _, _, _, hlen, rfl, rfl, by omega, HA3.out, lh (by rw [List.length_append]; simp; omega), lh ?_⟩
    have h1 := hp.out
    rw [partsH] at h1
    rw [← h1, List.append_assoc]
    congr 2
    have : ∀ (a b : List UInt8) (e : a = b) (ha : a.length = 32 * j) (hb : b.length = 32 * j), partsH j a ha = partsH j b hb := fun a b e ha hb => by subst e; rfl
    exact congrArg (List.cons _) (this _ _ HXb.out _ _)
   case measure => simp; omega
theorem Verify2_ok (w : World) (rt : H32) (n : Nat) (text sig : ByteArray) (hn : n ≤ 7) (ht : text.size ≤ 140737488351232) (hs : sig.size ≤ maxLen) :
  Calls Tryz.prog 72 #[.agg rt.A, .int .i64 n, .string text, .string sig] w (RB (.int .i64 (verify rt.l n (bl text) (bl sig))) w) := by
 unfold verify
 cases hb : sigB n (bl sig)
 ·rw [if_neg (by simp)]
  have hP := fun w => RkP.Place2_no w n sig hn hs hb
  have HP := lh hP
  clear hP hb hs ht
  obtain ⟨p, hp⟩ := nXe (rt.A)
  rw [← hp]
  clear hp
  obtain ⟨w0, hw0⟩ := nXe (w.alloc (.cells p 25))
  have HB0 := lh (show Below w.heap.size w w0 by rw [hw0]; exact bAx)
  have HW0 := lh hw0
  clear hw0
  go_enter Tryz.func72, Tryz.ntmps72
  go_wp2_with fail
  rw [← HW0.out]
  refine (HP.out w0).mono ?_
  rintro e w1 ⟨rfl, hb⟩
  have HB1 := tbB HB0 hb
  clear hb
  go_wp2
  go_ret
  exact ⟨rfl, HB1.out⟩
 ·rw [if_pos rfl]
  unfold sigB at hb
  simp only [Bool.and_eq_true, decide_eq_true_eq, bl_length] at hb
  exact Verify2_yes w rt n text sig hn ht hb.1 hb.2
end Go.Proofs.YtkcikadgnnjjjaaGreatDoor.RkV
namespace Go.Proofs.YtkcikadgnnjjjaaGreatDoor.RkJ
open Go Go.RowKit Go.Shelf Steps RowsX Lift KeyS KeyA TreeA ShaA BookA BookB BookD BkR BkC BkF RkH RkI
theorem Verify2_ok (w : World) (v : Value) (L : List Gr') (sv at' : Int) (text sig : ByteArray) (hv : Sl w v 36 L.length (L.flatMap Gr'.cs)) (ht : text.size ≤ 140737488351232) (hs : sig.size ≤ maxLen) :
  Calls Tryz.prog 35 #[v, .int .i64 sv, .int .i64 at', .string text, .string sig] w (RB (.int .i64 (verifyB L sv at' (bl text) (bl sig))) w) := by
 have hF := Find2_ok w v L sv at' hv
 unfold findG findW at hF
 unfold verifyB
 cases hbk : bookB L
 ·rw [hbk] at hF
  rw [if_neg (by simp), if_neg (by simp)] at hF
  rw [if_neg (by simp)]
  obtain ⟨C, hC⟩ := nXe (zeroG.A)
  rw [← hC] at hF
  have HCS := lh (show (Tryz.prog.info? 66).map (·.size) = some C.size by rw [hC]; exact gr_info _)
  have HCN := lh (show 36 = C.size by rw [hC]; exact (gr_size _).symm)
  have HCO := lh (show C.all (·.oneCell') = true by rw [hC]; kernel_rfl)
  have HF := lh hF
  clear hF hC hv hbk
  go_enter Tryz.func35, Tryz.ntmps35
  go_wp2_with fail
  refine HF.out.mono ?_
  rintro e w1 ⟨rfl, hb⟩
  have HB1 := lh hb
  clear hb
  go_wp2_with (first | (refine wpList_store_rowA rfl _ _ _ rfl w1.heap.size C rfl rfl _ _ (heap_new _ _) HCS.out (by rw [← HCN.out]; rfl) HCO.out ?_) | fail)
  intro u1 hu1
  have HB2 := lh (show Below w.heap.size w u1 by rw [hu1.out]; exact below_row (HB1.out.alloc HB1.out.size _) HB1.out.size _)
  clear hu1
  go_wp2
  go_ret
  exact ⟨rfl, HB2.out⟩
 ·rw [hbk] at hF
  rw [if_pos rfl, if_pos rfl] at hF
  rw [if_pos rfl]
  cases hfd : L.find? (foundB · sv at') with
  | none =>
   rw [hfd] at hF
   replace hF : Calls Tryz.prog 71 #[v, .int .i64 sv, .int .i64 at'] w (RB (.tuple #[.agg zeroG.A, .int .i64 3]) w) := hF
   show Calls _ _ _ _ (RB (.int .i64 3) w)
   obtain ⟨C, hC⟩ := nXe (zeroG.A)
   rw [← hC] at hF
   have HCS := lh (show (Tryz.prog.info? 66).map (·.size) = some C.size by rw [hC]; exact gr_info _)
   have HCN := lh (show 36 = C.size by rw [hC]; exact (gr_size _).symm)
   have HCO := lh (show C.all (·.oneCell') = true by rw [hC]; kernel_rfl)
   have HF := lh hF
   clear hF hC hv hbk hfd
   go_enter Tryz.func35, Tryz.ntmps35
   go_wp2_with fail
   refine HF.out.mono ?_
   rintro e w1 ⟨rfl, hb⟩
   have HB1 := lh hb
   clear hb
   go_wp2_with (first | (refine wpList_store_rowA rfl _ _ _ rfl w1.heap.size C rfl rfl _ _ (heap_new _ _) HCS.out (by rw [← HCN.out]; rfl) HCO.out ?_) | fail)
   intro u1 hu1
   have HB2 := lh (show Below w.heap.size w u1 by rw [hu1.out]; exact below_row (HB1.out.alloc HB1.out.size _) HB1.out.size _)
   clear hu1
   go_wp2
   go_ret
   exact ⟨rfl, HB2.out⟩
  | some g =>
   rw [hfd] at hF
   replace hF : Calls Tryz.prog 71 #[v, .int .i64 sv, .int .i64 at'] w (RB (.tuple #[.agg g.A, .int .i64 0]) w) := hF
   show Calls _ _ _ _ (RB (.int .i64 (verify g.rt.l g.hi.toNat (bl text) (bl sig))) w)
   have hg := book_right hbk (List.mem_of_find?_eq_some hfd)
   obtain ⟨n, hnn⟩ := nXe (g.hi.toNat)
   have hn : g.hi = (n : Int) := by have := hg.h0; omega
   rw [← hnn]
   clear hnn
   have h7 : n ≤ 7 := by have := hg.h1; omega
   have hV := fun w => RkV.Verify2_ok w g.rt n text sig h7 ht hs
   obtain ⟨res, hres⟩ : ∃ r : Int, r = verify g.rt.l n (bl text) (bl sig) := ⟨_, rfl⟩
   rw [← hres] at hV ⊢
   obtain ⟨C, hC⟩ := nXe (g.A)
   obtain ⟨R, hR⟩ := nXe (g.rt.A)
   rw [← hC] at hF
   rw [← hR] at hV
   have c3 : C[3]? = some (.int .i64 (n : Int)) := by rw [hC, ← hn]; exact g.c3
   have HR4 := lh (show ∀ (j : Nat) (u : Value), R.toList[j]? = some u → C[4 + j]? = some u from fun j u h => by
    rw [hC]
    rw [hR] at h
    unfold Gr'.A Gr'.cs
    rw [List.getElem?_toArray, List.getElem?_append_right (by simp), ← h]
    simp [H32.A])
   have HRS := lh (show (Tryz.prog.info? 25).map (·.size) = some R.size by rw [hR]; exact H32.info _)
   have HCS := lh (show (Tryz.prog.info? 66).map (·.size) = some C.size by rw [hC]; exact gr_info _)
   have HCN := lh (show 36 = C.size by rw [hC]; exact (gr_size _).symm)
   have HCO := lh (show C.all (·.oneCell') = true by
    rw [hC, Array.all_eq_true_iff_forall_mem]
    intro u hu
    exact grF.one g u (by simpa [Gr'.A] using hu))
   have HF := lh hF
   have HV := lh hV
   clear hF hV hC hR hv hfd hbk hres hs ht hn hg
   go_enter Tryz.func35, Tryz.ntmps35
   go_wp2_with fail
   refine HF.out.mono ?_
   rintro e w1 ⟨rfl, hb⟩
   have HB1 := lh hb
   clear hb
   go_wp2_with (first | (refine wpList_store_rowA rfl _ _ _ rfl w1.heap.size C rfl rfl _ _ (heap_new _ _) HCS.out (by rw [← HCN.out]; rfl) HCO.out ?_) | fail)
   intro u1 hu1
   have HB2 := lh (show Below w.heap.size w u1 by rw [hu1.out]; exact below_row (HB1.out.alloc HB1.out.size _) HB1.out.size _)
   have HX2 := lh (show u1.heap[w1.heap.size]? = some (.cells C 66 (0, 0)) by rw [hu1.out]; exact setRow_at (heap_new _ _))
   clear hu1
   have hc3 : u1.cell? ⟨w1.heap.size, 3, none⟩ = some (.int .i64 (n : Int)) := by rw [cell_row HX2.out]; exact c3
   have Hc4 := lh (show ∀ (j : Nat) (u : Value), R.toList[j]? = some u → u1.cell? ⟨w1.heap.size, 4 + j, none⟩ = some u from fun j u h => by rw [cell_row HX2.out]; exact HR4.out j u h)
   go_wp2_with (first | (refine wpList_load_rowO rfl _ _ rfl w1.heap.size 4 rfl R Hc4.out Tryz.underlying25 rfl HRS.out ?_) | fail)
   refine (HV.out u1).mono ?_
   rintro e w3 ⟨rfl, hb⟩
   have HB3 := tbB HB2 hb
   clear hb
   go_wp2
   go_ret
   exact ⟨rfl, HB3.out⟩
end Go.Proofs.YtkcikadgnnjjjaaGreatDoor.RkJ
namespace Go.Proofs.YtkcikadgnnjjjaaGreatDoor.RkM
open Go Go.RowKit Go.Shelf OctP OctG RowsX Lift ShaS KeyS ShaA ShaB Steps KeyA KeyB KeyG KeyI KeyK TreeA TreeE TreeF TreeG WireT RkA RkC RkF
attribute [-go_sem] Builtin.append_
theorem acc_base {w0 w1 w : World} {v : Value} {l : List H32} (h : AccR 25 32 H32.cs w1 w v l) (hb : Below w0.heap.size w0 w1) : AccR 25 32 H32.cs w0 w v l := by
 refine ⟨?_, hb.trans (h.bel.mono hb.size)⟩
 obtain ⟨h1, h2⟩ := h.own
 refine ⟨h1, ?_⟩
 rcases h2 with h2 | ⟨g, cap, cur, fr, e1, e2, e3⟩
 ·exact .inl h2
 ·exact .inr ⟨g, cap, cur, fr, e1, Nat.le_trans hb.size e2, e3⟩
theorem acc_setRowR {w0 w : World} {v : Value} {l : List H32} {B : Nat} {cs old : Array Value} (h : AccR 25 32 H32.cs w0 w v l) (hB : w.heap[B]? = some (.cells old 40 (0, 0))) (hge : w0.heap.size ≤ B) : AccR 25 32 H32.cs w0 (w.setRow B cs) v l := by
 refine ⟨?_, below_row h.bel hge cs⟩
 obtain ⟨h1, h2⟩ := h.own
 refine ⟨h1, ?_⟩
 rcases h2 with h2 | ⟨g, cap, cur, fr, e1, e2, e3, e4⟩
 ·exact .inl h2
 ·refine .inr ⟨g, cap, cur, fr, e1, e2, ?_, e4⟩
  rw [setRow_far _ (fun hg => by
   subst hg
   rw [hB] at e3
   simp only [Option.some.injEq, Obj.cells.injEq] at e3
   exact absurd e3.2.1 (by decide))]
  exact e3
def ring2 (s : ByteArray) (h nx : Int) (v : Value) : Array Value := #[.string s, .int .i64 h, .int .i64 nx, v]
theorem Make2_ok (w : World) (s : ByteArray) (h : Nat) (nx : Int) (hh : h ≤ 7) (hs : s.size ≤ 64) : Calls Tryz.prog 13 #[.agg (kyA s h nx)] w fun e w' => ∃ v, e = .returned (.agg (ring2 s h nx v)) ∧ AccR 25 32 H32.cs w w' v (leavesH (bl s) (2 ^ h)) := by
 have hl := fun w => leaves2_ok w s h nx hh hs
 obtain ⟨LS, hLS⟩ := nXe (leavesH (bl s) (2 ^ h))
 rw [← hLS] at hl ⊢
 obtain ⟨K, hK⟩ := nXe (kyA s h nx)
 have hb1 : ∀ (a : Option Addr) (n c : Nat), Tryz.prog.built 40 [(0, .agg K), (1, .slice a n c)] = some (ring2 s h nx (.slice a n c)) := by intro a n c; rw [hK]; kernel_rfl
 rw [← hK] at hl ⊢
 have HKS := lh (show (Tryz.prog.info? 23).map (·.size) = some K.size by rw [hK]; kernel_rfl)
 have HB1 := lh hb1
 have HL := lh hl
 obtain ⟨Z, hZ⟩ := nXe (ring2 ⟨#[]⟩ 0 0 (.slice none 0 0))
 have HLIT : Hid ((#[.string ⟨#[]⟩, .int .i64 0, .int .i64 0, .slice none 0 0] : Array Value) = Z) := lh (by rw [hZ]; rfl)
 have HZN : Hid (Z.size = 4) := lh (by rw [hZ]; rfl)
 obtain ⟨w0, hw0⟩ := nXe ((w.alloc (.cells K 23)).alloc (.cells Z 40))
 have hb0 : Below w.heap.size w w0 := by rw [hw0]; exact ((Below.refl _ w).alloc (Nat.le_refl _) _).alloc (by simp) _
 have HX0 := lh (show w0.heap[w.heap.size]? = some (.cells K 23 (0, 0)) by rw [hw0]; exact heap_at (heap_new _ _) _)
 have HZ0 := lh (show w0.heap[w.heap.size + 1]? = some (.cells Z 40 (0, 0)) by rw [hw0]; exact heap_new' _ (by simp))
 have HB0 := lh hb0
 have HW0 := lh hw0
 clear hl hb1 hK hZ hw0 hb0 hLS
 go_enter Tryz.func13, Tryz.ntmps13
 go_wp2_with fail
 rw [HLIT.out, ← HW0.out]
 refine wp_region_noPanic ?_
 refine Wr.region_K (S := (fun W => W.heap[w.heap.size]? = some (.cells K 23 (0, 0)) ∧ W.heap[w.heap.size + 1]? = some (.cells Z 40 (0, 0)))) (K := [4]) (by kernel_rfl) ?_
 change Wr.wpAnyK _ _ _ _ _ _ _ _ _ (World.drew w0)
 have hBL0 : Below w0.heap.size w0 (World.drew w0) := Bl.drew (Below.refl _ _)
 have hS0 : (World.drew w0).heap[w.heap.size]? = some (.cells K 23 (0, 0)) ∧ (World.drew w0).heap[w.heap.size + 1]? = some (.cells Z 40 (0, 0)) := ⟨(hBL0.block _ (lt_row HX0.out)).trans HX0.out, (hBL0.block _ (lt_row HZ0.out)).trans HZ0.out⟩
 refine Wr.tkK (i := 0) (v := .agg K) rfl (.inl ⟨by rfl, ?_⟩) hS0 ?_
 ·intro wq hSw
  exact EqHash.exec_load_row 23 _ rfl _ rfl hSw.1 Tryz.underlying23 rfl HKS.out
 simp only [Act.put, sxx]
 refine Wr.tkK (i := 1) (v := .agg K) rfl (.inl ⟨by rfl, ?_⟩) hS0 ?_
 ·intro wq hSw
  exact EqHash.exec_load_row 23 _ rfl _ rfl hSw.1 Tryz.underlying23 rfl HKS.out
 simp only [Act.put, sxx]
 refine Wr.wpAnyK_one (i := 2) (by kernel_rfl) ?_
 refine wpOp_call rfl (by rfl) (by go_simp; all_goals (and_intros <;> rfl)) ?_
 refine (HL.out (World.drew w0)).mono ?_
 rintro e u1 ⟨lv, rfl, hA⟩
 have hb_u1 := hA.bel
 obtain ⟨la, lc, rfl, _, _⟩ := hA.sl.form
 have HA := lh (acc_base hA hBL0)
 clear hA
 have hBL1 : Below w0.heap.size w0 u1 := hBL0.trans (hb_u1.mono hBL0.size)
 have hS1 : u1.heap[w.heap.size]? = some (.cells K 23 (0, 0)) ∧ u1.heap[w.heap.size + 1]? = some (.cells Z 40 (0, 0)) := ⟨(hBL1.block _ (lt_row HX0.out)).trans HX0.out, (hBL1.block _ (lt_row HZ0.out)).trans HZ0.out⟩
 refine ⟨_, rfl, ?_, ?_⟩
 ·exact hS1
 simp only [Act.put, sxx]
 obtain ⟨E, hE⟩ := nXe (ring2 s h nx (.slice la LS.length lc))
 have hbE := HB1.out la LS.length lc
 rw [← hE] at hbE
 have HES := lh (show (Tryz.prog.info? 40).map (·.size) = some E.size by rw [hE]; kernel_rfl)
 have HEO := lh (show E.all (·.oneCell') = true by rw [hE]; simp [ring2, Value.oneCell'])
 have HEN : Hid (Z.size = E.size) := lh (by rw [HZN.out, hE]; rfl)
 have HEe := lh hE
 clear hE
 refine Wr.wpAnyK_take (i := 3) (v := .agg E) rfl (by kernel_rfl) (fun _ _ _ h => h) (WrC.yields_build _ _ rfl (by rfl) E (by first | exact hbE | (go_simp; done) | (go_simp; exact hbE))) hS1 ?_
 simp only [Act.put, sxx]
 refine Wr.wpAnyK_write (i := 4) (by kernel_rfl) (by kernel_rfl) ?_
 refine WrC.wpOp_store_row rfl (by rfl) _ _ _ rfl (w.heap.size + 1) E rfl rfl _ _ hS1.2 HES.out HEN.out HEO.out ?_
 intro u2 hu2
 have HAA := lh (acc_base HA.out HB0.out)
 have HAf := lh (show AccR 25 32 H32.cs w u2 _ LS by rw [hu2.out]; exact acc_setRowR HAA.out hS1.2 (by omega))
 have HEf := lh (show u2.heap[w.heap.size + 1]? = some (.cells E 40 (0, 0)) by rw [hu2.out]; exact setRow_at hS1.2)
 have hXf : u2.heap[w.heap.size]? = some (.cells K 23 (0, 0)) := by rw [hu2.out, setRow_far _ (by omega)]; exact hS1.1
 simp only [Act.put, sxx]
 refine Wr.wpAnyK_done (by kernel_rfl) (NoPanic.normal ?_) _
 go_wp2
 refine bodyPost_ret (v := .agg E) (results_cell_row rfl _ _ (w.heap.size + 1) _ E (0, 0) _ rfl HEf.out Tryz.underlying40 rfl HES.out) rfl ⟨_, by rw [HEe.out], HAf.out⟩
end Go.Proofs.YtkcikadgnnjjjaaGreatDoor.RkM
namespace Go.Proofs.YtkcikadgnnjjjaaGreatDoor.RkN
open Go Go.RowKit Go.Shelf OctetS IdentS OctP OctQ OctG ShaA Steps KeyA TreeA RkF RkM
theorem Sign2_over (w : World) (s text : ByteArray) (h : Nat) (v : Value) (hh : h ≤ 7) (hv : v.oneCell' = true) :
  Calls Tryz.prog 41 #[.agg (ring2 s h (2 ^ h : Nat) v), .string text] w (RB (.tuple #[.agg (ring2 s h (2 ^ h : Nat) v), .string ⟨#[]⟩, .int .i64 10]) w) := by
 have hP : ∀ w : World, Calls Tryz.prog 32 #[.int .i64 h] w (fun e w' => e = .returned (.int .i64 (2 ^ h : Nat)) ∧ w' = w) := fun w => (places2_ok w h hh).mono fun _ _ ⟨a, b⟩ => ⟨a, b.symm⟩
 obtain ⟨M, hM⟩ := nXe (2 ^ h)
 have hM128 : M ≤ 128 := by rw [hM]; exact Nat.le_trans (Nat.pow_le_pow_right (by omega) hh) (by omega)
 rw [← hM] at hP ⊢
 obtain ⟨E, hE⟩ := nXe (ring2 s h (M : Int) v)
 rw [← hE]
 have hEn : E.size = 4 := by rw [hE]; rfl
 have HES := lh (show (Tryz.prog.info? 40).map (·.size) = some E.size by rw [hEn]; kernel_rfl)
 have p1 : E[1]? = some (.int .i64 (h : Int)) := by rw [hE]; rfl
 have p2 : E[2]? = some (.int .i64 (M : Int)) := by rw [hE]; rfl
 obtain ⟨w0, hw0⟩ := nXe (w.alloc (.cells E 40))
 have hb0 : Below w.heap.size w w0 := by rw [hw0]; exact (Below.refl _ w).alloc (Nat.le_refl _) _
 have hx0 : w0.heap[w.heap.size]? = some (.cells E 40 (0, 0)) := by rw [hw0]; exact heap_new _ _
 obtain ⟨Z, hZ⟩ : ∃ Z : Array Value, Z = #[.string ⟨#[]⟩, .int .i64 0, .int .i64 0, .slice none 0 0] := ⟨_, rfl⟩
 obtain ⟨w1, hw1⟩ := nXe (w0.alloc (.cells Z 40))
 have hb1 : Below w.heap.size w w1 := hb0.trans (by rw [hw1]; exact ((Below.refl _ w0).alloc (Nat.le_refl _) _).mono hb0.size)
 have hx1 : w1.heap[w.heap.size]? = some (.cells E 40 (0, 0)) := by rw [hw1]; exact (((Below.refl w0.heap.size w0).alloc (Nat.le_refl _) _).block _ (lt_row hx0)).trans hx0
 have c1 : w1.cell? ⟨w.heap.size, 1, none⟩ = some (.int .i64 (h : Int)) := (cell_row hx1).trans p1
 have c2 : w1.cell? ⟨w.heap.size, 2, none⟩ = some (.int .i64 (M : Int)) := (cell_row hx1).trans p2
 have HX1 := lh hx1
 have hws : w0.heap.size = w.heap.size + 1 := by rw [hw0]; exact Array.size_push ..
 have HY1 := lh (show w1.heap[w.heap.size + 1]? = some (.cells Z 40 (0, 0)) by rw [hw1, ← hws]; exact heap_new _ _)
 have HZn := lh (show Z.size = E.size by rw [hZ, hEn]; rfl)
 have HEO := lh (show E.all (·.oneCell') = true by rw [hE]; simp [ring2, Value.oneCell'] ; exact hv)
 have HB1 := lh hb1
 have HW1 := lh (show w1 = (w.alloc (.cells E 40)).alloc (.cells #[.string ⟨#[]⟩, .int .i64 0, .int .i64 0, .slice none 0 0] 40) by rw [hw1, hw0, hZ])
 have HP := lh hP
 clear hx0 hb0 hw0 hx1 hb1 hw1 hE hP hM hv hZ
 go_enter Tryz.func41, Tryz.ntmps41
 go_wp2_with fail
 rw [← HW1.out]
 go_quiet (exact Calls.quiet_of_same (HP.out _))
 rename_i nq _
 obtain ⟨w2, hw2⟩ := nXe (w1.drewN nq)
 have HX2 := lh (show w2.heap[w.heap.size]? = some (.cells E 40 (0, 0)) by rw [hw2]; exact HX1.out)
 have HB2 := lh (show Below w.heap.size w w2 by rw [hw2]; exact below_drewN HB1.out _)
 have HY2 := lh (show w2.heap[w.heap.size + 1]? = some (.cells Z 40 (0, 0)) by rw [hw2]; exact HY1.out)
 rw [← hw2]
 clear hw2
 go_wp2_with (first | (refine wpList_load_row rfl _ _ rfl w.heap.size rfl _ E (0, 0) _ HX2.out Tryz.underlying40 rfl HES.out ?_) | (refine wpList_store_rowA rfl _ _ _ rfl (w.heap.size + 1) E rfl rfl _ _ HY2.out HES.out HZn.out HEO.out ?_) | fail)
 intro w3 hw3
 have HY3 := lh (show w3.heap[w.heap.size + 1]? = some (.cells E 40 (0, 0)) by rw [hw3.out]; exact setRow_at HY2.out)
 have HB3 := lh (show Below w.heap.size w w3 by rw [hw3.out]; exact below_row HB2.out (by omega) _)
 clear hw3
 go_wp2_with fail
 refine bodyPost_ret (v := .tuple #[.agg E, .string ⟨#[]⟩, .int .i64 10]) (WireT.results_cell_slot2 rfl _ _ (w.heap.size + 1) 40 E (0, 0) _ rfl HY3.out Tryz.underlying40 rfl HES.out rfl rfl) rfl ⟨rfl, HB3.out⟩
end Go.Proofs.YtkcikadgnnjjjaaGreatDoor.RkN
