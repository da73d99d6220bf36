/-
  WHAT IS PROVED: contracts of functions, and plain laws. Condition: what each theorem names.
-/
import Derived.Test.YtadofbbpfgmclaaGreatDoorS0
import Derived.Test.YtadofbbpfgmclaaGreatDoorZT37
set_option linter.unusedVariables false
set_option linter.unusedSimpArgs false
set_option maxRecDepth 100000
set_option maxHeartbeats 4000000
namespace Go.Proofs.YtadofbbpfgmclaaGreatDoor
open Go.Proofs.Tryz
namespace RkF
open Go Go.RowKit Go.Shelf OctP OctG RowsX Lift ShaS KeyS ShaA ShaB Steps KeyA KeyB KeyG KeyI KeyK TreeA TreeE TreeF TreeG WireT RkA RkB RkC
attribute [-go_sem] Builtin.append_
theorem Jc (w : World) (n : Int) : Calls Tryz.prog 112 #[.int .i64 n] w (fun e w' => e = .returned (.bool (decide (0 ≤ n) && decide (n ≤ 7))) ∧ w = w') := by
 by_cases h : 0 ≤ n
 ·rw [dT h, Bool.true_and]
  have d0 : decide (0 ≤ n) = true := dT h
  go_enter func112, ntmps112
  go_wp2
  go_ret
  exact ⟨rfl, rfl⟩
 ·rw [dF h, Bool.false_and]
  have d0 : decide (0 ≤ n) = false := dF h
  go_enter func112, ntmps112
  go_wp2
  go_ret
  exact ⟨rfl, rfl⟩
theorem I7 (w : World) (h : Nat) (hh : h ≤ 7) : Calls Tryz.prog 113 #[.int .i64 h] w (fun e w' => e = .returned (.int .i64 (2 ^ h : Nat)) ∧ w = w') := by
 have hc : h = 0 ∨ h = 1 ∨ h = 2 ∨ h = 3 ∨ h = 4 ∨ h = 5 ∨ h = 6 ∨ h = 7 := by omega
 rcases hc with rfl | rfl | rfl | rfl | rfl | rfl | rfl | rfl
 ·show Calls _ _ #[.int .i64 0] _ (fun e w' => e = .returned (.int .i64 1) ∧ w = w')
  go_enter func113, ntmps113
  go_wp2
  refine wp_loop_rounds 1 ?_
  rw [rounds_succ]
  go_wp2
  go_ret
  exact ⟨rfl, rfl⟩
 ·show Calls _ _ #[.int .i64 1] _ (fun e w' => e = .returned (.int .i64 2) ∧ w = w')
  go_enter func113, ntmps113
  go_wp2
  refine wp_loop_rounds 2 ?_
  rw [rounds_succ]
  go_wp2
  rw [rounds_succ]
  go_wp2
  go_ret
  exact ⟨rfl, rfl⟩
 ·show Calls _ _ #[.int .i64 2] _ (fun e w' => e = .returned (.int .i64 4) ∧ w = w')
  go_enter func113, ntmps113
  go_wp2
  refine wp_loop_rounds 3 ?_
  iterate 3
   rw [rounds_succ]
   go_wp2
  go_ret
  exact ⟨rfl, rfl⟩
 ·show Calls _ _ #[.int .i64 3] _ (fun e w' => e = .returned (.int .i64 8) ∧ w = w')
  go_enter func113, ntmps113
  go_wp2
  refine wp_loop_rounds 4 ?_
  iterate 4
   rw [rounds_succ]
   go_wp2
  go_ret
  exact ⟨rfl, rfl⟩
 ·show Calls _ _ #[.int .i64 4] _ (fun e w' => e = .returned (.int .i64 16) ∧ w = w')
  go_enter func113, ntmps113
  go_wp2
  refine wp_loop_rounds 5 ?_
  iterate 5
   rw [rounds_succ]
   go_wp2
  go_ret
  exact ⟨rfl, rfl⟩
 ·show Calls _ _ #[.int .i64 5] _ (fun e w' => e = .returned (.int .i64 32) ∧ w = w')
  go_enter func113, ntmps113
  go_wp2
  refine wp_loop_rounds 6 ?_
  iterate 6
   rw [rounds_succ]
   go_wp2
  go_ret
  exact ⟨rfl, rfl⟩
 ·show Calls _ _ #[.int .i64 6] _ (fun e w' => e = .returned (.int .i64 64) ∧ w = w')
  go_enter func113, ntmps113
  go_wp2
  refine wp_loop_rounds 7 ?_
  iterate 7
   rw [rounds_succ]
   go_wp2
  go_ret
  exact ⟨rfl, rfl⟩
 ·show Calls _ _ #[.int .i64 7] _ (fun e w' => e = .returned (.int .i64 128) ∧ w = w')
  go_enter func113, ntmps113
  go_wp2
  refine wp_loop_rounds 8 ?_
  iterate 8
   rw [rounds_succ]
   go_wp2
  go_ret
  exact ⟨rfl, rfl⟩
end RkF
namespace RkP
open Go Go.RowKit Go.Shelf OctP OctG RowsX Lift ShaS KeyS ShaA ShaB Steps KeyA KeyB KeyG KeyH KeyJ TreeA TreeE TreeF TreeG WireT RkA RkC RkF
attribute [-go_sem] Builtin.append_
theorem KT (w : World) (n : Nat) (sig : ByteArray) (hn : n ≤ 7) (hsz : sig.size ≤ maxLen) (hno : sigB n (bl sig) = false) :
 Calls Tryz.prog 90 #[.int .i64 n, .string sig] w (RB (.tuple #[.int .i64 0, .int .i64 2]) w) := by
 unfold maxLen at hsz
 have hH : ∀ w, Calls Tryz.prog 112 #[.int .i64 n] w (fun e w' => e = .returned (.bool true) ∧ w = w') := fun w => by
  have h := Jc w n
  rw [dT (show (0 : Int) ≤ (n : Int) by omega), dT (show (n : Int) ≤ 7 by omega)] at h
  exact h
 have hP := fun w => I7 w n hn
 obtain ⟨M, hMe⟩ := nXe (2 ^ n)
 have hM128 : M ≤ 128 := by rw [hMe]; exact Nat.le_trans (Nat.pow_le_pow_right (by omega) hn) (by omega)
 unfold sigB at hno
 rw [← hMe] at hP hno
 obtain ⟨HH, HP⟩ := l2h hH hP
 have w1 : IntKind.i64.wrap (32 * (n : Int)) = 32 * (n : Int) := by rw [IntKind.wrap_i64]; omega
 have w2 : IntKind.i64.wrap (1089 + 32 * (n : Int)) = 1089 + 32 * (n : Int) := by rw [IntKind.wrap_i64]; omega
 by_cases hs : sig.size = 1089 + 32 * n
 ·have h0 : 0 < sig.size := by omega
  obtain ⟨b, hb⟩ : ∃ b, sig[0] = b := ⟨_, rfl⟩
  have hhd : (bl sig).headD 0 = b := by
   have := EC sig 0 h0
   rw [List.drop_zero] at this
   rw [this, ← hb]
   rfl
  rw [hhd, AP, hs, dT rfl, Bool.true_and] at hno
  have hb2 : M ≤ b.toNat := by have := of_decide_eq_false hno; omega
  have hb8 := b.toNat_lt
  have hz : ((sig.size : Nat) : Int) = 1089 + 32 * (n : Int) := by omega
  have hd : decide ((M : Int) ≤ (b.toNat : Int)) = true := dT (by omega)
  have hd2 : decide (M ≤ b.toNat) = true := dT (by omega)
  have hb3 : IntKind.i64.wrap (b.toNat : Int) = (b.toNat : Int) := by rw [IntKind.wrap_i64]; omega
  have hpos : (0 : Int) < 1089 + 32 * (n : Int) := by omega
  clear hMe hs hno hhd hsz hH hP
  go_enter func90, ntmps90
  go_wp2
  refine Uniform.Ak (S := (fun W => Below w.heap.size w W ∧ Below w.heap.size w W)) (List.range 19) (by kernel_rfl) (by kernel_rfl) ⟨((Below.refl w.heap.size w)).drew, ((Below.refl w.heap.size w)).drew⟩ ?_
  refine ⟨_, ?_, rfl, .inl ⟨by rfl, fun wq hSw => .value (w' := wq) ?_ hSw⟩, ?_⟩
  rotate_left
  ·obtain ⟨q0, q1⟩ := hSw
   go_simp
   rfl
  simp only [Act.put, sxx]
  refine ⟨_, ?_, rfl, Or.inl ⟨by rfl, fun wq hSw => Uniform.UStep.call (w' := wq) ?_ ((HH.out wq).mono ?_)⟩, ?_⟩
  rotate_left
  ·obtain ⟨q0, q1⟩ := hSw
   go_simp
   all_goals (and_intros <;> rfl)
  ·have hSk := hSw
   obtain ⟨q0, q1⟩ := hSw
   rintro e wq2 ⟨rfl, rfl⟩
   refine ⟨?_, hSk⟩
   rfl
  iterate 14
   simp only [Act.put, sxx]
   refine ⟨_, ?_, rfl, .inl ⟨by rfl, fun wq hSw => .value (w' := wq) ?_ hSw⟩, ?_⟩
   rotate_left
   ·obtain ⟨q0, q1⟩ := hSw
    go_simp
    rfl
  simp only [Act.put, sxx]
  refine ⟨_, ?_, rfl, Or.inl ⟨by rfl, fun wq hSw => Uniform.UStep.call (w' := wq) ?_ ((HP.out wq).mono ?_)⟩, ?_⟩
  rotate_left
  ·obtain ⟨q0, q1⟩ := hSw
   go_simp
   all_goals (and_intros <;> rfl)
  ·have hSk := hSw
   obtain ⟨q0, q1⟩ := hSw
   rintro e wq2 ⟨rfl, rfl⟩
   refine ⟨?_, hSk⟩
   rfl
  iterate 2
   simp only [Act.put, sxx]
   refine ⟨_, ?_, rfl, .inl ⟨by rfl, fun wq hSw => .value (w' := wq) ?_ hSw⟩, ?_⟩
   rotate_left
   ·obtain ⟨q0, q1⟩ := hSw
    go_simp
    rfl
  simp only [Act.put, sxx]
  intro wz hSz
  obtain ⟨q0, q1⟩ := hSz
  go_wp2
  go_ret2
  exact ⟨rfl, q0⟩
 ·have hz : ((sig.size : Nat) : Int) ≠ 1089 + 32 * (n : Int) := by omega
  have hz2 : (((sig.size : Nat) : Int) != 1089 + 32 * (n : Int)) = true := by simpa using hz
  have hz3 : (((sig.size : Nat) : Int) == 1089 + 32 * (n : Int)) = false := by simpa using hz
  clear hMe hno hs hH hP
  go_enter func90, ntmps90
  go_wp2
  refine Uniform.Ak (S := (fun W => Below w.heap.size w W ∧ Below w.heap.size w W)) (List.range 19) (by kernel_rfl) (by kernel_rfl) ⟨((Below.refl w.heap.size w)).drew, ((Below.refl w.heap.size w)).drew⟩ ?_
  refine ⟨_, ?_, rfl, .inl ⟨by rfl, fun wq hSw => .value (w' := wq) ?_ hSw⟩, ?_⟩
  rotate_left
  ·obtain ⟨q0, q1⟩ := hSw
   go_simp
   rfl
  simp only [Act.put, sxx]
  refine ⟨_, ?_, rfl, Or.inl ⟨by rfl, fun wq hSw => Uniform.UStep.call (w' := wq) ?_ ((HH.out wq).mono ?_)⟩, ?_⟩
  rotate_left
  ·obtain ⟨q0, q1⟩ := hSw
   go_simp
   all_goals (and_intros <;> rfl)
  ·have hSk := hSw
   obtain ⟨q0, q1⟩ := hSw
   rintro e wq2 ⟨rfl, rfl⟩
   refine ⟨?_, hSk⟩
   rfl
  iterate 10
   simp only [Act.put, sxx]
   refine ⟨_, ?_, rfl, .inl ⟨by rfl, fun wq hSw => .value (w' := wq) ?_ hSw⟩, ?_⟩
   rotate_left
   ·obtain ⟨q0, q1⟩ := hSw
    go_simp
    rfl
  iterate 6
   simp only [Act.put, sxx]
   refine ⟨_, undef, rfl, Or.inr ⟨by rfl, rfl⟩, ?_⟩
  simp only [Act.put, sxx]
  refine ⟨_, ?_, rfl, .inl ⟨by rfl, fun wq hSw => .value (w' := wq) ?_ hSw⟩, ?_⟩
  rotate_left
  ·obtain ⟨q0, q1⟩ := hSw
   go_simp
   rfl
  simp only [Act.put, sxx]
  intro wz hSz
  obtain ⟨q0, q1⟩ := hSz
  go_wp2
  go_ret2
  exact ⟨rfl, q0⟩
theorem Ju (w : World) (n : Nat) (sig : ByteArray) (hn : n ≤ 7) (hs : sig.size = 1089 + 32 * n) (b : UInt8) (h0 : 0 < sig.size) (hb : sig[0] = b) (hb2 : b.toNat < 2 ^ n) :
 Calls Tryz.prog 90 #[.int .i64 n, .string sig] w (RB (.tuple #[.int .i64 b.toNat, .int .i64 0]) w) := by
 have hH : ∀ w, Calls Tryz.prog 112 #[.int .i64 n] w (fun e w' => e = .returned (.bool true) ∧ w = w') := fun w => by
  have h := Jc w n
  rw [dT (show (0 : Int) ≤ (n : Int) by omega), dT (show (n : Int) ≤ 7 by omega)] at h
  exact h
 have hP := fun w => I7 w n hn
 obtain ⟨M, hMe⟩ := nXe (2 ^ n)
 have hM128 : M ≤ 128 := by rw [hMe]; exact Nat.le_trans (Nat.pow_le_pow_right (by omega) hn) (by omega)
 rw [← hMe] at hP hb2
 obtain ⟨HH, HP⟩ := l2h hH hP
 have w1 : IntKind.i64.wrap (32 * (n : Int)) = 32 * (n : Int) := by rw [IntKind.wrap_i64]; omega
 have w2 : IntKind.i64.wrap (1089 + 32 * (n : Int)) = 1089 + 32 * (n : Int) := by rw [IntKind.wrap_i64]; omega
 ·have hb8 := b.toNat_lt
  have hz : ((sig.size : Nat) : Int) = 1089 + 32 * (n : Int) := by omega
  have hd : decide ((M : Int) ≤ (b.toNat : Int)) = false := dF (by omega)
  have hd2 : decide (M ≤ b.toNat) = false := dF (by omega)
  have hb3 : IntKind.i64.wrap (b.toNat : Int) = (b.toNat : Int) := by rw [IntKind.wrap_i64]; omega
  have hpos : (0 : Int) < 1089 + 32 * (n : Int) := by omega
  clear hMe hs hH hP
  go_enter func90, ntmps90
  go_wp2
  refine Uniform.Ak (S := (fun W => Below w.heap.size w W ∧ Below w.heap.size w W)) (List.range 19) (by kernel_rfl) (by kernel_rfl) ⟨((Below.refl w.heap.size w)).drew, ((Below.refl w.heap.size w)).drew⟩ ?_
  refine ⟨_, ?_, rfl, .inl ⟨by rfl, fun wq hSw => .value (w' := wq) ?_ hSw⟩, ?_⟩
  rotate_left
  ·obtain ⟨q0, q1⟩ := hSw
   go_simp
   rfl
  simp only [Act.put, sxx]
  refine ⟨_, ?_, rfl, Or.inl ⟨by rfl, fun wq hSw => Uniform.UStep.call (w' := wq) ?_ ((HH.out wq).mono ?_)⟩, ?_⟩
  rotate_left
  ·obtain ⟨q0, q1⟩ := hSw
   go_simp
   all_goals (and_intros <;> rfl)
  ·have hSk := hSw
   obtain ⟨q0, q1⟩ := hSw
   rintro e wq2 ⟨rfl, rfl⟩
   refine ⟨?_, hSk⟩
   rfl
  iterate 14
   simp only [Act.put, sxx]
   refine ⟨_, ?_, rfl, .inl ⟨by rfl, fun wq hSw => .value (w' := wq) ?_ hSw⟩, ?_⟩
   rotate_left
   ·obtain ⟨q0, q1⟩ := hSw
    go_simp
    rfl
  simp only [Act.put, sxx]
  refine ⟨_, ?_, rfl, Or.inl ⟨by rfl, fun wq hSw => Uniform.UStep.call (w' := wq) ?_ ((HP.out wq).mono ?_)⟩, ?_⟩
  rotate_left
  ·obtain ⟨q0, q1⟩ := hSw
   go_simp
   all_goals (and_intros <;> rfl)
  ·have hSk := hSw
   obtain ⟨q0, q1⟩ := hSw
   rintro e wq2 ⟨rfl, rfl⟩
   refine ⟨?_, hSk⟩
   rfl
  iterate 2
   simp only [Act.put, sxx]
   refine ⟨_, ?_, rfl, .inl ⟨by rfl, fun wq hSw => .value (w' := wq) ?_ hSw⟩, ?_⟩
   rotate_left
   ·obtain ⟨q0, q1⟩ := hSw
    go_simp
    rfl
  simp only [Act.put, sxx]
  intro wz hSz
  obtain ⟨q0, q1⟩ := hSz
  go_wp2
  go_ret2
  exact ⟨rfl, q0⟩
end RkP
namespace RkV
open Go Go.RowKit Go.Shelf OctP OctG RowsX Lift ShaS KeyS ShaA ShaB Steps KeyA KeyB KeyG KeyH KeyJ TreeA TreeB TreeE TreeF TreeG WireT RkA RkC RkF
attribute [-go_sem] Builtin.append_
attribute [-go_sem] run_equalIn_agg
theorem Jg (w : World) (rt : H32) (n : Nat) (text sig : ByteArray) (hn : n ≤ 7) (ht : text.size ≤ 140737488351232) (hs : sig.size = 1089 + 32 * n) (hb2 : ((bl sig).headD 0).toNat < 2 ^ n) :
 Calls Tryz.prog 63 #[.agg rt.A, .int .i64 n, .string text, .string sig] w (RB (.int .i64 (if FX n (bl text) (bl sig) = rt.l then 0 else 9)) w) := by
 have h0 : 0 < sig.size := by omega
 obtain ⟨b, hb⟩ : ∃ b, sig[0] = b := ⟨_, rfl⟩
 have hhd : (bl sig).headD 0 = b := by
  have := EC sig 0 h0
  rw [List.drop_zero] at this
  rw [this, ← hb]
  rfl
 unfold FX
 rw [hhd] at hb2 ⊢
 have hP := fun w => RkP.Ju w n sig hn hs b h0 hb hb2
 obtain ⟨X, hX⟩ := nXe (sig.extract 1 1089)
 have hXb : bl X = ((bl sig).drop 1).take 1088 := by rw [hX, Aj]
 have hXs : X.size = 1088 := by rw [← AP, hXb, List.length_take, List.length_drop, AP]; omega
 obtain ⟨Y, hY⟩ := nXe (sig.extract 1089 sig.size)
 have hYb : bl Y = (bl sig).drop 1089 := by rw [hY, Aj, List.take_of_length_le (by rw [List.length_drop, AP]; omega)]
 have hYs : (bl Y).length = 32 * n := by rw [hYb, List.length_drop, AP]; omega
 rw [← hXb, ← hYb, ← partsH_l n (bl Y) hYs]
 obtain ⟨L, hL⟩ := nXe (DF n (bl Y) hYs)
 have hLl : L.length = n := by rw [hL]; exact E5 _ _ _
 have hR := fun w => RkB.Ji w text X ht hXs
 obtain ⟨lf, hlf⟩ := nXe (FC (bl text) (bl X))
 obtain ⟨at', hat⟩ : ∃ a, a = Cz lf b.toNat L := ⟨_, rfl⟩
 have hcl : climb (recover (bl text) (bl X)) b.toNat (L.map H32.l) = at'.l := by rw [hat, climbH_l, hlf, recoverH_l]
 rw [← hL, hcl]
 obtain ⟨C, hC⟩ := nXe (lf.A)
 have hRC : (byV (recover (bl text) (bl X))).toArray = C := by rw [hC, hlf, recoverH_A]
 rw [hRC] at hR
 obtain ⟨E, hE⟩ := nXe (at'.A)
 obtain ⟨p, hp⟩ := nXe (rt.A)
 obtain ⟨Z, hZ⟩ := nXe (CV.A)
 have HLIT : Hid (zq0 Z) := lh (by rw [hZ]; unfold zq0; kernel_rfl)
 have HCN : Hid (32 = C.size) := lh (by rw [hC]; exact (H32.size _).symm)
 have HZC : Hid (Z.size = C.size) := lh (by rw [hZ, hC, H32.size, H32.size])
 have HZE : Hid (Z.size = E.size) := lh (by rw [hZ, hE, H32.size, H32.size])
 have HCS : Hid ((Tryz.prog.info? 27).map (·.size) = some C.size) := lh (by rw [hC]; exact H32.info _)
 have HCO : Hid (C.all (·.oneCell') = true) := lh (by rw [hC]; exact H32.one _)
 have HES : Hid ((Tryz.prog.info? 27).map (·.size) = some E.size) := lh (by rw [hE]; exact H32.info _)
 have HEO : Hid (E.all (·.oneCell') = true) := lh (by rw [hE]; exact H32.one _)
 have HPS : Hid ((Tryz.prog.info? 27).map (·.size) = some p.size) := lh (by rw [hp]; exact H32.info _)
 have hCl : ∀ w v, Sl w v 32 L.length (L.flatMap H32.cs) → Calls Tryz.prog 92 #[.agg C, .int .i64 (b.toNat : Int), v] w (RB (.tuple #[.agg E, .int .i64 0]) w) := fun w v hsl => by
  rw [hC, hE, hat]
  exact RkW.KU w lf b.toNat v L hsl (by omega) (by rw [hLl]; exact hb2)
 obtain ⟨q, hq⟩ := nXe (decide (at'.l = rt.l))
 have heq : ∀ w, (Op.equalIn 10000 27 (.agg E) (.agg p)).run Tryz.prog w = .ok q w := fun w => by rw [hE, hp, eqH, hEq_dec, hq]
 have hG := EqHash.guardHash
 have hpost : (if at'.l = rt.l then (0 : Int) else 9) = (if q then 0 else 9) := by rw [hq]; by_cases h : at'.l = rt.l <;> simp [h]
 obtain ⟨res, hres⟩ : ∃ r : Int, r = (if q then 0 else 9) := ⟨_, rfl⟩
 rw [hpost, ← hp, ← hres]
 obtain ⟨HRes, HEQ, HGG, HP, HR, HCl⟩ := l6h hres heq hG hP hR hCl
 have hx1 : (1089 : Int) ≤ (sig.size : Int) := by omega
 obtain ⟨HXe, HYe⟩ := l2h hX hY
 obtain ⟨w0, hw0⟩ := nXe (w.alloc (.cells p 27))
 have HB0 := lh (show Below w.heap.size w w0 by rw [hw0]; exact bAx)
 have HX0 := lh (show w0.heap[w.heap.size]? = some (.cells p 27 (0, 0)) by rw [hw0]; exact AL _ _)
 have HW0 := lh hw0
 have hs1 : 1089 ≤ sig.size := by omega
 obtain ⟨HLe, HYl, HLl⟩ := l3h hL hYs hLl
 clear heq hG hP hR hCl hX hY hw0 hXb hYb hL hLl hlf hat hcl hC hRC hE hp hhd hb hpost hres hb2 hq hs hXs
 have HZe := lh hZ
 have HZN : Hid (Z.size = 32) := lh (by rw [hZ]; exact H32.size _)
 clear hZ
 go_enter func63, ntmps63
 go_wp2_with fail
 rw [← HW0.out]
 refine (HP.out w0).mono ?_
 rintro e w1 ⟨rfl, hb⟩
 have HB1 := tbB HB0 hb
 have HX1 := kpB hb HX0
 clear hb
 go_wp2_with fail
 rw [← HXe.out]
 refine (HR.out w1).mono ?_
 rintro e w2 ⟨rfl, hb⟩
 have HB2 := tbB HB1 hb
 have HX2 := kpB hb HX1
 clear hb
 go_wp2_with (first | (refine AC rfl _ _ _ rfl w2.heap.size C rfl rfl _ _ (AL _ _) HCS.out (by rw [← HCN.out]; rfl) HCO.out ?_) | fail)
 intro u1 hu1
 have hb : Below w2.heap.size w2 u1 := by rw [hu1.out]; exact AQ bAx nR _
 have hy : u1.heap[w2.heap.size]? = some (.cells C 27 (0, 0)) := by rw [hu1.out]; exact AR (AL _ _)
 clear hu1
 obtain ⟨w3, hww⟩ : ∃ w', w' = u1 := ⟨_, rfl⟩
 rw [← hww] at hb hy ⊢
 clear hww
 have HB3 := tbB HB2 hb
 have HX3 := kpB hb HX2
 have HC3 := lh hy
 obtain ⟨BL, hBL⟩ := nXe (w2.heap.size)
 rw [← hBL] at HC3 ⊢
 clear hBL hb hy
 have HA0 := lh (AccR.nil (f := H32.cs) (e := 27) (size := 32) w3)
 go_wp2
 rw [← HYe.out]
 skip
 go_loopw [13, 14] (fun q x wr => ∃ (k : Nat) (T : ByteArray) (v : Value) (l : List H32) (ht : (bl T).length = 32 * k), v = x ∧ q = .string T ∧ k ≤ n ∧ AccH w3 wr v l ∧ Hid (l.length + k = n) ∧ Hid (l ++ DF k (bl T) ht = L))
  (fun q _ _ => match q with | .string T => T.size | _ => 0)
 case atStart => exact ⟨n, Y, _, [], hYs, rfl, rfl, Nat.le_refl _, HA0.out, lh (by simp), lh HLe.out.symm⟩
 case round =>
  obtain ⟨k, T, v, l, ht, rfl, rfl, hk, hA, hlk, hp⟩ := hrel
  have hTs : T.size = 32 * k := by rw [← AP]; exact ht
  obtain ⟨HA, HAb⟩ := l2h hA hA.bel
  clear hA HA0
  by_cases h0 : k = 0
  ·skip
   subst h0
   have hT0 : T.size = 0 := by omega
   have hRl : l = L := by
        have := hp.out
        rw [DF, List.append_nil] at this
        exact this
   subst hRl
   have hsl := HA.out.sl
   have Hsl := lh hsl
   obtain ⟨av, cv, rfl, _, _⟩ := hsl.form
   obtain ⟨HCr, HXr, HBr⟩ := l3h ((HAb.out.block _ (AB HC3.out)).trans HC3.out) ((HAb.out.block _ (AB HX3.out)).trans HX3.out) (HB3.out.trans (HAb.out.mono HB3.out.size))
   clear hsl
   go_wp2_with (first | (refine wpList_load_row rfl _ _ rfl BL rfl _ C (0, 0) _ HCr.out underlying27 rfl HCS.out ?_) | fail)
   refine (HCl.out wr _ Hsl.out).mono ?_
   rintro e w5 ⟨rfl, hb⟩
   have HB5 := tbB HBr hb
   have HX5 := kpB hb HXr
   clear hb
   go_wp2_with (first | (refine AC rfl _ _ _ rfl w5.heap.size E rfl rfl _ _ (AL _ _) HES.out (by rw [← HZE.out, HZN.out]; rfl) HEO.out ?_) | fail)
   intro u1 hu1
   have hb : Below w5.heap.size w5 u1 := by rw [hu1.out]; exact AQ bAx nR _
   have hy : u1.heap[w5.heap.size]? = some (.cells E 27 (0, 0)) := by rw [hu1.out]; exact AR (AL _ _)
   clear hu1
   obtain ⟨w6, hww⟩ : ∃ w', w' = u1 := ⟨_, rfl⟩
   rw [← hww] at hb hy ⊢
   clear hww
   have HB6 := tbB HB5 hb
   have HX6 := kpB hb HX5
   have HE6 := lh hy
   clear hb hy
   have heq := HEQ.out
   have hG := HGG.out
   cases q
   ·have hrs : res = 9 := HRes.out
    subst hrs
    go_wp2_with (first | (refine wpList_load_row rfl _ _ rfl w5.heap.size rfl _ E (0, 0) _ HE6.out underlying27 rfl HES.out ?_) | (refine wpList_load_row rfl _ _ rfl w.heap.size rfl _ p (0, 0) _ HX6.out underlying27 rfl HPS.out ?_) | fail)
    go_ret
    exact ⟨rfl, HB6.out⟩
   ·have hrs : res = 0 := HRes.out
    subst hrs
    go_wp2_with (first | (refine wpList_load_row rfl _ _ rfl w5.heap.size rfl _ E (0, 0) _ HE6.out underlying27 rfl HES.out ?_) | (refine wpList_load_row rfl _ _ rfl w.heap.size rfl _ p (0, 0) _ HX6.out underlying27 rfl HPS.out ?_) | fail)
    go_ret
    exact ⟨rfl, HB6.out⟩
  ·skip
   obtain ⟨j, rfl⟩ : ∃ j, k = j + 1 := ⟨k - 1, by omega⟩
   have hgt : 0 < T.size := by omega
   have ht2 : 32 ≤ (bl T).length := by omega
   obtain ⟨ph, hh⟩ := nXe (partH (bl T) ht2)
   obtain ⟨N, hN⟩ := nXe (ph.A)
   obtain ⟨PT, hPT⟩ := nXe (T.extract 0 32)
   have MP : PT.size = 32 := by rw [hPT, ByteArray.size_extract]; omega
   have Lp : (bl PT).take 32 = (bl T).take 32 := by rw [hPT, Aj]; simp [List.take_take]
   have hrow : (Z.toList.take 0 ++ byV ((bl PT).take 32) ++ Z.toList.drop (0 + 32)).toArray = N := by
        have : Z.toList.drop (0 + 32) = [] := List.drop_of_length_le (by have := HZN.out; simp; omega)
        rw [this, hN, hh, Lp]
        simp [H32.A, partH]
   obtain ⟨HRow, HNe⟩ := l2h hrow hN
   have HNS := lh (show (Tryz.prog.info? 27).map (·.size) = some N.size by rw [hN]; exact ph.info)
   have hNn : N.size = 32 := by rw [hN]; exact ph.size
   have hmin : Nat.min PT.size 32 = 32 := by show min PT.size 32 = 32; omega
   have hfit : 0 + 32 ≤ Z.size := by rw [HZN.out]; omega
   have HPT := lh hPT.symm
   clear hrow hN hPT Lp
   go_wp2_with fail
   rw [HLIT.out]
   obtain ⟨wz, hwz⟩ := nXe (wr.alloc (.cells Z 27))
   rw [← hwz]
   have hbz : Below wr.heap.size wr wz := by rw [hwz]; exact bAx
   have HZz := lh (show wz.heap[wr.heap.size]? = some (.cells Z 27 (0, 0)) by rw [hwz]; exact AL _ _)
   clear hwz
   have HBz := lh hbz
   clear hbz
   have hT32 : 32 ≤ T.size := by omega
   have hn32 : ¬ 32 * ((j : Int) + 1) < 32 := by omega
   have Mk : (32 : Int) ≤ 32 * ((j : Int) + 1) := by omega
   refine wp_region_noPanic ?_
   refine Wr.BJ (S := (fun W => W.heap[wr.heap.size]? = some (.cells Z 27 (0, 0)))) (K := [3]) (by kernel_rfl) ?_
   change Wr.Aq _ _ _ _ _ _ _ _ _ (World.drew wz)
   have hBL0 : Below wr.heap.size wr (World.drew wz) := Bl.drew HBz.out
   have hS0 : (World.drew wz).heap[wr.heap.size]? = some (.cells Z 27 (0, 0)) := HZz.out
   refine Wr.Ar (i := 0) (v := ?_) rfl (by kernel_rfl) (fun _ _ _ h => h) (Or.inl ⟨by rfl, ?_⟩) hS0 ?_
   rotate_left
   ·intro wq _
    go_simp
    rfl
   simp only [Act.put, sxx]
   refine Wr.Ar (i := 1) (v := ?_) rfl (by kernel_rfl) (fun _ _ _ h => h) (Or.inl ⟨by rfl, ?_⟩) hS0 ?_
   rotate_left
   ·intro wq _
    go_simp
    rfl
   simp only [Act.put, sxx]
   refine Wr.Ar (i := 2) (v := ?_) rfl (by kernel_rfl) (fun _ _ _ h => h) (Or.inl ⟨by rfl, ?_⟩) hS0 ?_
   rotate_left
   ·intro wq _
    have hpt := HPT.out
    go_simp
    rfl
   simp only [Act.put, sxx]
   refine Wr.Bz (i := 3) (by kernel_rfl) (by kernel_rfl) ?_
   refine WrC.Bp rfl (by rfl) (.tmp 39) (.tmp 41) _ _ rfl _ underlying78 (by kernel_rfl) wr.heap.size 0 32 32 PT rfl rfl _ _ hS0 32 (hmin) (hfit) ?_
   intro u2 hw_u2
   have hBL1 : Below wr.heap.size wr u2 := by rw [hw_u2.out]; exact AQ hBL0 nR _
   simp only [Act.put, sxx]
   refine Wr.Ai (by kernel_rfl) (NoPanic.normal ?_) _
   rw [HRow.out] at hw_u2
   have HX2 := lh (show u2.heap[wr.heap.size]? = some (.cells N 27 (0, 0)) by rw [hw_u2.out]; exact AR hS0)
   have hb : Below wr.heap.size wr u2 := by rw [hw_u2.out]; exact AQ hBL0 nR _
   have HA2 := lh (HA.out.below hb)
   clear hw_u2 hb hS0 hBL0 hBL1 MP
   have hXb : bl (T.extract 32 T.size) = (bl T).drop 32 := by rw [Aj, List.take_of_length_le (by rw [List.length_drop, AP]; omega)]
   rw [hTs] at hXb
   have HXb := lh hXb
   have hll := hlk.out
   clear hXb
   go_wp2_with (first | (refine wpList_load_row rfl _ _ rfl wr.heap.size rfl _ N (0, 0) _ HX2.out underlying27 rfl HNS.out ?_) | (at_builtin; rw [F5 N hNn]; go_must (refine Bi tyHs hF HA2.out ph rfl _ _ rfl rfl N (by rw [HNe.out]; rfl) _ rfl (by first | rfl | simp) ?hl ?hb ?go)))
   case hl => unfold maxLen; omega
   case hb => omega
   case go =>
   intro v3 w9 A3
   have HA3 := lh A3
   clear A3
   go_wp2
   go_roundw
   case rel =>
        have hlen : (bl (T.extract 32 (32 * (j + 1)))).length = 32 * j := by rw [HXb.out, List.length_drop]; omega
        refine ⟨j, _, _, _, hlen, rfl, rfl, by omega, HA3.out, lh (by rw [List.length_append]; simp; omega), lh ?_⟩
        have h1 := hp.out
        rw [DF] at h1
        rw [← h1, List.append_assoc]
        congr 2
        have : ∀ (a b : List UInt8) (e : a = b) (ha : a.length = 32 * j) (hb : b.length = 32 * j), DF j a ha = DF j b hb := fun a b e ha hb => by subst e; rfl
        exact congrArg (List.cons _) (this _ _ HXb.out _ _)
   case measure => simp; omega
theorem Fa (w : World) (rt : H32) (n : Nat) (text sig : ByteArray) (hn : n ≤ 7) (ht : text.size ≤ 140737488351232) (hs : sig.size ≤ maxLen) :
 Calls Tryz.prog 63 #[.agg rt.A, .int .i64 n, .string text, .string sig] w (RB (.int .i64 (verify rt.l n (bl text) (bl sig))) w) := by
 unfold verify
 cases hb : sigB n (bl sig)
 ·rw [if_neg (by simp)]
  have hP := fun w => RkP.KT w n sig hn hs hb
  have HP := lh hP
  clear hP hb hs ht
  obtain ⟨p, hp⟩ := nXe (rt.A)
  rw [← hp]
  clear hp
  obtain ⟨w0, hw0⟩ := nXe (w.alloc (.cells p 27))
  have HB0 := lh (show Below w.heap.size w w0 by rw [hw0]; exact bAx)
  have HW0 := lh hw0
  clear hw0
  go_enter func63, ntmps63
  go_wp2_with fail
  rw [← HW0.out]
  refine (HP.out w0).mono ?_
  rintro e w1 ⟨rfl, hb⟩
  have HB1 := tbB HB0 hb
  clear hb
  go_wp2
  go_ret
  exact ⟨rfl, HB1.out⟩
 ·rw [if_pos rfl]
  unfold sigB at hb
  simp only [Bool.and_eq_true, decide_eq_true_eq, AP] at hb
  exact Jg w rt n text sig hn ht hb.1 hb.2
end RkV
namespace RkJ
open Go Go.RowKit Go.Shelf Steps RowsX Lift KeyS KeyA TreeA ShaA BookA BookB BookD BkR BkC BkF RkH RkI
theorem Fa (w : World) (v : Value) (L : List Gr') (sv at' : Int) (text sig : ByteArray) (hv : Sl w v 36 L.length (L.flatMap Gr'.cs)) (ht : text.size ≤ 140737488351232) (hs : sig.size ≤ maxLen) :
 Calls Tryz.prog 39 #[v, .int .i64 sv, .int .i64 at', .string text, .string sig] w (RB (.int .i64 (BF L sv at' (bl text) (bl sig))) w) := by
 have hF := Ko w v L sv at' hv
 unfold findG Ib at hF
 unfold BF
 cases hbk : EE L
 ·rw [hbk] at hF
  rw [if_neg (by simp), if_neg (by simp)] at hF
  rw [if_neg (by simp)]
  obtain ⟨C, hC⟩ := nXe (Fg.A)
  rw [← hC] at hF
  have HCS := lh (show (Tryz.prog.info? 47).map (·.size) = some C.size by rw [hC]; exact DY _)
  have HCN := lh (show 36 = C.size by rw [hC]; exact (DX _).symm)
  have HCO := lh (show C.all (·.oneCell') = true by rw [hC]; kernel_rfl)
  have HF := lh hF
  clear hF hC hv hbk
  go_enter func39, ntmps39
  go_wp2_with fail
  refine HF.out.mono ?_
  rintro e w1 ⟨rfl, hb⟩
  have HB1 := lh hb
  clear hb
  go_wp2_with (first | (refine AC rfl _ _ _ rfl w1.heap.size C rfl rfl _ _ (AL _ _) HCS.out (by rw [← HCN.out]; rfl) HCO.out ?_) | fail)
  intro u1 hu1
  have HB2 := lh (show Below w.heap.size w u1 by rw [hu1.out]; exact AQ (HB1.out.alloc HB1.out.size _) HB1.out.size _)
  clear hu1
  go_wp2
  go_ret
  exact ⟨rfl, HB2.out⟩
 ·rw [hbk] at hF
  rw [if_pos rfl, if_pos rfl] at hF
  rw [if_pos rfl]
  cases hfd : L.find? (Bt · sv at') with
  | none =>
    rw [hfd] at hF
    replace hF : Calls Tryz.prog 62 #[v, .int .i64 sv, .int .i64 at'] w (RB (.tuple #[.agg Fg.A, .int .i64 3]) w) := hF
    show Calls _ _ _ _ (RB (.int .i64 3) w)
    obtain ⟨C, hC⟩ := nXe (Fg.A)
    rw [← hC] at hF
    have HCS := lh (show (Tryz.prog.info? 47).map (·.size) = some C.size by rw [hC]; exact DY _)
    have HCN := lh (show 36 = C.size by rw [hC]; exact (DX _).symm)
    have HCO := lh (show C.all (·.oneCell') = true by rw [hC]; kernel_rfl)
    have HF := lh hF
    clear hF hC hv hbk hfd
    go_enter func39, ntmps39
    go_wp2_with fail
    refine HF.out.mono ?_
    rintro e w1 ⟨rfl, hb⟩
    have HB1 := lh hb
    clear hb
    go_wp2_with (first | (refine AC rfl _ _ _ rfl w1.heap.size C rfl rfl _ _ (AL _ _) HCS.out (by rw [← HCN.out]; rfl) HCO.out ?_) | fail)
    intro u1 hu1
    have HB2 := lh (show Below w.heap.size w u1 by rw [hu1.out]; exact AQ (HB1.out.alloc HB1.out.size _) HB1.out.size _)
    clear hu1
    go_wp2
    go_ret
    exact ⟨rfl, HB2.out⟩
  | some g =>
    rw [hfd] at hF
    replace hF : Calls Tryz.prog 62 #[v, .int .i64 sv, .int .i64 at'] w (RB (.tuple #[.agg g.A, .int .i64 0]) w) := hF
    show Calls _ _ _ _ (RB (.int .i64 (verify g.rt.l g.hi.toNat (bl text) (bl sig))) w)
    have hg := book_right hbk (List.mem_of_find?_eq_some hfd)
    obtain ⟨n, hnn⟩ := nXe (g.hi.toNat)
    have hn : g.hi = (n : Int) := by have := hg.h0; omega
    rw [← hnn]
    clear hnn
    have h7 : n ≤ 7 := by have := hg.h1; omega
    have hV := fun w => RkV.Fa w g.rt n text sig h7 ht hs
    obtain ⟨res, hres⟩ : ∃ r : Int, r = verify g.rt.l n (bl text) (bl sig) := ⟨_, rfl⟩
    rw [← hres] at hV ⊢
    obtain ⟨C, hC⟩ := nXe (g.A)
    obtain ⟨R, hR⟩ := nXe (g.rt.A)
    rw [← hC] at hF
    rw [← hR] at hV
    have c3 : C[3]? = some (.int .i64 (n : Int)) := by rw [hC, ← hn]; exact g.c3
    have HR4 := lh (show ∀ (j : Nat) (u : Value), R.toList[j]? = some u → C[4 + j]? = some u from fun j u h => by
        rw [hC]
        rw [hR] at h
        unfold Gr'.A Gr'.cs
        rw [List.getElem?_toArray, List.getElem?_append_right (by simp), ← h]
        simp [H32.A])
    have HRS := lh (show (Tryz.prog.info? 27).map (·.size) = some R.size by rw [hR]; exact H32.info _)
    have HCS := lh (show (Tryz.prog.info? 47).map (·.size) = some C.size by rw [hC]; exact DY _)
    have HCN := lh (show 36 = C.size by rw [hC]; exact (DX _).symm)
    have HCO := lh (show C.all (·.oneCell') = true by
        rw [hC, Array.all_eq_true_iff_forall_mem]
        intro u hu
        exact grF.one g u (by simpa [Gr'.A] using hu))
    obtain ⟨HF, HV⟩ := l2h hF hV
    clear hF hV hC hR hv hfd hbk hres hs ht hn hg
    go_enter func39, ntmps39
    go_wp2_with fail
    refine HF.out.mono ?_
    rintro e w1 ⟨rfl, hb⟩
    have HB1 := lh hb
    clear hb
    go_wp2_with (first | (refine AC rfl _ _ _ rfl w1.heap.size C rfl rfl _ _ (AL _ _) HCS.out (by rw [← HCN.out]; rfl) HCO.out ?_) | fail)
    intro u1 hu1
    have HB2 := lh (show Below w.heap.size w u1 by rw [hu1.out]; exact AQ (HB1.out.alloc HB1.out.size _) HB1.out.size _)
    have HX2 := lh (show u1.heap[w1.heap.size]? = some (.cells C 47 (0, 0)) by rw [hu1.out]; exact AR (AL _ _))
    clear hu1
    have hc3 : u1.cell? ⟨w1.heap.size, 3, none⟩ = some (.int .i64 (n : Int)) := by rw [AO HX2.out]; exact c3
    have Hc4 := lh (show ∀ (j : Nat) (u : Value), R.toList[j]? = some u → u1.cell? ⟨w1.heap.size, 4 + j, none⟩ = some u from fun j u h => by rw [AO HX2.out]; exact HR4.out j u h)
    go_wp2_with (first | (refine Af rfl _ _ rfl w1.heap.size 4 rfl R Hc4.out underlying27 rfl HRS.out ?_) | fail)
    refine (HV.out u1).mono ?_
    rintro e w3 ⟨rfl, hb⟩
    have HB3 := tbB HB2 hb
    clear hb
    go_wp2
    go_ret
    exact ⟨rfl, HB3.out⟩
end RkJ
end Go.Proofs.YtadofbbpfgmclaaGreatDoor
