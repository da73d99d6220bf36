/-
  WHAT IS PROVED: contracts and plain laws. Condition: each names its own.
-/
import Derived.Test.YtceiajepcokacaaGreatDoorS0
import Derived.Test.YtceiajepcokacaaGreatDoorZHF15
set_option linter.unusedVariables false
set_option linter.unusedSimpArgs false
set_option maxRecDepth 100000
set_option maxHeartbeats 4000000
namespace Go.Proofs.YtceiajepcokacaaGreatDoor
open Go.Proofs.Tryz
namespace SnG
open Go Go.RowKit Go.ChangeMaps OctetS ShaS EntS WireS WireT Steps SnK SnT SnM SnF
theorem hash_eq {s1 s2 : List UInt8} (h1 : s1.length = 32) (h2 : s2.length = 32) (w : World) : (Op.equalIn 10000 44 (.agg (byV s1).toArray) (.agg (byV s2).toArray)).run Tryz.prog w = .ok (decide (s1 = s2)) w := by
 rw [EqEnt.pB_of h1, EqEnt.pB_of h2, EqHash.UJ]
 congr 1
 rw [Bool.eq_iff_iff, EqHash.hEq_iff h1 h2]
 simp
theorem OL (sm : List UInt8) (t s : ByteArray) {j : Nat} {u : Value} (h : (byV sm).toArray.toList[j]? = some u) : (Dx sm t s)[j]? = some u := by
 have h' : (byV sm)[j]? = some u := h
 unfold Dx
 rw [List.getElem?_toArray, List.getElem?_append_left (List.getElem?_eq_some_iff.1 h').1]
 exact h'
theorem Aq {P : Program} {ops : Array Oper} {rest : List Oper} {o : Oper} {a : Act} {w : World} {Q : Exit → Act → World → Prop} (hw : Region.wanted o (yielded ops a.tmps) = true) (ty : TypeId) (x : Operand) (ho : o.op = .load ty x) (b off : Nat) (hx : a.eval x = .pointer (some ⟨b, off, none⟩)) (cs : Array Value)
 (hc : ∀ j v, cs.toList[j]? = some v → w.cell? ⟨b, off + j, none⟩ = some v) {d : TypeDesc}
 (hu : P.underlying ty = some d) (hd : (match d with | .struct _ | .array _ _ => true | _ => false) = true) (hi : (P.info? ty).map (·.size) = some cs.size) (h : wpList P ops Q rest (a.put o.dst (.agg cs)) w) : wpList P ops Q (o :: rest) a w := by
 unfold wpList
 rw [if_pos hw]
 exact .inl (Lift.Gv ty x ho b off hx cs hc hu hd hi h)
def setP (w : World) (B : Nat) (v0 v1 v2 v3 v4 : Value) : World := ((((w.setCell ⟨B, 0, none⟩ v0).setCell ⟨B, 1, none⟩ v1).setCell ⟨B, 2, none⟩ v2).setCell ⟨B, 3, none⟩ v3).setCell ⟨B, 4, none⟩ v4
theorem Cj {w : World} {B : Nat} {x0 x1 x2 x3 x4 : Value} {t : TypeId} (h : w.heap[B]? = some (.cells #[x0, x1, x2, x3, x4] t (0, 0))) (v0 v1 v2 v3 v4 : Value) :
 (setP w B v0 v1 v2 v3 v4).heap[B]? = some (.cells #[v0, v1, v2, v3, v4] t (0, 0)) :=
 heap_setCell_same (heap_setCell_same (heap_setCell_same (heap_setCell_same (heap_setCell_same h v0) v1) v2) v3) v4
theorem Bi {S : Nat → Prop} {a w : World} {B : Nat} (h : Ext S a w) (hB : S B ∨ a.heap.size ≤ B) (v0 v1 v2 v3 v4 : Value) : Ext S a (setP w B v0 v1 v2 v3 v4) :=
 ((((h.setCell (p := ⟨B, 0, none⟩) hB v0).setCell (p := ⟨B, 1, none⟩) hB v1).setCell (p := ⟨B, 2, none⟩) hB v2).setCell (p := ⟨B, 3, none⟩) hB v3).setCell (p := ⟨B, 4, none⟩) hB v4
theorem U2 (w : World) (S m : Nat) (bv : Value) (L : List Sn) (sv : Int) (h : Hd) (text sig : ByteArray) (hs : SnAt w S m bv L) (hk : WfH sv h) (hL : L.length ≤ 1000) :
 Calls Tryz.prog 25 #[.pointer (some ⟨S, 0, none⟩), .agg (Eo sv h.ep h.ix (bsOf h.room)), .agg (Dx h.sum text sig)] w fun e w' => e = .returned (.tuple #[.agg (DI L sv h text sig).p, .bool (DI L sv h text sig).is, .int .i64 (DI L sv h text sig).y]) ∧ SnAt w' S m bv (DI L sv h text sig).l ∧ Ext (fun k => k = m) w w' := by
 have hne := hs.ne
 have lS := AJ hs.blk
 have lm := AJ hs.mp
 have hlk := fun (wq : World) (hq : wq.heap[m]? = some (.map (M6 L) L.length)) => look_ok hq hs.wf hs.uniq hk
 have hup := fun (wq : World) (hq : wq.heap[m]? = some (.map (M6 L) L.length)) (hf : first L sv h = none) => Wh (text := text) (sig := sig) hq hs.wf hk hf
 simp only [Pn] at hlk
 have hM := RQ (sv := sv) (h := h) hs.wf
 have hsm := hk.sum
 obtain ⟨G, hG⟩ := nXe (VL L sv h)
 have hGn : G.size = 34 := by rw [hG]; exact NI hM _ _
 have HGS := lh (show (Tryz.prog.info? 79).map (·.size) = some G.size by rw [hGn]; kernel_rfl)
 have HGN := lh hGn
 have HGO := lh (show G.all (·.oneCell') = true by rw [hG]; exact Nc _ _ _)
 have Yw : G[32]? = some (.string (gotT L sv h)) := by rw [hG]; exact Oj hM _ _
 have Yv : G[33]? = some (.string (R6 L sv h)) := by rw [hG]; exact Qv hM _ _
 obtain ⟨D, hD⟩ := nXe (Dx h.sum text sig)
 have hDn : D.size = 34 := by rw [hD]; exact NI hsm _ _
 have HDS := lh (show (Tryz.prog.info? 79).map (·.size) = some D.size by rw [hDn]; kernel_rfl)
 have HDN := lh hDn
 have HDO := lh (show D.all (·.oneCell') = true by rw [hD]; exact Nc _ _ _)
 have Yy : D[32]? = some (.string text) := by rw [hD]; exact Oj hsm _ _
 have Yx : D[33]? = some (.string sig) := by rw [hD]; exact Qv hsm _ _
 obtain ⟨M1, hM1⟩ : ∃ M : Array Value, M = (byV (P7 L sv h)).toArray := ⟨_, rfl⟩
 obtain ⟨M2, hM2⟩ : ∃ M : Array Value, M = (byV h.sum).toArray := ⟨_, rfl⟩
 have HM1S := lh (show (Tryz.prog.info? 44).map (·.size) = some M1.size by rw [show M1.size = 32 by rw [hM1]; simp [AZ, hM]]; kernel_rfl)
 have HM2S := lh (show (Tryz.prog.info? 44).map (·.size) = some M2.size by rw [show M2.size = 32 by rw [hM2]; simp [AZ, hsm]]; kernel_rfl)
 have hG0 : ∀ (j : Nat) (u : Value), M1.toList[j]? = some u → G[j]? = some u := fun j u hu => by rw [hM1] at hu; rw [hG]; exact OL _ _ _ hu
 have hD0 : ∀ (j : Nat) (u : Value), M2.toList[j]? = some u → D[j]? = some u := fun j u hu => by rw [hM2] at hu; rw [hD]; exact OL _ _ _ hu
 have hqs : ∀ w, (Op.equalIn 10000 44 (.agg M1) (.agg M2)).run Tryz.prog w = .ok (decide (P7 L sv h = h.sum)) w := fun w => by rw [hM1, hM2]; exact hash_eq hM hsm w
 have HQS := lh hqs
 rw [← hG] at hlk
 rw [← hD] at hup ⊢
 unfold NE at hlk hup
 unfold Eo at hlk hup ⊢
 obtain ⟨R, hR⟩ := nXe (bsOf h.room)
 obtain ⟨ep, hep⟩ := nXe (h.ep)
 obtain ⟨ix, hix⟩ := nXe (h.ix)
 rw [← hR, ← hep, ← hix] at hlk hup ⊢
 obtain ⟨b, hb⟩ := nXe ((first L sv h).isSome)
 rw [← hb] at hlk
 obtain ⟨HLK, HUP, HB, HS, HK, HG0, HD0, Vo, dI⟩ := l9h hlk hup hb hs hk hG0 hD0 Yw Yv
 obtain ⟨dK, dJ⟩ := l2h Yy Yx
 obtain ⟨O, hO⟩ := nXe (DI L sv h text sig)
 rw [← hO]
 have HO := lh hO
 obtain ⟨w0, hw0⟩ := nXe (((w.alloc (.cells #[.int .i64 sv, .string R, .int .i64 ep, .int .i64 ix] 77)).alloc (.cells D 79)).alloc (.cells #[.int .i64 0, .string ⟨#[]⟩, .string ⟨#[]⟩, .string ⟨#[]⟩, .string ⟨#[]⟩] 37))
 have hb0 : Below w.heap.size w w0 := by rw [hw0]; exact Bl.new (Bl.new (Bl.new (Below.refl _ _) _) _) _
 have hx0 : w0.heap[w.heap.size]? = some (.cells #[.int .i64 sv, .string R, .int .i64 ep, .int .i64 ix] 77 (0, 0)) := by rw [hw0]; exact Ak (Ak (AL _ _) _) _
 have hy0 : w0.heap[w.heap.size + 1]? = some (.cells D 79 (0, 0)) := by rw [hw0]; exact Ak (Ad _ (by simp)) _
 have hz0 : w0.heap[w.heap.size + 2]? = some (.cells #[.int .i64 0, .string ⟨#[]⟩, .string ⟨#[]⟩, .string ⟨#[]⟩, .string ⟨#[]⟩] 37 (0, 0)) := by rw [hw0]; exact Ad _ (by simp)
 have hs0 : w0.heap.size = w.heap.size + 3 := by rw [hw0]; simp
 have hS0 : (w0.drew).heap[S]? = some (.cells #[bv, .map (some m)] 73 (0, 0)) ∧ (w0.drew).heap[m]? = some (.map (M6 L) L.length) ∧ (w0.drew).heap[w.heap.size]? = some (.cells #[.int .i64 sv, .string R, .int .i64 ep, .int .i64 ix] 77 (0, 0)) := ⟨(hb0.block _ lS).trans hs.blk, (hb0.block _ lm).trans hs.mp, hx0⟩
 obtain ⟨HW0, HB0, HY0, HZ0⟩ := l4h hw0 hb0 hy0 hz0
 clear hs hk hlk hup hM hsm hG hGn hD hDn hM1 hM2 hG0 hD0 hqs hR hep hix hb hO hw0 hb0 hx0 hy0 hz0 Yw Yv Yy Yx
 go_enter func25, ntmps25
 go_wp2_with fail
 rw [← HW0.out]
 refine wp_region_noPanic ?_
 refine wp_region_held (S := (fun W => W.heap[S]? = some (.cells #[bv, .map (some m)] 73 (0, 0)) ∧ W.heap[m]? = some (.map (M6 L) L.length) ∧ W.heap[w.heap.size]? = some (.cells #[.int .i64 sv, .string R, .int .i64 ep, .int .i64 ix] 77 (0, 0)))) (by kernel_rfl) ?_
 change wpAnyH _ _ _ _ _ _ _ _ (World.drew w0)
 refine tkJ 0 ?_ ?_ hS0 ?_
 rotate_left
 ·intro wq hSw
  obtain ⟨q0, q1, q2⟩ := hSw
  obtain ⟨qc0, qf0⟩ := AA q0
  obtain ⟨qc2, qf2⟩ := AA q2
  go_simp
  rfl
 simp only [sq]
 refine tkJ 1 ?_ ?_ hS0 ?_
 rotate_left
 ·intro wq hSw
  obtain ⟨q0, q1, q2⟩ := hSw
  obtain ⟨qc0, qf0⟩ := AA q0
  obtain ⟨qc2, qf2⟩ := AA q2
  go_simp
  rfl
 simp only [sq]
 refine tkJ 2 ?_ ?_ hS0 ?_
 rotate_left
 ·intro wq hSw
  obtain ⟨q0, q1, q2⟩ := hSw
  obtain ⟨qc0, qf0⟩ := AA q0
  obtain ⟨qc2, qf2⟩ := AA q2
  go_simp
  rfl
 simp only [sq]
 refine tkJ 3 ?_ ?_ hS0 ?_
 rotate_left
 ·intro wq hSw
  obtain ⟨q0, q1, q2⟩ := hSw
  obtain ⟨qc0, qf0⟩ := AA q0
  obtain ⟨qc2, qf2⟩ := AA q2
  go_simp
  rfl
 simp only [sq]
 refine tkJ 4 ?_ ?_ hS0 ?_
 rotate_left
 ·intro wq hSw
  obtain ⟨q0, q1, q2⟩ := hSw
  obtain ⟨qc0, qf0⟩ := AA q0
  obtain ⟨qc2, qf2⟩ := AA q2
  go_simp
  rfl
 simp only [sq]
 refine tkJ 5 ?_ ?_ hS0 ?_
 rotate_left
 ·intro wq hSw
  obtain ⟨q0, q1, q2⟩ := hSw
  obtain ⟨qc0, qf0⟩ := AA q0
  obtain ⟨qc2, qf2⟩ := AA q2
  have hz := HLK.out wq q1
  go_simp
  rfl
 simp only [sq]
 refine tkJ 6 ?_ ?_ hS0 ?_
 rotate_left
 ·intro wq hSw
  obtain ⟨q0, q1, q2⟩ := hSw
  obtain ⟨qc0, qf0⟩ := AA q0
  obtain ⟨qc2, qf2⟩ := AA q2
  go_simp
  rfl
 simp only [sq]
 refine tkJ 7 ?_ ?_ hS0 ?_
 rotate_left
 ·intro wq hSw
  obtain ⟨q0, q1, q2⟩ := hSw
  obtain ⟨qc0, qf0⟩ := AA q0
  obtain ⟨qc2, qf2⟩ := AA q2
  go_simp
  rfl
 simp only [sq]
 refine tkJ 8 ?_ ?_ hS0 ?_
 rotate_left
 ·intro wq hSw
  obtain ⟨q0, q1, q2⟩ := hSw
  obtain ⟨qc0, qf0⟩ := AA q0
  obtain ⟨qc2, qf2⟩ := AA q2
  go_simp
  rfl
 simp only [sq]
 refine aOne (r := 9) ?_
 refine Ap rfl (by rfl) (w' := w0.drew.alloc (.cells zL6 79)) (v := .pointer (some ⟨w0.heap.size, 0, none⟩)) (by go_simp; first | done | rfl) ?_
 obtain ⟨w1, hw1⟩ := nXe (w0.drew.alloc (.cells zL6 79))
 have hb1 : Below w0.heap.size w0 w1 := by rw [hw1]; exact (Bl.drew (Below.refl _ _)).alloc nR _
 have hn1 : w1.heap[w0.heap.size]? = some (.cells #[.int .u8 0, .int .u8 0, .int .u8 0, .int .u8 0, .int .u8 0, .int .u8 0, .int .u8 0, .int .u8 0, .int .u8 0, .int .u8 0, .int .u8 0, .int .u8 0, .int .u8 0, .int .u8 0, .int .u8 0, .int .u8 0, .int .u8 0, .int .u8 0, .int .u8 0, .int .u8 0, .int .u8 0, .int .u8 0, .int .u8 0, .int .u8 0, .int .u8 0, .int .u8 0, .int .u8 0, .int .u8 0, .int .u8 0, .int .u8 0, .int .u8 0, .int .u8 0, .string ⟨#[]⟩, .string ⟨#[]⟩] 79 (0, 0)) := by rw [hw1]; exact Ad _ rfl
 rw [← hw1]
 have hS1 : w1.heap[S]? = some (.cells #[bv, .map (some m)] 73 (0, 0)) ∧ w1.heap[m]? = some (.map (M6 L) L.length) ∧ w1.heap[w.heap.size]? = some (.cells #[.int .i64 sv, .string R, .int .i64 ep, .int .i64 ix] 77 (0, 0)) := ⟨(hb1.block _ (AJ hS0.1)).trans hS0.1, (hb1.block _ (AJ hS0.2.1)).trans hS0.2.1, (hb1.block _ (AJ hS0.2.2)).trans hS0.2.2⟩
 have HB1 := lh hb1
 refine ⟨hS1, ?_⟩
 simp only [sq]
 refine aOne (r := 10) ?_
 refine WrC.BM rfl (by rfl) 79 _ _ rfl w0.heap.size G rfl rfl _ _ hn1 HGS.out (by rw [HGN.out]; rfl) HGO.out ?_
 intro w2 hw2
 have hn2 : w2.heap[w0.heap.size]? = some (.cells G 79 (0, 0)) := by rw [hw2.out]; exact AR hn1
 have hb2 : Below w0.heap.size w0 w2 := by rw [hw2.out]; exact AQ HB1.out nR _
 have hS2 : w2.heap[S]? = some (.cells #[bv, .map (some m)] 73 (0, 0)) ∧ w2.heap[m]? = some (.map (M6 L) L.length) ∧ w2.heap[w.heap.size]? = some (.cells #[.int .i64 sv, .string R, .int .i64 ep, .int .i64 ix] 77 (0, 0)) := ⟨(hb2.block _ (AJ hS0.1)).trans hS0.1, (hb2.block _ (AJ hS0.2.1)).trans hS0.2.1, (hb2.block _ (AJ hS0.2.2)).trans hS0.2.2⟩
 obtain ⟨HB2, HN2⟩ := l2h hb2 hn2
 refine ⟨hS2, ?_⟩
 simp only [sq]
 refine tkJ 11 ?_ ?_ hS2 ?_
 rotate_left
 ·intro wq hSw
  obtain ⟨q0, q1, q2⟩ := hSw
  obtain ⟨qc0, qf0⟩ := AA q0
  obtain ⟨qc2, qf2⟩ := AA q2
  go_simp
  rfl
 simp only [sq]
 refine wpAnyH_done (by kernel_rfl) (NoPanic.normal ?_) _
 have HS2 := lh hS2
 obtain ⟨s0, Yj⟩ : ∃ x, x = w0.heap.size := ⟨_, rfl⟩
 rw [← Yj] at HB2 HN2 ⊢
 have hsz2 : w.heap.size + 3 = s0 := by omega
 clear hS2 hS1 hS0 hn1 hn2 hb1 hb2 hw1 hw2 HB1 Yj
 have VF := HS2.out.1
 have VE := HS2.out.2.2
 obtain ⟨a0, a1⟩ := AA VF
 obtain ⟨c0, c1⟩ := AA VE
 have HY2 := lh ((HB2.out.block _ (show w.heap.size + 1 < s0 by omega)).trans HY0.out)
 have HZ2 := lh ((HB2.out.block _ (show w.heap.size + 2 < s0 by omega)).trans HZ0.out)
 have HGc := lh (show ∀ (j : Nat) (u : Value), M1.toList[j]? = some u → w2.cell? ⟨s0, 0 + j, none⟩ = some u from fun j u hu => by rw [Nat.zero_add]; exact (AO HN2.out).trans (HG0.out j u hu))
 have HDc := lh (show ∀ (j : Nat) (u : Value), M2.toList[j]? = some u → w2.cell? ⟨w.heap.size + 1, 0 + j, none⟩ = some u from fun j u hu => by rw [Nat.zero_add]; exact (AO HY2.out).trans (HD0.out j u hu))
 have g32 : w2.cell? ⟨s0, 32, none⟩ = some (.string (gotT L sv h)) := (AO HN2.out).trans Vo.out
 have g33 : w2.cell? ⟨s0, 33, none⟩ = some (.string (R6 L sv h)) := (AO HN2.out).trans dI.out
 have d32 : w2.cell? ⟨w.heap.size + 1, 32, none⟩ = some (.string text) := (AO HY2.out).trans dK.out
 have d33 : w2.cell? ⟨w.heap.size + 1, 33, none⟩ = some (.string sig) := (AO HY2.out).trans dJ.out
 obtain ⟨z0, z1⟩ := AA HZ2.out
 have hGS := EqHash.D8
 have hqs := HQS.out
 cases hf : first L sv h with
 | some x =>
   have hb : b = true := by rw [HB.out, hf]; rfl
   subst hb
   have eM : P7 L sv h = x.h.sum := by unfold P7; rw [hf]
   have eT : gotT L sv h = x.text := by unfold gotT; rw [hf]
   have eS : R6 L sv h = x.sig := by unfold R6; rw [hf]
   rw [eM] at hqs
   rw [eT] at g32
   rw [eS] at g33
   by_cases he : x.h.sum = h.sum
   ·have hO2 : O = ⟨L, pfZ, false, 0⟩ := by rw [HO.out]; unfold DI; rw [hf]; simp [he]
    rw [dT he] at hqs
    clear VF VE
    go_wp2_with (first | (guard_target =~ wpList _ _ _ (Oper.mk _ (Op.load 44 _) _ _ _ _ :: _) _ _; refine Aq (by kernel_rfl) 44 _ rfl s0 0 rfl M1 HGc.out underlying44 rfl HM1S.out ?_) | (guard_target =~ wpList _ _ _ (Oper.mk _ (Op.load 44 _) _ _ _ _ :: _) _ _; refine Aq (by kernel_rfl) 44 _ rfl (w.heap.size + 1) 0 rfl M2 HDc.out underlying44 rfl HM2S.out ?_))
    change bodyPost _ _ _ _ _ (setP w2 (w.heap.size + 2) (.int .i64 0) (.string ⟨#[]⟩) (.string ⟨#[]⟩) (.string ⟨#[]⟩) (.string ⟨#[]⟩))
    obtain ⟨wF, hwF⟩ := nXe (setP w2 (w.heap.size + 2) (.int .i64 0) (.string ⟨#[]⟩) (.string ⟨#[]⟩) (.string ⟨#[]⟩) (.string ⟨#[]⟩))
    rw [← hwF]
    have hF : wF.heap[w.heap.size + 2]? = some (.cells #[.int .i64 0, .string ⟨#[]⟩, .string ⟨#[]⟩, .string ⟨#[]⟩, .string ⟨#[]⟩] 37 (0, 0)) := by rw [hwF]; exact Cj HZ2.out _ _ _ _ _
    have hEF : Ext (fun k => k = w.heap.size + 2) w2 wF := by rw [hwF]; exact Bi (S := fun k => k = w.heap.size + 2) (Ext.refl _ _) (.inl rfl) _ _ _ _ _
    have HEF := lh hEF
    obtain ⟨cF, fF⟩ := AA hF
    clear hwF hEF hF
    refine bodyPost_ret (v := .tuple #[.agg #[.int .i64 0, .string ⟨#[]⟩, .string ⟨#[]⟩, .string ⟨#[]⟩, .string ⟨#[]⟩], .bool false, .int .i64 0]) (by simp [results, Tryz.results25, go_sem, cF, fF]; done) rfl ?_
    have hE2 := Ext.of_below (S := fun _ => False) (HB0.out.trans (HB2.out.mono (by omega)))
    have hE3 := hE2.step HEF.out (fun k hk e => by omega)
    rw [hO2]
    exact ⟨rfl, SnAt.ext HS.out hE3 (fun e => e) (fun e => e), hE3.mono (fun k _ h => h.elim)⟩
   ·have hO2 : O = ⟨L, pfA sv x.text x.sig text sig, true, 0⟩ := by rw [HO.out]; unfold DI; rw [hf]; simp [he]
    rw [dF he] at hqs
    clear VF VE
    go_wp2_with (first | (guard_target =~ wpList _ _ _ (Oper.mk _ (Op.load 44 _) _ _ _ _ :: _) _ _; refine Aq (by kernel_rfl) 44 _ rfl s0 0 rfl M1 HGc.out underlying44 rfl HM1S.out ?_) | (guard_target =~ wpList _ _ _ (Oper.mk _ (Op.load 44 _) _ _ _ _ :: _) _ _; refine Aq (by kernel_rfl) 44 _ rfl (w.heap.size + 1) 0 rfl M2 HDc.out underlying44 rfl HM2S.out ?_))
    change bodyPost _ _ _ _ _ (setP w2 (w.heap.size + 2) (.int .i64 sv) (.string x.text) (.string x.sig) (.string text) (.string sig))
    obtain ⟨wF, hwF⟩ := nXe (setP w2 (w.heap.size + 2) (.int .i64 sv) (.string x.text) (.string x.sig) (.string text) (.string sig))
    rw [← hwF]
    have hF : wF.heap[w.heap.size + 2]? = some (.cells #[.int .i64 sv, .string x.text, .string x.sig, .string text, .string sig] 37 (0, 0)) := by rw [hwF]; exact Cj HZ2.out _ _ _ _ _
    have hEF : Ext (fun k => k = w.heap.size + 2) w2 wF := by rw [hwF]; exact Bi (S := fun k => k = w.heap.size + 2) (Ext.refl _ _) (.inl rfl) _ _ _ _ _
    have HEF := lh hEF
    obtain ⟨cF, fF⟩ := AA hF
    clear hwF hEF hF
    refine bodyPost_ret (v := .tuple #[.agg #[.int .i64 sv, .string x.text, .string x.sig, .string text, .string sig], .bool true, .int .i64 0]) (by simp [results, Tryz.results25, go_sem, cF, fF]; done) rfl ?_
    have hE2 := Ext.of_below (S := fun _ => False) (HB0.out.trans (HB2.out.mono (by omega)))
    have hE3 := hE2.step HEF.out (fun k hk e => by omega)
    rw [hO2]
    exact ⟨rfl, SnAt.ext HS.out hE3 (fun e => e) (fun e => e), hE3.mono (fun k _ h => h.elim)⟩
 | none =>
   have hb : b = false := by rw [HB.out, hf]; rfl
   subst hb
   have hO2 : O = ⟨L ++ [⟨sv, h, text, sig⟩], pfZ, false, 0⟩ := by rw [HO.out]; unfold DI; rw [hf]; simp; omega
   have hlen := RJ HS2.out.2.1
   have d4 : decide ((L.length : Int) = 4096) = false := dF (by omega)
   clear VF VE
   go_wp2_with fail
   have hS7 : (w2.drew).heap[S]? = some (.cells #[bv, .map (some m)] 73 (0, 0)) ∧ (w2.drew).heap[m]? = some (.map (M6 L) L.length) ∧ (w2.drew).heap[w.heap.size]? = some (.cells #[.int .i64 sv, .string R, .int .i64 ep, .int .i64 ix] 77 (0, 0)) ∧ (w2.drew).heap[w.heap.size + 1]? = some (.cells D 79 (0, 0)) := ⟨HS2.out.1, HS2.out.2.1, HS2.out.2.2, HY2.out⟩
   clear a0 a1 c0 c1 g32 g33 d32 d33 z0 z1 hGS hqs hlen
   refine wp_region_noPanic ?_
   refine Wr.BI (S := (fun W => W.heap[S]? = some (.cells #[bv, .map (some m)] 73 (0, 0)) ∧ W.heap[m]? = some (.map (M6 L) L.length) ∧ W.heap[w.heap.size]? = some (.cells #[.int .i64 sv, .string R, .int .i64 ep, .int .i64 ix] 77 (0, 0)) ∧ W.heap[w.heap.size + 1]? = some (.cells D 79 (0, 0)))) (K := [6]) (by kernel_rfl) ?_
   change Wr.Ar _ _ _ _ _ _ _ _ _ (World.drew w2)
   refine Wr.tkE 0 ?_ ?_ hS7 ?_
   rotate_left
   ·intro wq _
    go_simp
    rfl
   simp only [sq]
   refine Wr.tkE 1 ?_ ?_ hS7 ?_
   rotate_left
   ·intro wq _
    go_simp
    rfl
   simp only [sq]
   refine Wr.tkE 2 ?_ ?_ hS7 ?_
   rotate_left
   ·intro wq _
    go_simp
    rfl
   simp only [sq]
   refine Wr.tkI 3 ?_ ?_ hS7 ?_
   rotate_left
   ·intro wq hSw
    obtain ⟨q0, q1, q2, q3⟩ := hSw
    obtain ⟨qc0, qf0⟩ := AA q0
    obtain ⟨qc2, qf2⟩ := AA q2
    go_simp
    rfl
   simp only [sq]
   refine Wr.tkI 4 ?_ ?_ hS7 ?_
   rotate_left
   ·intro wq hSw
    obtain ⟨q0, q1, q2, q3⟩ := hSw
    obtain ⟨qc0, qf0⟩ := AA q0
    obtain ⟨qc2, qf2⟩ := AA q2
    go_simp
    rfl
   simp only [sq]
   refine Wr.tkK (i := 5) (v := .agg D) rfl (.inl ⟨by rfl, fun wq hSw => EqHash.Bg 79 _ rfl (w.heap.size + 1) rfl hSw.2.2.2 underlying79 rfl HDS.out⟩) hS7 ?_
   simp only [sq]
   refine Wr.BJ (i := 6) (by kernel_rfl) (by kernel_rfl) ?_
   have hu := HUP.out w2.drew hS7.2.1 hf
   obtain ⟨E2, hE2⟩ := nXe (Obj.map (M6 (L ++ [(⟨sv, h, text, sig⟩ : Sn)])) (L ++ [(⟨sv, h, text, sig⟩ : Sn)]).length)
   rw [← hE2] at hu
   refine BO rfl (by rfl) (w' := setBlock w2.drew m E2) (by go_simp; first | done | rfl) ?_
   simp only [sq]
   refine Wr.Ag (by kernel_rfl) (NoPanic.normal ?_) _
   obtain ⟨w3, hw3⟩ := nXe (setBlock w2.drew m E2)
   rw [← hw3]
   have HP3 := lh (show w3.heap[S]? = some (.cells #[bv, .map (some m)] 73 (0, 0)) by rw [hw3, FH _ hne]; exact hS7.1)
   have HM3 := lh (show w3.heap[m]? = some (Obj.map (M6 (L ++ [(⟨sv, h, text, sig⟩ : Sn)])) (L ++ [(⟨sv, h, text, sig⟩ : Sn)]).length) by rw [hw3, ← hE2]; exact PQ _ hS7.2.1)
   have HZ3 := lh (show w3.heap[w.heap.size + 2]? = some (.cells #[.int .i64 0, .string ⟨#[]⟩, .string ⟨#[]⟩, .string ⟨#[]⟩, .string ⟨#[]⟩] 37 (0, 0)) by rw [hw3, FH _ (by omega)]; exact HZ2.out)
   have HE3 := lh (show Ext (fun k => k = m) w w3 by rw [hw3]; exact O6 ((Ext.of_below (S := fun k => k = m) (HB0.out.trans (HB2.out.mono (by omega)))).drew) (.inl rfl) _)
   obtain ⟨z0, z1⟩ := AA HZ3.out
   clear hw3 hu hE2 hS7
   go_wp2
   change bodyPost _ _ _ _ _ (setP w3 (w.heap.size + 2) (.int .i64 0) (.string ⟨#[]⟩) (.string ⟨#[]⟩) (.string ⟨#[]⟩) (.string ⟨#[]⟩))
   obtain ⟨wF, hwF⟩ := nXe (setP w3 (w.heap.size + 2) (.int .i64 0) (.string ⟨#[]⟩) (.string ⟨#[]⟩) (.string ⟨#[]⟩) (.string ⟨#[]⟩))
   rw [← hwF]
   have hF : wF.heap[w.heap.size + 2]? = some (.cells #[.int .i64 0, .string ⟨#[]⟩, .string ⟨#[]⟩, .string ⟨#[]⟩, .string ⟨#[]⟩] 37 (0, 0)) := by rw [hwF]; exact Cj HZ3.out _ _ _ _ _
   have hEF : Ext (fun k => k = w.heap.size + 2) w3 wF := by rw [hwF]; exact Bi (S := fun k => k = w.heap.size + 2) (Ext.refl _ _) (.inl rfl) _ _ _ _ _
   have HEF := lh hEF
   obtain ⟨cF, fF⟩ := AA hF
   clear hwF hEF hF
   refine bodyPost_ret (v := .tuple #[.agg #[.int .i64 0, .string ⟨#[]⟩, .string ⟨#[]⟩, .string ⟨#[]⟩, .string ⟨#[]⟩], .bool false, .int .i64 0]) (by simp [results, Tryz.results25, go_sem, cF, fF]; done) rfl ?_
   have hE4 := HE3.out.step HEF.out (fun k hk e => by omega)
   have hl3 := AJ HP3.out
   rw [hO2]
   refine ⟨rfl, ⟨HEF.out.Ai HP3.out (fun e => by omega), HEF.out.Ai HM3.out (fun e => by omega), fun y hy => ?_, ?_⟩, hE4⟩
   ·rcases List.mem_append.1 hy with hy | hy
    ·exact HS.out.wf y hy
    ·simp only [List.mem_singleton] at hy
     subst hy
     exact HK.out
   ·rw [List.pairwise_append]
    refine ⟨HS.out.uniq, List.pairwise_singleton _ _, fun y hy z hz => ?_⟩
    simp only [List.mem_singleton] at hz
    subst hz
    simpa using List.find?_eq_none.1 hf y hy
end SnG
namespace BkR
open Go Go.RowKit Go.Shelf Steps RowsX Lift KeyA TreeA BookA BookB
def Ck (sv fr to hi : Int) : Bool := decide (0 ≤ sv) && (decide (sv ≤ 63) && (decide (0 ≤ hi) && (decide (hi ≤ 7) && (decide (0 ≤ fr) && (decide (fr ≤ to) && decide (to ≤ 1099511627776))))))
def EL (g : Gr') : Bool := Ck g.sv g.fr g.to g.hi
theorem QU {g : Gr'} : EL g = true ↔ g.Right := by
 unfold EL Ck
 simp only [Bool.and_eq_true, decide_eq_true_eq]
 exact ⟨fun ⟨a, b, c, d, e, f, h⟩ => ⟨a, b, e, f, h, c, d⟩, fun h => ⟨h.s0, h.s1, h.h0, h.h1, h.f0, h.f1, h.t1⟩⟩
def apartV (s1 t1 s2 f2 : Int) : Bool := decide (s1 < s2) || ((s1 == s2) && decide (t1 < f2))
def FU (a b : Gr') : Bool := apartV a.sv a.to b.sv b.fr
theorem Ou (sv fr to hi : Int) : (sv < 0 ∧ Ck sv fr to hi = false)
 ∨ (0 ≤ sv ∧ 63 < sv ∧ Ck sv fr to hi = false)
 ∨ (0 ≤ sv ∧ sv ≤ 63 ∧ hi < 0 ∧ Ck sv fr to hi = false)
 ∨ (0 ≤ sv ∧ sv ≤ 63 ∧ 0 ≤ hi ∧ 7 < hi ∧ Ck sv fr to hi = false)
 ∨ (0 ≤ sv ∧ sv ≤ 63 ∧ 0 ≤ hi ∧ hi ≤ 7 ∧ fr < 0 ∧ Ck sv fr to hi = false)
 ∨ (0 ≤ sv ∧ sv ≤ 63 ∧ 0 ≤ hi ∧ hi ≤ 7 ∧ 0 ≤ fr ∧ to < fr ∧ Ck sv fr to hi = false)
 ∨ (0 ≤ sv ∧ sv ≤ 63 ∧ 0 ≤ hi ∧ hi ≤ 7 ∧ 0 ≤ fr ∧ fr ≤ to ∧ 1099511627776 < to ∧ Ck sv fr to hi = false)
 ∨ (0 ≤ sv ∧ sv ≤ 63 ∧ 0 ≤ hi ∧ hi ≤ 7 ∧ 0 ≤ fr ∧ fr ≤ to ∧ to ≤ 1099511627776 ∧ Ck sv fr to hi = true) := by
 unfold Ck
 by_cases h0 : 0 ≤ sv
 ·skip
  by_cases h1 : sv ≤ 63
  ·skip
   by_cases h2 : 0 ≤ hi
   ·skip
    by_cases h3 : hi ≤ 7
    ·skip
     by_cases h4 : 0 ≤ fr
     ·skip
      by_cases h5 : fr ≤ to
      ·skip
       by_cases h6 : to ≤ 1099511627776
       ·skip
        exact .inr (.inr (.inr (.inr (.inr (.inr (.inr (⟨h0, h1, h2, h3, h4, h5, h6, by simp [h0, h1, h2, h3, h4, h5, h6]⟩)))))))
       ·exact .inr (.inr (.inr (.inr (.inr (.inr (.inl ⟨h0, h1, h2, h3, h4, h5, by omega, by simp [h6]⟩))))))
      ·exact .inr (.inr (.inr (.inr (.inr (.inl ⟨h0, h1, h2, h3, h4, by omega, by simp [h5]⟩)))))
     ·exact .inr (.inr (.inr (.inr (.inl ⟨h0, h1, h2, h3, by omega, by simp [h4]⟩))))
    ·exact .inr (.inr (.inr (.inl ⟨h0, h1, h2, by omega, by simp [h3]⟩)))
   ·exact .inr (.inr (.inl ⟨h0, h1, by omega, by simp [h2]⟩))
  ·exact .inr (.inl ⟨h0, by omega, by simp [h1]⟩)
 ·exact .inl ⟨by omega, by simp [h0]⟩
theorem TQ (w : World) (g : Gr') : Calls Tryz.prog 38 #[.agg g.A] w (RB (.bool (EL g)) w) := by
 unfold EL
 obtain ⟨p, hp⟩ := nXe (g.A)
 have p0 := g.c0
 have p1 := g.c1
 have p2 := g.c2
 have p3 := g.c3
 rw [← hp] at p0 p1 p2 p3 ⊢
 obtain ⟨sv, hsv⟩ := nXe (g.sv)
 obtain ⟨fr, hfr⟩ := nXe (g.fr)
 obtain ⟨to, hto⟩ := nXe (g.to)
 obtain ⟨hi, hhi⟩ := nXe (g.hi)
 rw [← hsv, ← hfr, ← hto, ← hhi]
 rw [← hsv] at p0
 rw [← hfr] at p1
 rw [← hto] at p2
 rw [← hhi] at p3
 clear hsv hfr hto hhi hp
 rcases Ou sv fr to hi with ⟨h0, hv⟩ | ⟨h0, h1, hv⟩ | ⟨h0, h1, h2, hv⟩ | ⟨h0, h1, h2, h3, hv⟩ | ⟨h0, h1, h2, h3, h4, hv⟩ | ⟨h0, h1, h2, h3, h4, h5, hv⟩ | ⟨h0, h1, h2, h3, h4, h5, h6, hv⟩ | ⟨h0, h1, h2, h3, h4, h5, h6, hv⟩
 ·rw [hv]
  clear hv
  have d0 : decide (sv < 0) = true := dT (by omega)
  go_enter func38, ntmps38
  go_wp2
  go_ret
  exact ⟨by first | rfl | simp_all, bAx⟩
 ·rw [hv]
  clear hv
  have d0 : decide (sv < 0) = false := dF (by omega)
  have d1 : decide (63 < sv) = true := dT (by omega)
  go_enter func38, ntmps38
  go_wp2
  go_ret
  exact ⟨by first | rfl | simp_all, bAx⟩
 ·rw [hv]
  clear hv
  have d0 : decide (sv < 0) = false := dF (by omega)
  have d1 : decide (63 < sv) = false := dF (by omega)
  have d2 : decide (hi < 0) = true := dT (by omega)
  go_enter func38, ntmps38
  go_wp2
  go_ret
  exact ⟨by first | rfl | simp_all, bAx⟩
 ·rw [hv]
  clear hv
  have d0 : decide (sv < 0) = false := dF (by omega)
  have d1 : decide (63 < sv) = false := dF (by omega)
  have d2 : decide (hi < 0) = false := dF (by omega)
  have d3 : decide (7 < hi) = true := dT (by omega)
  go_enter func38, ntmps38
  go_wp2
  go_ret
  exact ⟨by first | rfl | simp_all, bAx⟩
 ·rw [hv]
  clear hv
  have d0 : decide (sv < 0) = false := dF (by omega)
  have d1 : decide (63 < sv) = false := dF (by omega)
  have d2 : decide (hi < 0) = false := dF (by omega)
  have d3 : decide (7 < hi) = false := dF (by omega)
  have d4 : decide (0 ≤ fr) = false := dF (by omega)
  go_enter func38, ntmps38
  go_wp2
  go_ret
  exact ⟨by first | rfl | simp_all, bAx⟩
 ·rw [hv]
  clear hv
  have d0 : decide (sv < 0) = false := dF (by omega)
  have d1 : decide (63 < sv) = false := dF (by omega)
  have d2 : decide (hi < 0) = false := dF (by omega)
  have d3 : decide (7 < hi) = false := dF (by omega)
  have d4 : decide (0 ≤ fr) = true := dT (by omega)
  have d5 : decide (fr ≤ to) = false := dF (by omega)
  go_enter func38, ntmps38
  go_wp2
  go_ret
  exact ⟨by first | rfl | simp_all, bAx⟩
 ·rw [hv]
  clear hv
  have d0 : decide (sv < 0) = false := dF (by omega)
  have d1 : decide (63 < sv) = false := dF (by omega)
  have d2 : decide (hi < 0) = false := dF (by omega)
  have d3 : decide (7 < hi) = false := dF (by omega)
  have d4 : decide (0 ≤ fr) = true := dT (by omega)
  have d5 : decide (fr ≤ to) = true := dT (by omega)
  have d6 : decide (to ≤ 1099511627776) = false := dF (by omega)
  go_enter func38, ntmps38
  go_wp2
  go_ret
  exact ⟨by first | rfl | simp_all, bAx⟩
 ·rw [hv]
  clear hv
  have d0 : decide (sv < 0) = false := dF (by omega)
  have d1 : decide (63 < sv) = false := dF (by omega)
  have d2 : decide (hi < 0) = false := dF (by omega)
  have d3 : decide (7 < hi) = false := dF (by omega)
  have d4 : decide (0 ≤ fr) = true := dT (by omega)
  have d5 : decide (fr ≤ to) = true := dT (by omega)
  have d6 : decide (to ≤ 1099511627776) = true := dT (by omega)
  go_enter func38, ntmps38
  go_wp2
  go_ret
  exact ⟨by first | rfl | simp_all, bAx⟩
theorem UO (w : World) (a b : Gr') : Calls Tryz.prog 39 #[.agg a.A, .agg b.A] w (RB (.bool (FU a b)) w) := by
 unfold FU apartV
 obtain ⟨p, hp⟩ := nXe (a.A)
 obtain ⟨q, hq⟩ := nXe (b.A)
 have p0 := a.c0
 have p2 := a.c2
 have q0 := b.c0
 have q1 := b.c1
 rw [← hp] at p0 p2 ⊢
 rw [← hq] at q0 q1 ⊢
 obtain ⟨s1, h1⟩ := nXe (a.sv)
 obtain ⟨t1, h2⟩ := nXe (a.to)
 obtain ⟨s2, h3⟩ := nXe (b.sv)
 obtain ⟨f2, h4⟩ := nXe (b.fr)
 rw [← h1, ← h2, ← h3, ← h4]
 rw [← h1] at p0
 rw [← h2] at p2
 rw [← h3] at q0
 rw [← h4] at q1
 clear h1 h2 h3 h4 hp hq
 obtain ⟨w0, hw0⟩ := nXe ((w.alloc (.cells p 65)).alloc (.cells q 65))
 have hb0 : Below w.heap.size w w0 := by rw [hw0]; exact bAx.alloc (by simp) _
 have hx0 : w0.heap[w.heap.size]? = some (.cells p 65 (0, 0)) := by rw [hw0]; exact Ak (AL _ _) _
 have hy0 : w0.heap[w.heap.size + 1]? = some (.cells q 65 (0, 0)) := by rw [hw0]; exact Ad _ (by simp)
 have c0 : w0.cell? ⟨w.heap.size, 0, none⟩ = some _ := (AO hx0).trans p0
 have c2 : w0.cell? ⟨w.heap.size, 2, none⟩ = some _ := (AO hx0).trans p2
 have e0 : w0.cell? ⟨w.heap.size + 1, 0, none⟩ = some _ := (AO hy0).trans q0
 have e1 : w0.cell? ⟨w.heap.size + 1, 1, none⟩ = some _ := (AO hy0).trans q1
 obtain ⟨HB0, HW0⟩ := l2h hb0 hw0
 clear hx0 hy0 hb0 hw0 p0 p2 q0 q1
 rcases Int.lt_trichotomy s1 s2 with h | h | h
 ·skip
  have d0 : decide (s1 < s2) = true := dT h
  rw [d0]
  go_enter func39, ntmps39
  go_wp2_with (first | (rw [← HW0.out]; skip) | fail)
  go_ret
  exact ⟨by first | rfl | simp_all, HB0.out⟩
 ·skip
  subst h
  have d0 : decide (s1 < s1) = false := dF (by omega)
  have d1 : (s1 == s1) = true := by simp
  rw [d0, d1]
  go_enter func39, ntmps39
  go_wp2_with (first | (rw [← HW0.out]; skip) | fail)
  go_ret
  exact ⟨by first | rfl | simp_all, HB0.out⟩
 ·skip
  have d0 : decide (s1 < s2) = false := dF (by omega)
  have d1 : (s1 == s2) = false := by simp; omega
  rw [d0, d1]
  go_enter func39, ntmps39
  go_wp2_with (first | (rw [← HW0.out]; skip) | fail)
  go_ret
  exact ⟨by first | rfl | simp_all, HB0.out⟩
end BkR
end Go.Proofs.YtceiajepcokacaaGreatDoor
