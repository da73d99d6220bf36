/-
  WHAT IS PROVED: contracts and plain laws. Condition: each names its own.
-/
import Derived.Test.YtceiajepcokacaaGreatDoorS0
import Derived.Test.YtceiajepcokacaaGreatDoorZH24
set_option linter.unusedVariables false
set_option linter.unusedSimpArgs false
set_option maxRecDepth 100000
set_option maxHeartbeats 4000000
namespace Go.Proofs.YtceiajepcokacaaGreatDoor
open Go.Proofs.Tryz hiding parts
namespace EntR
open Go Go.RowKit Go.Shelf OctetS IdentS EntS OctP OctQ EventP EventC EntP
theorem Dw (w : World) (p : Array Value) (r : ByteArray) (ep ix : Int) (pv : List UInt8) (e s : ByteArray) (hp : EntP p r ep ix pv e s) (hr : r.size ≤ 140737488351232) (he : e.size ≤ maxLen) (hs : s.size ≤ maxLen) :
 Calls Tryz.prog 68 #[.agg p] w (RB (.int .i64 (CW (EntS.BD (Bp r ep ix pv e s)))) w) := by
 unfold maxLen at he hs
 rw [chk_eq]
 obtain ⟨rn, hR⟩ := EvRC.IA r hr
 obtain ⟨rb, hrb⟩ := nXe (DF (bl r))
 rw [← hrb] at hR ⊢
 clear hrb
 obtain ⟨y, hy⟩ := nXe (CW (rb && (Bj ep && (Bj ix && (decide (e.size ≤ 8192) && decide (s.size ≤ 8192))))))
 rw [← hy]
 have Hy0 := lh hy
 clear hy
 have p0 := hp.c0
 have p1 := hp.c1
 have p2 := hp.c2
 have p35 := hp.c35
 have p36 := hp.c36
 obtain ⟨w0, hw0⟩ := nXe (w.alloc (.cells p 81))
 have hb0 : Below w.heap.size w w0 := by rw [hw0]; exact ((Below.refl _ w).alloc nR _)
 have hx0 : w0.heap[w.heap.size]? = some (.cells p 81 (0, 0)) := by rw [hw0]; exact AL _ _
 obtain ⟨HBL0, HW0⟩ := l2h hb0 hw0
 have lx0 := AJ hx0
 obtain ⟨cx0, fx0⟩ := AA hx0
 have HR := lh hR
 clear hR hb0 hw0 hr hp
 have hcase : rb = false ∨ rb = true := by cases rb <;> simp
 rcases hcase with rfl | rfl
 all_goals
  go_enter func68, ntmps68
  go_wp2_with fail
  rw [← HW0.out]
  refine (HR.out w0).mono ?_
  rintro e w1 ⟨rfl, hb⟩
  have HBL1 := tbB HBL0 hb
  have hx1 := (hb.block _ lx0).trans hx0
  have lx1 := AJ hx1
  obtain ⟨cx1, fx1⟩ := AA hx1
  clear hb hx0 cx0 fx0
 ·go_wp2
  go_ret
  exact ⟨by rw [Hy0.out]; rfl, HBL1.out⟩
 ·have hy' : (0 ≤ ep ∧ ep ≤ 4096 ∧ 0 ≤ ix ∧ ix ≤ 4096 ∧ e.size ≤ 8192 ∧ s.size ≤ 8192 ∧ y = 0) ∨ (¬ (0 ≤ ep ∧ ep ≤ 4096 ∧ 0 ≤ ix ∧ ix ≤ 4096 ∧ e.size ≤ 8192 ∧ s.size ≤ 8192) ∧ y = 2) := by
   rw [Hy0.out]
   unfold CW Bj
   simp only [Bool.true_and, Bool.and_eq_true, decide_eq_true_eq]
   by_cases h : 0 ≤ ep ∧ ep ≤ 4096 ∧ 0 ≤ ix ∧ ix ≤ 4096 ∧ e.size ≤ 8192 ∧ s.size ≤ 8192
   ·rw [if_pos ⟨⟨h.1, h.2.1⟩, ⟨h.2.2.1, h.2.2.2.1⟩, h.2.2.2.2⟩]
    exact .inl ⟨h.1, h.2.1, h.2.2.1, h.2.2.2.1, h.2.2.2.2.1, h.2.2.2.2.2, rfl⟩
   ·rw [if_neg (fun h' => h ⟨h'.1.1, h'.1.2, h'.2.1.1, h'.2.1.2, h'.2.2⟩)]
    exact .inr ⟨h, rfl⟩
  have Hy := lh hy'
  clear hy'
  go_wp2
  all_goals
   go_ret
   refine ⟨?_, HBL1.out⟩
   have hy := Hy.out
   first
        | (obtain rfl : y = 0 := by omega
           rfl)
        | (obtain rfl : y = 2 := by omega
           rfl)
theorem DR (w : World) (p : Array Value) (r : ByteArray) (ep ix : Int) (pv : List UInt8) (e s : ByteArray) (hp : EntP p r ep ix pv e s) (hr : r.size ≤ 140737488351232) (he : e.size ≤ maxLen) (hs : s.size ≤ maxLen) :
 Calls Tryz.prog 97 #[.agg p] w (RB (.tuple #[.string (bsOf (EntS.textOf (Bp r ep ix pv e s))), .int .i64 (CW (EntS.BD (Bp r ep ix pv e s)))]) w) := by
 have hC := fun w => Dw w p r ep ix pv e s hp hr he hs
 have p0 := hp.c0
 have p1 := hp.c1
 have p2 := hp.c2
 have p35 := hp.c35
 have hps := hp.size
 have hpi : (Tryz.prog.info? 81).map (·.size) = some 37 := by kernel_rfl
 rw [← hps] at hpi
 have HI := lh hpi
 clear hpi hps
 obtain ⟨w0, hw0⟩ := nXe (w.alloc (.cells p 81))
 have hb0 : Below w.heap.size w w0 := by rw [hw0]; exact ((Below.refl _ w).alloc nR _)
 have hx0 : w0.heap[w.heap.size]? = some (.cells p 81 (0, 0)) := by rw [hw0]; exact AL _ _
 obtain ⟨HBL0, HW0⟩ := l2h hb0 hw0
 have lx0 := AJ hx0
 obtain ⟨cx0, fx0⟩ := AA hx0
 unfold EntS.textOf
 unfold maxLen at he hs
 obtain ⟨HP, Hx0⟩ := l2h hp hx0
 cases hchk : EntS.BD (Bp r ep ix pv e s)
 ·skip
  rw [hchk] at hC
  have HC := lh hC
  clear hC hchk hr he hs hp hb0 hw0
  go_enter func97, ntmps97
  go_wp2_with (first | (rw [← HW0.out]; refine wpList_load_row rfl _ _ rfl w.heap.size rfl _ p (0, 0) _ Hx0.out underlying81 rfl HI.out ?_) | fail)
  refine (HC.out w0).mono ?_
  rintro e' w1 ⟨rfl, hb⟩
  have HBL1 := tbB HBL0 hb
  have hx1 := (hb.block _ lx0).trans hx0
  have lx1 := AJ hx1
  obtain ⟨cx1, fx1⟩ := AA hx1
  clear hb hx0 cx0 fx0
  unfold CW
  go_wp2
  go_ret2
  exact ⟨rfl, HBL1.out⟩
 ·skip
  have hR := EntS.Bw.1 hchk
  have h0 := hR.ep0
  have h1 := hR.ep1
  have h2 := hR.ix0
  have h3 := hR.ix1
  have hfit := hR.fits hp.len
  simp only [Bp] at h0 h1 h2 h3
  obtain ⟨m, rfl⟩ : ∃ m : Nat, ep = m := ⟨ep.toNat, by omega⟩
  obtain ⟨j, rfl⟩ : ∃ j : Nat, ix = j := ⟨ix.toNat, by omega⟩
  have hparts : EntS.parts (Bp r m j pv e s) = [bsOf EntS.mark, r, bsOf (num m), bsOf (num j), bsOf pv, e].map bl := by
   simp [EntS.parts, Bp, AV]
  have hfin : EntS.text (Bp r m j pv e s) = OctetS.list ([bsOf EntS.mark, r, bsOf (num m), bsOf (num j), bsOf pv, e].map bl) := by
   unfold EntS.text
   rw [hparts]
  rw [if_pos rfl, hfin]
  rw [hparts] at hfit
  have hL := fun w v h => Ref1L.List_ok w v [bsOf EntS.mark, r, bsOf (num m), bsOf (num j), bsOf pv, e] h hfit
  rw [hchk] at hC
  obtain ⟨out, hout⟩ := nXe (bsOf (OctetS.list ([bsOf EntS.mark, r, bsOf (num m), bsOf (num j), bsOf pv, e].map bl)))
  obtain ⟨n1, hn1⟩ := nXe (bsOf (num m))
  obtain ⟨n2, hn2⟩ := nXe (bsOf (num j))
  obtain ⟨q, hq⟩ := nXe (bsOf pv)
  have hN1 := fun w => Ref1N.Er w m (by unfold BC; omega)
  have hN2 := fun w => Ref1N.Er w j (by unfold BC; omega)
  rw [← hn1] at hN1
  rw [← hn2] at hN2
  rw [← hout]
  rw [← hout, ← hn1, ← hn2, ← hq] at hL
  obtain ⟨HC, HN1, HN2, HL, HQ⟩ := l5h hC hN1 hN2 hL hq
  clear hC hN1 hN2 hL hn1 hn2 hout hfin hparts hfit hR hchk hq hr he hs hp hb0 hw0
  go_enter func97, ntmps97
  go_wp2_with (first | (rw [← HW0.out]; refine wpList_load_row rfl _ _ rfl w.heap.size rfl _ p (0, 0) _ Hx0.out underlying81 rfl HI.out ?_) | fail)
  refine (HC.out w0).mono ?_
  rintro e' w1 ⟨rfl, hb⟩
  have HBL1 := tbB HBL0 hb
  have hx1 := (hb.block _ lx0).trans hx0
  have lx1 := AJ hx1
  obtain ⟨cx1, fx1⟩ := AA hx1
  clear hb hx0 cx0 fx0
  unfold CW
  go_wp2_with fail
  refine (HN1.out w1).mono ?_
  rintro e w2 ⟨rfl, hb⟩
  have HBL2 := tbB HBL1 hb
  have hx2 := (hb.block _ lx1).trans hx1
  have lx2 := AJ hx2
  obtain ⟨cx2, fx2⟩ := AA hx2
  clear hb hx1 cx1 fx1
  go_wp2_with fail
  refine (HN2.out w2).mono ?_
  rintro e w3 ⟨rfl, hb⟩
  have HBL3 := tbB HBL2 hb
  have hx3 := (hb.block _ lx2).trans hx2
  have lx3 := AJ hx3
  obtain ⟨cx3, fx3⟩ := AA hx3
  clear hb hx2 cx2 fx2
  go_wp2_with fail
  refine wp_region_noPanic ?_
  refine Wr.BI (S := (fun W => W.heap[w.heap.size]? = some (.cells p 81 (0, 0)))) (K := []) (by kernel_rfl) ?_
  change Wr.Ar _ _ _ _ _ _ _ _ _ (World.drew w3)
  have hS0 : (World.drew w3).heap[w.heap.size]? = some (.cells p 81 (0, 0)) := hx3
  have hBL0 : Below w3.heap.size w3 (World.drew w3) := Bl.drew (Below.refl _ _)
  refine Wr.tkI 0 ?_ ?_ hS0 ?_
  rotate_left
  ·intro wq hSw
   have q0 := hSw
   obtain ⟨qc0, qf0⟩ := AA q0
   go_simp
   rfl
  simp only [sq]
  refine Wr.tkI 1 ?_ ?_ hS0 ?_
  rotate_left
  ·intro wq hSw
   have q0 := hSw
   obtain ⟨qc0, qf0⟩ := AA q0
   go_simp
   rfl
  simp only [sq]
  refine Wr.tkI 2 ?_ ?_ hS0 ?_
  rotate_left
  ·intro wq hSw
   have q0 := hSw
   obtain ⟨qc0, qf0⟩ := AA q0
   go_simp
   rfl
  simp only [sq]
  refine Wr.tkI 3 ?_ ?_ hS0 ?_
  rotate_left
  ·intro wq hSw
   have q0 := hSw
   obtain ⟨qc0, qf0⟩ := AA q0
   go_simp
   rfl
  simp only [sq]
  refine Wr.tkI 4 ?_ ?_ hS0 ?_
  rotate_left
  ·intro wq hSw
   have q0 := hSw
   obtain ⟨qc0, qf0⟩ := AA q0
   go_simp
   rfl
  simp only [sq]
  refine Wr.tkI 5 ?_ ?_ hS0 ?_
  rotate_left
  ·intro wq hSw
   have q0 := hSw
   obtain ⟨qc0, qf0⟩ := AA q0
   go_simp
   rfl
  simp only [sq]
  refine Wr.tkK (i := 6) (v := (.string q)) rfl (.inl ⟨by rfl, ?_⟩) hS0 ?_
  ·intro wq hSw
   have q0 := hSw
   obtain ⟨qc0, qf0⟩ := AA q0
   have hcv := BX wq 100 9 5 underlying100 underlying5 underlying9 _ _ (HP.out.sl q0)
   rw [← HQ.out] at hcv
   go_simp
  simp only [sq]
  refine Wr.tkI 7 ?_ ?_ hS0 ?_
  rotate_left
  ·intro wq hSw
   have q0 := hSw
   obtain ⟨qc0, qf0⟩ := AA q0
   go_simp
   rfl
  simp only [sq]
  refine Wr.tkI 8 ?_ ?_ hS0 ?_
  rotate_left
  ·intro wq hSw
   have q0 := hSw
   obtain ⟨qc0, qf0⟩ := AA q0
   go_simp
   rfl
  simp only [sq]
  refine Wr.Ab (i := 9) (by kernel_rfl) ?_
  refine Ap rfl (by rfl) (w' := (World.drew w3).alloc (.cells #[.string ⟨#[101, 110, 116, 114, 121]⟩, .string r, .string n1, .string n2, .string q, .string e] 9)) (v := .slice (some ⟨(World.drew w3).heap.size, 0, none⟩) 6 6) (by go_simp; first | done | rfl) ?_
  obtain ⟨w6, hw_w6⟩ := nXe ((World.drew w3).alloc (.cells #[.string ⟨#[101, 110, 116, 114, 121]⟩, .string r, .string n1, .string n2, .string q, .string e] 9))
  rw [← hw_w6]
  have hb_w6 : Below (World.drew w3).heap.size (World.drew w3) w6 := by rw [hw_w6]; exact bAx
  have hn_w6 : w6.heap[(World.drew w3).heap.size]? = some (.cells #[.string ⟨#[101, 110, 116, 114, 121]⟩, .string r, .string n1, .string n2, .string q, .string e] 9 (0, 0)) := by rw [hw_w6]; exact Ad _ rfl
  have hS1 : w6.heap[w.heap.size]? = some (.cells p 81 (0, 0)) := (hb_w6.block _ (AJ (hS0))).trans (hS0)
  have hBL1 : Below w3.heap.size w3 w6 := hBL0.trans (hb_w6.mono hBL0.size)
  clear hw_w6
  refine ⟨hS1, ?_⟩
  simp only [sq]
  refine Wr.Ab (i := 10) (by kernel_rfl) ?_
  refine BR rfl (by rfl) (by go_simp; all_goals (and_intros <;> rfl)) ?_
  refine (HL.out w6 _ (EventB.EW hn_w6 rfl (by simp [maxLen]))).mono ?_
  rintro e w7 ⟨rfl, hb_w7⟩
  have hS2 : w7.heap[w.heap.size]? = some (.cells p 81 (0, 0)) := (hb_w7.block _ (AJ (hS1))).trans (hS1)
  have hBL2 : Below w3.heap.size w3 w7 := hBL1.trans (hb_w7.mono hBL1.size)
  refine ⟨_, rfl, ?_, ?_⟩
  ·exact hS2
  simp only [sq]
  refine Wr.tkI 11 ?_ ?_ hS2 ?_
  rotate_left
  ·intro wq hSw
   have q0 := hSw
   obtain ⟨qc0, qf0⟩ := AA q0
   go_simp
   rfl
  simp only [sq]
  refine Wr.tkI 12 ?_ ?_ hS2 ?_
  rotate_left
  ·intro wq hSw
   have q0 := hSw
   obtain ⟨qc0, qf0⟩ := AA q0
   go_simp
   rfl
  simp only [sq]
  refine Wr.tkI 13 ?_ ?_ hS2 ?_
  rotate_left
  ·intro wq hSw
   have q0 := hSw
   obtain ⟨qc0, qf0⟩ := AA q0
   go_simp
   rfl
  simp only [sq]
  refine Wr.tkI 14 ?_ ?_ hS2 ?_
  rotate_left
  ·intro wq hSw
   have q0 := hSw
   obtain ⟨qc0, qf0⟩ := AA q0
   go_simp
   rfl
  simp only [sq]
  refine Wr.Ag (by kernel_rfl) (NoPanic.normal ?_) _
  go_wp2
  go_ret2
  exact ⟨rfl, HBL3.out.trans (hBL2.mono HBL3.out.size)⟩
end EntR
namespace Ref1K
open Go Go.RowKit OctetS OctP OctG Ref1N
open OctQ (tyStrs)
def JE (pre : List (List UInt8)) (q : Nat) (g : List (List UInt8) × Nat × Int) : List (List UInt8) × Nat × Int := if g.2.2 = 0 then (pre ++ g.1, q + g.2.1, 0) else g
theorem KP (n : Nat) (s : List UInt8) (pre : List (List UInt8)) (q : Nat) (h : (Af (s.drop q)).2.2 = 0) :
 JE pre q (Bf (n + 1) (s.drop q)) = JE (pre ++ [(Af (s.drop q)).1]) (q + (Af (s.drop q)).2.1) (Bf n (s.drop (q + (Af (s.drop q)).2.1))) := by
 rw [Bf, if_neg (by simp [h]), List.drop_drop]
 unfold JE
 by_cases h2 : (Bf n (s.drop (q + (Af (s.drop q)).2.1))).2.2 = 0
 ·have h4 : ¬ (Bf n (s.drop (q + (Af (s.drop q)).2.1))).2.2 ≠ 0 := by simp [h2]
  rw [if_neg h4]
  simp only [h2, if_true, List.append_assoc, List.singleton_append]
  rw [Nat.add_assoc]
 ·rw [if_pos h2]
  simp only [h2, if_false]
  rcases Ip n (s.drop (q + (Af (s.drop q)).2.1)) with h3 | ⟨y, h3, _⟩
  ·exact absurd h3 h2
  ·rw [h3]
theorem KO (n : Nat) (s : List UInt8) (pre : List (List UInt8)) (q : Nat) (h : (Af (s.drop q)).2.2 ≠ 0) :
 JE pre q (Bf (n + 1) (s.drop q)) = ([], 0, (Af (s.drop q)).2.2) := by
 rw [Bf, if_pos h]
 unfold JE
 exact if_neg h
theorem Bu (w : World) (s : ByteArray) (hs : s.size ≤ maxLen) {n u : Nat} {y : Int} (hg : Ae (bl s) = (n, u, y)) :
 Calls Tryz.prog 95 #[.string s] w fun e w' => e = .returned (.tuple #[.int .u64 n, .int .i64 u, .int .i64 y]) ∧ Below w.heap.size w w' := by
 have := Ref1G.FC w s hs
 rw [hg] at this
 exact this
theorem Cf (w : World) (s : ByteArray) (hs : s.size ≤ maxLen) (h : Ae (bl s) = (0, 0, 5) ∨ Ae (bl s) = (0, 0, 6) ∨ ∃ n u, Ae (bl s) = (n, u, 0) ∧ 256 < n) :
 Calls Tryz.prog 94 #[.string s] w (EK w (Aw (bl s))) := by
 rcases h with hg | hg | ⟨n, u, hg, hn⟩
 ·have hfin : Aw (bl s) = ([], 0, 5) := by
   unfold Aw
   rw [hg]
   simp
  rw [hfin]
  have Hg := lh hg
  clear hg hfin
  go_enter func94, ntmps94
  go_wp2_with fail
  refine (Bu _ s hs Hg.out).mono ?_
  rintro e w' ⟨rfl, hb⟩
  have HB := lh hb
  clear hb
  go_wp2
  go_ret3
  exact ⟨_, rfl, CU.nil _ _, HB.out⟩
 ·have hfin : Aw (bl s) = ([], 0, 6) := by
   unfold Aw
   rw [hg]
   simp
  rw [hfin]
  have Hg := lh hg
  clear hg hfin
  go_enter func94, ntmps94
  go_wp2_with fail
  refine (Bu _ s hs Hg.out).mono ?_
  rintro e w' ⟨rfl, hb⟩
  have HB := lh hb
  clear hb
  go_wp2
  go_ret3
  exact ⟨_, rfl, CU.nil _ _, HB.out⟩
 ·have hfin : Aw (bl s) = ([], 0, 7) := by
   unfold Aw
   rw [hg]
   simp [hn]
  rw [hfin]
  have Hg := lh hg
  clear hg hfin
  go_enter func94, ntmps94
  go_wp2_with fail
  refine (Bu _ s hs Hg.out).mono ?_
  rintro e w' ⟨rfl, hb⟩
  have HB := lh hb
  clear hb
  go_wp2
  go_ret3
  exact ⟨_, rfl, CU.nil _ _, HB.out⟩
theorem FX (w : World) (s : ByteArray) (hs : s.size ≤ maxLen) (n u : Nat) (hg : Ae (bl s) = (n, u, 0)) (hn : n ≤ 256) :
 Calls Tryz.prog 94 #[.string s] w (EK w (Aw (bl s))) := by
 have hG := Ref1G.FC w s hs
 rw [hg] at hG
 unfold Ref1G.Kh at hG
 simp only at hG
 obtain ⟨hu1, hu7, hul, _, hmax⟩ := Co hg
 rw [AP] at hul
 unfold maxLen at hs
 have hfin : Aw (bl s) = JE [] u (Bf n ((bl s).drop u)) := by
  unfold Aw JE
  rw [hg]
  simp only
  rw [if_neg (by simp), if_neg (by omega)]
  by_cases h : (Bf n ((bl s).drop u)).2.2 = 0
  ·simp [h]
  ·rw [if_pos h, if_neg h]
   rcases Ip n ((bl s).drop u) with h3 | ⟨y, h3, _⟩
   ·exact absurd h3 h
   ·rw [h3]
 rw [hfin]
 obtain ⟨HG, Hfin⟩ := l2h hG hfin
 clear hG hfin hg
 go_enter func94, ntmps94
 go_wp2_with fail
 refine HG.out.mono ?_
 rintro e w1 ⟨rfl, hb⟩
 have HB := lh hb
 clear hb
 go_wp2
 go_loopw [6, 8, 9] (fun x y i wr => ∃ (pre : List (List UInt8)) (q k : Nat) (vo : Value), x = .int .i64 q ∧ y = vo ∧ i = .int .u64 k ∧ k ≤ n ∧ q ≤ s.size ∧ pre.length = k ∧ CU w wr vo pre ∧ Below w.heap.size w wr ∧ JE [] u (Bf n ((bl s).drop u)) = JE pre q (Bf (n - k) ((bl s).drop q))) (fun _ _ i _ => n - (intOf i).toNat)
 case atStart => exact ⟨[], u, 0, _, rfl, rfl, rfl, by omega, by omega, rfl, CU.nil _ _, HB.out, rfl⟩
 case round =>
  obtain ⟨pre, q, k, vo, rfl, rfl, rfl, hk, hq, rfl, hl, hb, heq⟩ := hrel
  obtain ⟨a0, c0, rfl, hn0, hc0⟩ := (Sl.ofOwn hl).form
  obtain ⟨HL, HB2, Heq⟩ := l3h hl hb heq
  clear hl hb heq
  by_cases hlt : pre.length < n
  ·have hx : bl (s.extract q s.size) = (bl s).drop q := by
        rw [Aj, List.take_of_length_le (by rw [List.length_drop, AP]; omega)]
   have hxs : (s.extract q s.size).size = s.size - q := by rw [← AP, hx, List.length_drop, AP]
   have hT := Ref1T.Gs wr (s.extract q s.size) (by rw [hxs]; unfold maxLen; omega)
   rw [hx] at hT
   obtain ⟨t, m, y, hg⟩ : ∃ t m y, Af ((bl s).drop q) = (t, m, y) := ⟨_, _, _, rfl⟩
   rw [hg] at hT
   unfold Ref1T.textV at hT
   simp only at hT
   obtain ⟨j, hj⟩ : ∃ j, n - pre.length = j + 1 := ⟨n - pre.length - 1, by omega⟩
   by_cases hy : y = 0
   ·subst hy
    obtain ⟨u1, u2, _, u4, u5, u6⟩ := Gj hg
    rw [List.length_drop, AP] at u2
    have hstep := KP j (bl s) pre q (by rw [hg])
    rw [hg] at hstep
    simp only at hstep
    rw [← hj] at hstep
    obtain ⟨Hstep, HT, Hj⟩ := l3h hstep hT hj
    clear hstep hT hg hx hj
    go_wp2_with fail
    refine HT.out.mono ?_
    rintro e w2 ⟨rfl, hb⟩
    have HL2 := lh (GI (S := fun _ => False) HL.out (Ext.of_below hb) (fun _ _ h => h))
    have HB3 := tbB HB2 hb
    clear hb
    obtain ⟨T, hT⟩ := nXe (bsOf t)
    rw [← hT]
    have HTT := lh hT
    clear hT
    go_wp2_with (at_builtin; go_must (refine Jk _ rfl _ _ _ _ rfl tyStrs w.heap.size (.slice a0 pre.length c0) pre.length (strV (pre.map bsOf)) rfl ?own (.slice (some ⟨w2.heap.size, 0, none⟩) 1 1) 1 [.string T] rfl ?src (pre.length + 1) rfl (strV ((pre ++ [t]).map bsOf)) ?hz ?h63 ?hby ?hba ?go))
    case own => exact GI (S := fun _ => False) HL2.out ((Ext.refl _ _).alloc _) (fun _ _ h => h)
    case src => exact Src.ofSlice _ underlying106 _ _ _ _ rfl (by simpa using cell_one_new w2 (.string T) 9) (by simp [Value.oneCell'])
    case hz => rw [HTT.out]; simp [strV]
    case h63 => unfold maxLen; omega
    case hby => omega
    case hba => have := HB3.out.size; simp; omega
    case go =>
     intro a' c' w3 hown hgrow hat
     have HO := lh hown
     have HB4 := lh ((HB3.out.alloc HB3.out.size _).grown hgrow (by have := HB3.out.size; simp; omega) (fun k hk => by
      rcases HL2.out.2 with ⟨h, _⟩ | ⟨g, cap, cur, h, hb, _⟩ <;> (rw [h] at hk; simp [Value.ownBlock] at hk <;> omega)))
     clear hown hgrow hat
     go_wp2
     go_roundw
     case rel =>
      refine ⟨pre ++ [t], q + m, pre.length + 1, _, by go_num, rfl, by go_num, by omega, by omega, by simp, ?_, HB4.out, ?_⟩
      ·unfold CU
       rw [List.length_append, List.map_append]
       exact HO.out
      ·rw [Heq.out, Hstep.out, show n - (pre.length + 1) = j by have := Hj.out; omega]
     case measure => simp [intOf]; omega
   ·have hstop := KO j (bl s) pre q (by rw [hg]; exact hy)
    rw [hg] at hstop
    simp only at hstop
    rw [← hj] at hstop
    have ME := lh hstop
    have hyb : (y != 0) = true := by simp [hy]
    obtain ⟨HT, Hj⟩ := l2h hT hj
    clear hstop hT hg hx hj
    go_wp2_with fail
    refine HT.out.mono ?_
    rintro e w2 ⟨rfl, hb⟩
    have HB3 := tbB HB2 hb
    clear hb
    go_wp2
    go_ret3
    rw [Heq.out, ME.out]
    exact ⟨_, rfl, CU.nil _ _, HB3.out⟩
  ·obtain rfl : n = pre.length := by omega
   have hc : JE pre q (Bf (pre.length - pre.length) ((bl s).drop q)) = (pre, q, 0) := by
        rw [Nat.sub_self]
        simp [JE, Bf]
   have Hc := lh hc
   clear hc
   go_wp2
   go_ret3
   rw [Heq.out, Hc.out]
   exact ⟨_, rfl, HL.out, HB2.out⟩
theorem Gt (w : World) (s : ByteArray) (hs : s.size ≤ maxLen) : Calls Tryz.prog 94 #[.string s] w (EK w (Aw (bl s))) := by
 rcases D9 (bl s) with h0 | h | h
 ·obtain ⟨n, u, y, hg⟩ : ∃ n u y, Ae (bl s) = (n, u, y) := ⟨_, _, _, rfl⟩
  rw [hg] at h0
  simp only at h0
  subst h0
  by_cases hn : n ≤ 256
  ·exact FX w s hs n u hg hn
  ·exact Cf w s hs (.inr (.inr ⟨n, u, hg, by omega⟩))
 ·exact Cf w s hs (.inl h)
 ·exact Cf w s hs (.inr (.inl h))
end Ref1K
namespace Ref1A
open Go Go.RowKit OctetS OctP OctG
theorem Ca (w : World) (s : ByteArray) (hs : s.size ≤ maxLen) : Calls Tryz.prog 66 #[.string s] w (OctA.Bt w (all (bl s))) := by
 have hg := Ref1K.Gt w s hs
 unfold maxLen at hs
 obtain ⟨l, u, y, hy⟩ : ∃ l u y, Aw (bl s) = (l, u, y) := ⟨_, _, _, rfl⟩
 unfold EK at hg
 rw [hy] at hg
 by_cases h0 : y = 0
 ·subst h0
  have hu := (Gl hy).2.1
  rw [AP] at hu
  by_cases hlt : u < s.size
  ·have hub : ((u : Int) != (s.size : Int)) = true := by simp; omega
   have hfin : all (bl s) = ([], 6) := by
        unfold all
        rw [hy]
        simp [AP, hlt]
   rw [hfin]
   have Hg := lh hg
   clear hg hfin hy
   go_enter func66, ntmps66
   go_wp2_with fail
   refine Hg.out.mono ?_
   rintro e w' ⟨v, rfl, hl, hb⟩
   obtain ⟨HL, HB⟩ := l2h hl hb
   clear hl hb
   go_wp2
   go_ret2
   exact ⟨_, rfl, CU.nil _ _, HB.out⟩
  ·have hub : ((u : Int) != (s.size : Int)) = false := by simp; omega
   have hfin : all (bl s) = (l, 0) := by
        unfold all
        rw [hy]
        simp [AP, hlt]
   rw [hfin]
   have Hg := lh hg
   clear hg hfin hy
   go_enter func66, ntmps66
   go_wp2_with fail
   refine Hg.out.mono ?_
   rintro e w' ⟨v, rfl, hl, hb⟩
   obtain ⟨HL, HB⟩ := l2h hl hb
   clear hl hb
   go_wp2
   go_ret2
   exact ⟨_, rfl, HL.out, HB.out⟩
 ·have hfin : all (bl s) = ([], y) := by
   unfold all
   rw [hy]
   simp [h0]
  rw [hfin]
  have hyb : (y != 0) = true := by simp [h0]
  have Hg := lh hg
  clear hg hfin hy
  go_enter func66, ntmps66
  go_wp2_with fail
  refine Hg.out.mono ?_
  rintro e w' ⟨v, rfl, hl, hb⟩
  obtain ⟨HL, HB⟩ := l2h hl hb
  clear hl hb
  go_wp2
  go_ret2
  exact ⟨_, rfl, CU.nil _ _, HB.out⟩
end Ref1A
end Go.Proofs.YtceiajepcokacaaGreatDoor
