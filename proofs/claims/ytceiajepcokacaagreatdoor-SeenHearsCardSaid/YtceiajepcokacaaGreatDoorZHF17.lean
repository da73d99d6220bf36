/-
  WHAT IS PROVED: contracts and plain laws. Condition: each names its own.
-/
import Derived.Test.YtceiajepcokacaaGreatDoorS0
import Derived.Test.YtceiajepcokacaaGreatDoorZHF16
set_option linter.unusedVariables false
set_option linter.unusedSimpArgs false
set_option maxRecDepth 100000
set_option maxHeartbeats 4000000
namespace Go.Proofs.YtceiajepcokacaaGreatDoor
open Go.Proofs.Tryz
namespace BkC
open Go Go.RowKit Go.Shelf Steps RowsX Lift KeyA TreeA BookA BookB BkR
theorem Cr {P : Program} {o : Oper} {a : Act} {w : World} (ty : TypeId) (x : Operand) (ho : o.op = .load ty x) (b off : Nat) (hx : a.eval x = .pointer (some ⟨b, off, none⟩)) (cs : Array Value)
 (hc : ∀ j v, cs.toList[j]? = some v → w.cell? ⟨b, off + j, none⟩ = some v) {d : TypeDesc}
 (hu : P.underlying ty = some d) (hd : (match d with | .struct _ | .array _ _ => true | _ => false) = true) (hi : (P.info? ty).map (·.size) = some cs.size) : (execOp a.eval o).run P w = .ok (.value (.agg cs)) w := by
 have hl : (loadCells ⟨b, off, none⟩ cs.toList.length).run P w = .ok cs.toList.toArray w :=
  run_loadCells_list (P := P) w ⟨b, off, none⟩ cs.toList (fun j v hv => by
   have hadd : (⟨b, off, none⟩ : Addr).add j = ⟨b, off + j, none⟩ := by unfold Addr.add; split <;> simp_all
   rw [hadd]
   exact hc j v hv)
 have hrun : (loadVar ty ⟨b, off, none⟩).run P w = .ok (.agg cs) w := by
  cases hq : P.info? ty with
  | none => simp [hq] at hi
  | some i =>
    have hs : i.size = cs.size := by simpa [hq] using hi
    have hagg : (isAgg ty).run P w = .ok true w := by
        unfold isAgg
        rw [Sem.run_bind, run_underlying hu w]
        cases d <;> simp_all
    simp only [Array.length_toList, Array.toArray_toList] at hl
    simp [loadVar, Sem.run_bind, hagg, sizeOf, typeInfo, hq, hs, hl]
 unfold execOp
 simp only [ho, hx, Instr.loadAt, Instr.sureAddr, Sem.run_bind, Sem.run_pure, Result.andThen_ok, hrun]
def okF : Option Gr' → List Gr' → Bool
 | _, [] => true
 | none, g :: r => EL g && okF (some g) r
 | some q, g :: r => EL g && (FU q g && okF (some g) r)
def C9 (L : List Gr') : Bool := decide (L.length ≤ 256) && okF none L
def CP (L : List Gr') (k : Nat) : Option Gr' := if k = 0 then none else L[k - 1]?
theorem okF_at {L : List Gr'} {k : Nat} {g : Gr'} (h : L[k]? = some g) : okF (CP L k) (L.drop k) = (EL g && ((match CP L k with | none => true | some q => FU q g) && okF (CP L (k + 1)) (L.drop (k + 1)))) := by
 have hlt : k < L.length := by
  rcases Nat.lt_or_ge k L.length with h' | h'
  ·exact h'
  ·rw [List.getElem?_eq_none h'] at h; cases h
 have hd : L.drop k = g :: L.drop (k + 1) := by
  rw [List.drop_eq_getElem_cons hlt]
  rw [List.getElem?_eq_getElem hlt] at h
  rw [Option.some.inj h]
 have hp : CP L (k + 1) = some g := by
  unfold CP
  rw [if_neg (by omega), Nat.add_sub_cancel]
  exact h
 rw [hd, hp]
 cases CP L k with
 | none => simp [okF]
 | some q => rfl
theorem Dw (w : World) (v : Value) (L : List Gr') (hv : Sl w v 36 L.length (L.flatMap Gr'.cs)) : Calls Tryz.prog 19 #[v] w (RB (.int .i64 (if C9 L = true then 0 else 2)) w) := by
 obtain ⟨a, cap, rfl, hcap, hm⟩ := hv.form
 unfold C9
 by_cases hbig : 256 < L.length
 ·rw [dF (by omega)]
  obtain ⟨n, hn⟩ := nXe (L.length)
  rw [← hn] at hbig ⊢
  have hnm : n ≤ maxLen := by omega
  unfold maxLen at hnm
  clear hv hn hcap hm
  show Calls _ _ _ _ (RB (.int .i64 2) w)
  go_enter func19, ntmps19
  go_wp2
  go_ret
  exact ⟨rfl, Below.refl _ _⟩
 ·rw [dT (by omega), Bool.true_and]
  have Hrow := lh (fun (k : Nat) (g : Gr') (hx : L[k]? = some g) => BU grF (by omega) hv hx)
  obtain ⟨RES, hRES⟩ := nXe (okF none L)
  rw [← hRES]
  have HRES := lh hRES
  obtain ⟨y, hy⟩ : ∃ y : Int, y = (if RES = true then 0 else 2) := ⟨_, rfl⟩
  rw [← hy]
  have HYQ := lh hy
  clear hy
  obtain ⟨n, hn⟩ := nXe (L.length)
  rw [← hn] at hbig ⊢
  have Hn := lh hn
  clear hv hRES hn hcap hm
  go_enter func19, ntmps19
  go_wp2
  go_loopw [10] (fun i wr => ∃ (k : Nat), i = .int .i64 k ∧ k ≤ n ∧ Hid (okF (CP L k) (L.drop k) = RES) ∧ Below w.heap.size w wr) (fun i _ => n - (intOf i).toNat)
  case atStart => exact ⟨0, rfl, by omega, lh HRES.out.symm, Below.refl _ _⟩
  case round =>
   obtain ⟨k, rfl, hk, hR, hb⟩ := hrel
   have HBr := lh hb
   have HR : Hid (okF (CP L k) (L.drop k) = RES) := hR
   clear hb hR
   by_cases hlt : k < n
   ·skip
    obtain ⟨g, hg⟩ : ∃ g, L[k]? = some g := ⟨_, List.getElem?_eq_getElem (by rw [← Hn.out]; exact hlt)⟩
    obtain ⟨b, o, rfl, hblt, hcc⟩ := Hrow.out k g hg
    have hstep := okF_at hg
    rw [HR.out] at hstep
    have hRt := fun w => TQ w g
    have hAp := fun w q => UO w q g
    obtain ⟨C, hC⟩ := nXe (g.A)
    rw [← hC] at hRt hAp
    have Hcc := lh (show ∀ (j : Nat) (u : Value), C.toList[j]? = some u → wr.cell? ⟨b, o + k * 36 + j, none⟩ = some u from fun j u h => (HBr.out.cell (p := ⟨b, o + k * 36 + j, none⟩) hblt).trans (hcc j u (by rw [hC] at h; exact h)))
    have HCS := lh (show (Tryz.prog.info? 65).map (·.size) = some C.size by rw [hC]; exact DN g)
    have HCN := lh (show 36 = C.size by rw [hC]; exact (DL g).symm)
    have HCO := lh (show C.all (·.oneCell') = true by
     rw [hC, Array.all_eq_true_iff_forall_mem]
     intro u hu
     exact grF.one g u (by simpa [Gr'.A] using hu))
    obtain ⟨HRt, HAp, Hstep⟩ := l3h hRt hAp hstep
    clear hRt hAp hcc hstep hC
    go_wp2_with (first | (refine Ah rfl _ _ rfl b (o + k * 36) rfl C Hcc.out underlying65 rfl HCS.out ?_) | (refine AC rfl _ _ _ rfl wr.heap.size C rfl rfl _ _ (AL _ _) HCS.out (by rw [← HCN.out]; rfl) HCO.out ?_) | fail)
    intro u1 hu1
    have hb : Below wr.heap.size wr u1 := by rw [hu1.out]; exact AQ bAx nR _
    have hyy : u1.heap[wr.heap.size]? = some (.cells C 65 (0, 0)) := by rw [hu1.out]; exact AR (AL _ _)
    clear hu1
    obtain ⟨w2, hww⟩ : ∃ w', w' = u1 := ⟨_, rfl⟩
    rw [← hww] at hb hyy ⊢
    clear hww
    have HB2 := tbB HBr hb
    have HY2 := lh hyy
    clear hb hyy
    obtain ⟨BG, hBG⟩ := nXe (wr.heap.size)
    rw [← hBG] at HY2 ⊢
    clear hBG
    obtain ⟨rb, hrb⟩ := nXe (EL g)
    rw [← hrb] at HRt Hstep
    clear hrb
    have HBa := lh hblt
    clear hblt
    go_wp2_with fail
    cases rb
    ·skip
     have hE : RES = false := Hstep.out.trans (by simp)
     have hyE : y = 2 := by rw [HYQ.out, hE]; rfl
     subst hyE
     clear hE
     refine Uniform.A9 (S := (fun W => W.heap[BG]? = some (.cells C 65 (0, 0)) ∧ Below w.heap.size w W)) (List.range 17) (by kernel_rfl) (by kernel_rfl) ⟨HY2.out, (HB2.out).drew⟩ ?_
     refine ⟨_, _, rfl, Or.inl ⟨by rfl, fun wq hSw => Uniform.UStep.value (w' := wq) (EqHash.Bg 65 _ rfl _ rfl hSw.1 underlying65 rfl HCS.out) hSw⟩, ?_⟩
     simp only [sq]
     refine ⟨_, ?_, rfl, Or.inl ⟨by rfl, fun wq hSw => Uniform.UStep.call (w' := wq) ?_ ((HRt.out wq).mono ?_)⟩, ?_⟩
     rotate_left
     ·obtain ⟨q0, q1⟩ := hSw
      obtain ⟨qc0, qf0⟩ := AA q0
      go_simp
      all_goals (and_intros <;> rfl)
     ·have hSk := hSw
      obtain ⟨q0, q1⟩ := hSw
      rintro e wq2 ⟨rfl, hbq⟩
      refine ⟨?_, (hbq.block _ (AJ q0)).trans q0, q1.trans (hbq.mono q1.size)⟩
      rfl
     iterate 2
      simp only [sq]
      refine ⟨_, ?_, rfl, .inl ⟨by rfl, fun wq hSw => .value (w' := wq) ?_ hSw⟩, ?_⟩
      rotate_left
      ·obtain ⟨q0, q1⟩ := hSw
       obtain ⟨qc0, qf0⟩ := AA q0
       go_simp
       rfl
     iterate 12
      simp only [sq]
      refine ⟨_, undef, rfl, Or.inr ⟨by rfl, rfl⟩, ?_⟩
     simp only [sq]
     refine ⟨_, ?_, rfl, .inl ⟨by rfl, fun wq hSw => .value (w' := wq) ?_ hSw⟩, ?_⟩
     rotate_left
     ·obtain ⟨q0, q1⟩ := hSw
      obtain ⟨qc0, qf0⟩ := AA q0
      go_simp
      rfl
     simp only [sq]
     intro wz hSz
     obtain ⟨_, q1⟩ := hSz
     have HBZ := lh q1
     clear q1
     go_wp2
     go_ret
     exact ⟨rfl, HBZ.out⟩
    rcases Nat.eq_zero_or_pos k with h0 | hp
    ·skip
     subst h0
     have hE : RES = okF (CP L 1) (L.drop 1) := Hstep.out.trans (by simp [CP])
     have HE := lh hE.symm
     clear hE
     refine Uniform.A9 (S := (fun W => W.heap[BG]? = some (.cells C 65 (0, 0)) ∧ Below w.heap.size w W)) (List.range 17) (by kernel_rfl) (by kernel_rfl) ⟨HY2.out, (HB2.out).drew⟩ ?_
     refine ⟨_, _, rfl, Or.inl ⟨by rfl, fun wq hSw => Uniform.UStep.value (w' := wq) (EqHash.Bg 65 _ rfl _ rfl hSw.1 underlying65 rfl HCS.out) hSw⟩, ?_⟩
     simp only [sq]
     refine ⟨_, ?_, rfl, Or.inl ⟨by rfl, fun wq hSw => Uniform.UStep.call (w' := wq) ?_ ((HRt.out wq).mono ?_)⟩, ?_⟩
     rotate_left
     ·obtain ⟨q0, q1⟩ := hSw
      obtain ⟨qc0, qf0⟩ := AA q0
      go_simp
      all_goals (and_intros <;> rfl)
     ·have hSk := hSw
      obtain ⟨q0, q1⟩ := hSw
      rintro e wq2 ⟨rfl, hbq⟩
      refine ⟨?_, (hbq.block _ (AJ q0)).trans q0, q1.trans (hbq.mono q1.size)⟩
      rfl
     iterate 5
      simp only [sq]
      refine ⟨_, ?_, rfl, .inl ⟨by rfl, fun wq hSw => .value (w' := wq) ?_ hSw⟩, ?_⟩
      rotate_left
      ·obtain ⟨q0, q1⟩ := hSw
       obtain ⟨qc0, qf0⟩ := AA q0
       go_simp
       rfl
     iterate 8
      simp only [sq]
      refine ⟨_, undef, rfl, Or.inr ⟨by rfl, rfl⟩, ?_⟩
     iterate 2
      simp only [sq]
      refine ⟨_, ?_, rfl, .inl ⟨by rfl, fun wq hSw => .value (w' := wq) ?_ hSw⟩, ?_⟩
      rotate_left
      ·obtain ⟨q0, q1⟩ := hSw
       obtain ⟨qc0, qf0⟩ := AA q0
       go_simp
       rfl
     simp only [sq]
     intro wz hSz
     obtain ⟨_, q1⟩ := hSz
     have HBZ := lh q1
     clear q1
     go_wp2
     go_roundw
     case rel => exact ⟨1, by go_num, by omega, HE.out, HBZ.out⟩
     case measure => simp [intOf]; omega
    ·skip
     obtain ⟨k1, rfl⟩ : ∃ q, k = q + 1 := ⟨k - 1, by omega⟩
     obtain ⟨pv, hpv⟩ : ∃ q, L[k1]? = some q := ⟨_, List.getElem?_eq_getElem (by rw [← Hn.out]; omega)⟩
     obtain ⟨b', o', hbo, _, hcp⟩ := Hrow.out k1 pv hpv
     have hpr : CP L (k1 + 1) = some pv := by unfold CP; rw [if_neg (by omega), Nat.add_sub_cancel]; exact hpv
     have hst := Hstep.out
     rw [hpr] at hst
     have hst : RES = (FU pv g && okF (CP L (k1 + 1 + 1)) (L.drop (k1 + 1 + 1))) := hst.trans (by simp)
     obtain ⟨rfl, rfl⟩ : b = b' ∧ o = o' := by simpa using hbo
     obtain ⟨D, hD⟩ := nXe (pv.A)
     have HDS := lh (show (Tryz.prog.info? 65).map (·.size) = some D.size by rw [hD]; exact DN pv)
     have Hcp := lh (show ∀ (j : Nat) (u : Value), D.toList[j]? = some u → w.cell? ⟨b, o + k1 * 36 + j, none⟩ = some u from fun j u h => hcp j u (by rw [hD] at h; exact h))
     have hap := fun w => HAp.out w pv
     rw [← hD] at hap
     obtain ⟨ab, hab⟩ := nXe (FU pv g)
     rw [← hab] at hap hst
     obtain ⟨HAP, HST⟩ := l2h hap hst
     have hw1 : IntKind.i64.wrap (k1 : Int) = (k1 : Int) := by rw [IntKind.wrap_i64]; omega
     have hk1 : (k1 : Int) < (n : Int) := by omega
     clear hcp hpr hst hap hab hD hbo HR Hstep
     cases ab
     ·skip
      have hE : RES = false := HST.out.trans (by simp)
      have hyE : y = 2 := by rw [HYQ.out, hE]; rfl
      subst hyE
      clear hE
      refine Uniform.A9 (S := (fun W => W.heap[BG]? = some (.cells C 65 (0, 0)) ∧ Below w.heap.size w W)) (List.range 17) (by kernel_rfl) (by kernel_rfl) ⟨HY2.out, (HB2.out).drew⟩ ?_
      refine ⟨_, _, rfl, Or.inl ⟨by rfl, fun wq hSw => Uniform.UStep.value (w' := wq) (EqHash.Bg 65 _ rfl _ rfl hSw.1 underlying65 rfl HCS.out) hSw⟩, ?_⟩
      simp only [sq]
      refine ⟨_, ?_, rfl, Or.inl ⟨by rfl, fun wq hSw => Uniform.UStep.call (w' := wq) ?_ ((HRt.out wq).mono ?_)⟩, ?_⟩
      rotate_left
      ·obtain ⟨q0, q1⟩ := hSw
       obtain ⟨qc0, qf0⟩ := AA q0
       go_simp
       all_goals (and_intros <;> rfl)
      ·have hSk := hSw
       obtain ⟨q0, q1⟩ := hSw
       rintro e wq2 ⟨rfl, hbq⟩
       refine ⟨?_, (hbq.block _ (AJ q0)).trans q0, q1.trans (hbq.mono q1.size)⟩
       rfl
      iterate 8
       simp only [sq]
       refine ⟨_, ?_, rfl, .inl ⟨by rfl, fun wq hSw => .value (w' := wq) ?_ hSw⟩, ?_⟩
       rotate_left
       ·obtain ⟨q0, q1⟩ := hSw
        obtain ⟨qc0, qf0⟩ := AA q0
        go_simp
        rfl
      simp only [sq]
      refine ⟨_, .pointer (some ⟨b, o + k1 * 36, none⟩), rfl, .inl ⟨by rfl, fun wq hSw => .value (w' := wq) ?_ hSw⟩, ?_⟩
      ·obtain ⟨q0, q1⟩ := hSw
       obtain ⟨qc0, qf0⟩ := AA q0
       go_simp
      simp only [sq]
      refine ⟨_, _, rfl, Or.inl ⟨by rfl, fun wq hSw => Uniform.UStep.value (w' := wq) (Cr 65 _ rfl b (o + k1 * 36) rfl D (fun j u h => (hSw.2.cell (p := ⟨b, o + k1 * 36 + j, none⟩) HBa.out).trans (Hcp.out j u h)) underlying65 rfl HDS.out) hSw⟩, ?_⟩
      simp only [sq]
      refine ⟨_, _, rfl, Or.inl ⟨by rfl, fun wq hSw => Uniform.UStep.value (w' := wq) (EqHash.Bg 65 _ rfl _ rfl hSw.1 underlying65 rfl HCS.out) hSw⟩, ?_⟩
      simp only [sq]
      refine ⟨_, ?_, rfl, Or.inl ⟨by rfl, fun wq hSw => Uniform.UStep.call (w' := wq) ?_ ((HAP.out wq).mono ?_)⟩, ?_⟩
      rotate_left
      ·obtain ⟨q0, q1⟩ := hSw
       obtain ⟨qc0, qf0⟩ := AA q0
       go_simp
       all_goals (and_intros <;> rfl)
      ·have hSk := hSw
       obtain ⟨q0, q1⟩ := hSw
       rintro e wq2 ⟨rfl, hbq⟩
       refine ⟨?_, (hbq.block _ (AJ q0)).trans q0, q1.trans (hbq.mono q1.size)⟩
       rfl
      iterate 3
       simp only [sq]
       refine ⟨_, ?_, rfl, .inl ⟨by rfl, fun wq hSw => .value (w' := wq) ?_ hSw⟩, ?_⟩
       rotate_left
       ·obtain ⟨q0, q1⟩ := hSw
        obtain ⟨qc0, qf0⟩ := AA q0
        go_simp
        rfl
      simp only [sq]
      intro wz hSz
      obtain ⟨_, q1⟩ := hSz
      have HBZ := lh q1
      clear q1
      go_wp2
      go_ret
      exact ⟨rfl, HBZ.out⟩
     ·skip
      have HE := lh (show okF (CP L (k1 + 1 + 1)) (L.drop (k1 + 1 + 1)) = RES from (HST.out.trans (by simp)).symm)
      refine Uniform.A9 (S := (fun W => W.heap[BG]? = some (.cells C 65 (0, 0)) ∧ Below w.heap.size w W)) (List.range 17) (by kernel_rfl) (by kernel_rfl) ⟨HY2.out, (HB2.out).drew⟩ ?_
      refine ⟨_, _, rfl, Or.inl ⟨by rfl, fun wq hSw => Uniform.UStep.value (w' := wq) (EqHash.Bg 65 _ rfl _ rfl hSw.1 underlying65 rfl HCS.out) hSw⟩, ?_⟩
      simp only [sq]
      refine ⟨_, ?_, rfl, Or.inl ⟨by rfl, fun wq hSw => Uniform.UStep.call (w' := wq) ?_ ((HRt.out wq).mono ?_)⟩, ?_⟩
      rotate_left
      ·obtain ⟨q0, q1⟩ := hSw
       obtain ⟨qc0, qf0⟩ := AA q0
       go_simp
       all_goals (and_intros <;> rfl)
      ·have hSk := hSw
       obtain ⟨q0, q1⟩ := hSw
       rintro e wq2 ⟨rfl, hbq⟩
       refine ⟨?_, (hbq.block _ (AJ q0)).trans q0, q1.trans (hbq.mono q1.size)⟩
       rfl
      iterate 8
       simp only [sq]
       refine ⟨_, ?_, rfl, .inl ⟨by rfl, fun wq hSw => .value (w' := wq) ?_ hSw⟩, ?_⟩
       rotate_left
       ·obtain ⟨q0, q1⟩ := hSw
        obtain ⟨qc0, qf0⟩ := AA q0
        go_simp
        rfl
      simp only [sq]
      refine ⟨_, .pointer (some ⟨b, o + k1 * 36, none⟩), rfl, .inl ⟨by rfl, fun wq hSw => .value (w' := wq) ?_ hSw⟩, ?_⟩
      ·obtain ⟨q0, q1⟩ := hSw
       obtain ⟨qc0, qf0⟩ := AA q0
       go_simp
      simp only [sq]
      refine ⟨_, _, rfl, Or.inl ⟨by rfl, fun wq hSw => Uniform.UStep.value (w' := wq) (Cr 65 _ rfl b (o + k1 * 36) rfl D (fun j u h => (hSw.2.cell (p := ⟨b, o + k1 * 36 + j, none⟩) HBa.out).trans (Hcp.out j u h)) underlying65 rfl HDS.out) hSw⟩, ?_⟩
      simp only [sq]
      refine ⟨_, _, rfl, Or.inl ⟨by rfl, fun wq hSw => Uniform.UStep.value (w' := wq) (EqHash.Bg 65 _ rfl _ rfl hSw.1 underlying65 rfl HCS.out) hSw⟩, ?_⟩
      simp only [sq]
      refine ⟨_, ?_, rfl, Or.inl ⟨by rfl, fun wq hSw => Uniform.UStep.call (w' := wq) ?_ ((HAP.out wq).mono ?_)⟩, ?_⟩
      rotate_left
      ·obtain ⟨q0, q1⟩ := hSw
       obtain ⟨qc0, qf0⟩ := AA q0
       go_simp
       all_goals (and_intros <;> rfl)
      ·have hSk := hSw
       obtain ⟨q0, q1⟩ := hSw
       rintro e wq2 ⟨rfl, hbq⟩
       refine ⟨?_, (hbq.block _ (AJ q0)).trans q0, q1.trans (hbq.mono q1.size)⟩
       rfl
      iterate 3
       simp only [sq]
       refine ⟨_, ?_, rfl, .inl ⟨by rfl, fun wq hSw => .value (w' := wq) ?_ hSw⟩, ?_⟩
       rotate_left
       ·obtain ⟨q0, q1⟩ := hSw
        obtain ⟨qc0, qf0⟩ := AA q0
        go_simp
        rfl
      simp only [sq]
      intro wz hSz
      obtain ⟨_, q1⟩ := hSz
      have HBZ := lh q1
      clear q1
      go_wp2
      go_roundw
      case rel => exact ⟨k1 + 1 + 1, by go_num, by omega, HE.out, HBZ.out⟩
      case measure => simp [intOf]; omega
   ·skip
    obtain rfl : k = n := by omega
    have hE : RES = true := by
     rw [← HR.out, List.drop_of_length_le (by rw [← Hn.out]; exact Nat.le_refl _)]
     cases CP L k <;> rfl
    have hyE : y = 0 := by rw [HYQ.out, hE]; rfl
    subst hyE
    clear hE
    go_wp2
    go_ret
    exact ⟨rfl, HBr.out⟩
end BkC
namespace PkV
open Go Go.RowKit Go.Shelf OctP OctG RowsX Lift ShaS KeyS ShaA ShaB Steps KeyA KeyB KeyG KeyH KeyJ TreeA TreeE TreeF TreeG WireT
attribute [-go_sem] Builtin.append_
theorem UT (w : World) (n : Nat) (sig : ByteArray) (hn : n ≤ 7) (hsz : sig.size ≤ maxLen) (hno : sigB n (bl sig) = false) :
 Calls Tryz.prog 77 #[.int .i64 n, .string sig] w (RB (.tuple #[.int .i64 0, .int .i64 2]) w) := by
 unfold maxLen at hsz
 obtain ⟨hp, hM⟩ := Gu n hn
 obtain ⟨M, hMe⟩ := nXe (2 ^ n)
 unfold sigB at hno
 rw [← hMe] at hp hM hno
 have w1 : IntKind.i64.wrap ((n : Int) * 32) = (n : Int) * 32 := by rw [IntKind.wrap_i64]; omega
 have w2 : IntKind.i64.wrap (1089 + (n : Int) * 32) = 1089 + (n : Int) * 32 := by rw [IntKind.wrap_i64]; omega
 have hp2 : IntKind.i64.wrap ((2 : Int) ^ n) = (M : Int) := by have h := hp; unfold wrap64 at h; rw [IntKind.wrap_i64]; exact h
 by_cases hs : sig.size = 1089 + 32 * n
 ·have h0 : 0 < sig.size := by omega
  obtain ⟨b, hb⟩ : ∃ b, sig[0] = b := ⟨_, rfl⟩
  have hhd : (bl sig).headD 0 = b := by
   have := Dv sig 0 h0
   rw [List.drop_zero] at this
   rw [this, ← hb]
   rfl
  rw [hhd, AP, hs, dT rfl, Bool.true_and] at hno
  have hb2 : M ≤ b.toNat := by have := of_decide_eq_false hno; omega
  have hb8 := b.toNat_lt
  have hz : ((sig.size : Nat) : Int) = 1089 + (n : Int) * 32 := by omega
  have hd : decide ((M : Int) ≤ (b.toNat : Int)) = true := dT (by omega)
  have hd2 : decide (M ≤ b.toNat) = true := dT (by omega)
  have hb3 : IntKind.i64.wrap (b.toNat : Int) = (b.toNat : Int) := by rw [IntKind.wrap_i64]; omega
  have hpos : (0 : Int) < 1089 + (n : Int) * 32 := by omega
  clear hMe hs hno hhd hsz
  go_enter func77, ntmps77
  go_wp2
  refine Uniform.A9 (S := (fun W => Below w.heap.size w W ∧ Below w.heap.size w W)) (List.range 19) (by kernel_rfl) (by kernel_rfl) ⟨((Below.refl w.heap.size w)).drew, ((Below.refl w.heap.size w)).drew⟩ ?_
  refine ⟨_, ?_, rfl, .inl ⟨by rfl, fun wq hSw => .value (w' := wq) ?_ hSw⟩, ?_⟩
  rotate_left
  ·obtain ⟨q0, q1⟩ := hSw
   go_simp
   rfl
  simp only [sq]
  refine ⟨_, ?_, rfl, Or.inl ⟨by rfl, fun wq hSw => Uniform.UStep.call (w' := wq) ?_ ((Na wq n hn).mono ?_)⟩, ?_⟩
  rotate_left
  ·obtain ⟨q0, q1⟩ := hSw
   go_simp
   all_goals (and_intros <;> rfl)
  ·have hSk := hSw
   obtain ⟨q0, q1⟩ := hSw
   rintro e wq2 ⟨rfl, rfl⟩
   refine ⟨?_, hSk⟩
   rfl
  iterate 17
   simp only [sq]
   refine ⟨_, ?_, rfl, .inl ⟨by rfl, fun wq hSw => .value (w' := wq) ?_ hSw⟩, ?_⟩
   rotate_left
   ·obtain ⟨q0, q1⟩ := hSw
    go_simp
    rfl
  simp only [sq]
  intro wz hSz
  obtain ⟨q0, q1⟩ := hSz
  go_wp2
  go_ret2
  exact ⟨rfl, q0⟩
 ·have hz : ((sig.size : Nat) : Int) ≠ 1089 + (n : Int) * 32 := by omega
  have hz2 : (((sig.size : Nat) : Int) != 1089 + (n : Int) * 32) = true := by simpa using hz
  have hz3 : (((sig.size : Nat) : Int) == 1089 + (n : Int) * 32) = false := by simpa using hz
  clear hMe hno hs
  go_enter func77, ntmps77
  go_wp2
  refine Uniform.A9 (S := (fun W => Below w.heap.size w W ∧ Below w.heap.size w W)) (List.range 19) (by kernel_rfl) (by kernel_rfl) ⟨((Below.refl w.heap.size w)).drew, ((Below.refl w.heap.size w)).drew⟩ ?_
  refine ⟨_, ?_, rfl, .inl ⟨by rfl, fun wq hSw => .value (w' := wq) ?_ hSw⟩, ?_⟩
  rotate_left
  ·obtain ⟨q0, q1⟩ := hSw
   go_simp
   rfl
  simp only [sq]
  refine ⟨_, ?_, rfl, Or.inl ⟨by rfl, fun wq hSw => Uniform.UStep.call (w' := wq) ?_ ((Na wq n hn).mono ?_)⟩, ?_⟩
  rotate_left
  ·obtain ⟨q0, q1⟩ := hSw
   go_simp
   all_goals (and_intros <;> rfl)
  ·have hSk := hSw
   obtain ⟨q0, q1⟩ := hSw
   rintro e wq2 ⟨rfl, rfl⟩
   refine ⟨?_, hSk⟩
   rfl
  iterate 10
   simp only [sq]
   refine ⟨_, ?_, rfl, .inl ⟨by rfl, fun wq hSw => .value (w' := wq) ?_ hSw⟩, ?_⟩
   rotate_left
   ·obtain ⟨q0, q1⟩ := hSw
    go_simp
    rfl
  iterate 6
   simp only [sq]
   refine ⟨_, undef, rfl, Or.inr ⟨by rfl, rfl⟩, ?_⟩
  simp only [sq]
  refine ⟨_, ?_, rfl, .inl ⟨by rfl, fun wq hSw => .value (w' := wq) ?_ hSw⟩, ?_⟩
  rotate_left
  ·obtain ⟨q0, q1⟩ := hSw
   go_simp
   rfl
  simp only [sq]
  intro wz hSz
  obtain ⟨q0, q1⟩ := hSz
  go_wp2
  go_ret2
  exact ⟨rfl, q0⟩
theorem E9 (w : World) (rt : H32) (n : Nat) (text sig : ByteArray) (hn : n ≤ 7) (ht : text.size ≤ 140737488355328) (hs : sig.size ≤ maxLen) (hk : Au w) :
 Calls Tryz.prog 47 #[.agg rt.A, .int .i64 n, .string text, .string sig] w (RB (.int .i64 (verify rt.l n (bl text) (bl sig))) w) := by
 unfold verify
 cases hb : sigB n (bl sig)
 ·rw [if_neg (by simp)]
  have hP := fun w => UT w n sig hn hs hb
  have HP := lh hP
  clear hP hb hs hk ht
  obtain ⟨p, hp⟩ := nXe (rt.A)
  rw [← hp]
  clear hp
  obtain ⟨w0, hw0⟩ := nXe (w.alloc (.cells p 44))
  have HB0 := lh (show Below w.heap.size w w0 by rw [hw0]; exact bAx)
  have HW0 := lh hw0
  clear hw0
  go_enter func47, ntmps47
  go_wp2_with fail
  rw [← HW0.out]
  refine (HP.out w0).mono ?_
  rintro e w1 ⟨rfl, hb⟩
  have HB1 := tbB HB0 hb
  clear hb
  go_wp2
  go_ret
  exact ⟨rfl, HB1.out⟩
 ·rw [if_pos rfl]
  unfold sigB at hb
  simp only [Bool.and_eq_true, decide_eq_true_eq, AP] at hb
  exact Qm w rt n text sig hn ht hb.1 hb.2 hk
end PkV
end Go.Proofs.YtceiajepcokacaaGreatDoor
