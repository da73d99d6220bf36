/-
  WHAT IS PROVED: contracts and plain laws. Condition: each names its own.
-/
import Derived.Test.YtceiajepcokacaaGreatDoorS0
import Derived.Test.YtceiajepcokacaaGreatDoorZHF17
import Derived.Test.YtceiajepcokacaaGreatDoorZH27
set_option linter.unusedVariables false
set_option linter.unusedSimpArgs false
set_option maxRecDepth 100000
set_option maxHeartbeats 4000000
namespace Go.Proofs.YtceiajepcokacaaGreatDoor.RkH
open Go.Proofs.Tryz
open Go Go.RowKit Go.Shelf Steps RowsX Lift KeyA TreeA BookA BookB BkR BkC
theorem JO (w : World) (v : Value) (L : List Gr') (hv : Sl w v 36 L.length (L.flatMap Gr'.cs)) : Calls Tryz.prog 21 #[v] w (RB (.int .i64 (if C9 L = true then 0 else 2)) w) := by
 obtain ⟨a, cap, rfl, hcap, hm⟩ := hv.form
 unfold C9
 by_cases hbig : 256 < L.length
 ·rw [dF (by omega)]
  obtain ⟨n, hn⟩ := nXe (L.length)
  rw [← hn] at hbig ⊢
  have hnm : n ≤ maxLen := by omega
  unfold maxLen at hnm
  clear hv hn hcap hm
  show Calls _ _ _ _ (RB (.int .i64 2) w)
  go_enter func21, ntmps21
  go_wp2
  go_ret
  exact ⟨rfl, Below.refl _ _⟩
 ·rw [dT (by omega), Bool.true_and]
  have Hrow := lh (fun (k : Nat) (g : Gr') (hx : L[k]? = some g) => BU grF (by omega) hv hx)
  obtain ⟨RES, hRES⟩ := nXe (okF none L)
  rw [← hRES]
  have HRES := lh hRES
  obtain ⟨y, hy⟩ : ∃ y : Int, y = (if RES = true then 0 else 2) := ⟨_, rfl⟩
  rw [← hy]
  have HYQ := lh hy
  clear hy
  obtain ⟨n, hn⟩ := nXe (L.length)
  rw [← hn] at hbig ⊢
  have Hn := lh hn
  clear hv hRES hn hcap hm
  go_enter func21, ntmps21
  go_wp2
  go_loopw [10] (fun i wr => ∃ (k : Nat), i = .int .i64 k ∧ k ≤ n ∧ Hid (okF (CP L k) (L.drop k) = RES) ∧ Below w.heap.size w wr) (fun i _ => n - (intOf i).toNat)
  case atStart => exact ⟨0, rfl, by omega, lh HRES.out.symm, Below.refl _ _⟩
  case round =>
   obtain ⟨k, rfl, hk, hR, hb⟩ := hrel
   have HBr := lh hb
   have HR : Hid (okF (CP L k) (L.drop k) = RES) := hR
   clear hb hR
   by_cases hlt : k < n
   ·skip
    obtain ⟨g, hg⟩ : ∃ g, L[k]? = some g := ⟨_, List.getElem?_eq_getElem (by rw [← Hn.out]; exact hlt)⟩
    obtain ⟨b, o, rfl, hblt, hcc⟩ := Hrow.out k g hg
    have hstep := okF_at hg
    rw [HR.out] at hstep
    have hRt := fun w => KH w g
    obtain ⟨C, hC⟩ := nXe (g.A)
    rw [← hC] at hRt
    have Hcc := lh (show ∀ (j : Nat) (u : Value), C.toList[j]? = some u → wr.cell? ⟨b, o + k * 36 + j, none⟩ = some u from fun j u h => (HBr.out.cell (p := ⟨b, o + k * 36 + j, none⟩) hblt).trans (hcc j u (by rw [hC] at h; exact h)))
    have HCS := lh (show (Tryz.prog.info? 65).map (·.size) = some C.size by rw [hC]; exact DN g)
    have HCN := lh (show 36 = C.size by rw [hC]; exact (DL g).symm)
    have HCO := lh (show C.all (·.oneCell') = true by
     rw [hC, Array.all_eq_true_iff_forall_mem]
     intro u hu
     exact grF.one g u (by simpa [Gr'.A] using hu))
    obtain ⟨HRt, Hstep⟩ := l2h hRt hstep
    have C0 : C[0]? = some (.int .i64 g.sv) := by rw [hC]; exact g.c0
    have C1 : C[1]? = some (.int .i64 g.fr) := by rw [hC]; exact g.c1
    clear hRt hcc hstep hC
    go_wp2_with (first | (refine Ah rfl _ _ rfl b (o + k * 36) rfl C Hcc.out underlying65 rfl HCS.out ?_) | (refine AC rfl _ _ _ rfl wr.heap.size C rfl rfl _ _ (AL _ _) HCS.out (by rw [← HCN.out]; rfl) HCO.out ?_) | fail)
    intro u1 hu1
    have hb : Below wr.heap.size wr u1 := by rw [hu1.out]; exact AQ bAx nR _
    have hyy : u1.heap[wr.heap.size]? = some (.cells C 65 (0, 0)) := by rw [hu1.out]; exact AR (AL _ _)
    clear hu1
    obtain ⟨w2, hww⟩ : ∃ w', w' = u1 := ⟨_, rfl⟩
    rw [← hww] at hb hyy ⊢
    clear hww
    have HB2 := tbB HBr hb
    have HY2 := lh hyy
    clear hb hyy
    obtain ⟨BG, hBG⟩ := nXe (wr.heap.size)
    rw [← hBG] at HY2 ⊢
    clear hBG
    obtain ⟨rb, hrb⟩ := nXe (EL g)
    rw [← hrb] at HRt Hstep
    clear hrb
    have HBa := lh hblt
    clear hblt
    go_wp2_with (first | (refine wpList_load_row rfl _ _ rfl BG rfl _ C (0, 0) _ HY2.out underlying65 rfl HCS.out ?_) | fail)
    refine (HRt.out w2).mono ?_
    rintro e w3 ⟨rfl, hb⟩
    have HB3 := tbB HB2 hb
    have HY3 := kpB hb HY2
    clear hb
    cases rb
    ·skip
     have hE : RES = false := Hstep.out.trans (by simp)
     have hyE : y = 2 := by rw [HYQ.out, hE]; rfl
     subst hyE
     clear hE
     go_wp2
     go_ret
     exact ⟨rfl, HB3.out⟩
    obtain ⟨sg, hsg⟩ := nXe (g.sv)
    obtain ⟨fg, hfg⟩ := nXe (g.fr)
    rw [← hsg] at C0
    rw [← hfg] at C1
    rcases Nat.eq_zero_or_pos k with h0 | hp
    ·skip
     subst h0
     have hE : RES = okF (CP L 1) (L.drop 1) := Hstep.out.trans (by simp [CP])
     have HE := lh hE.symm
     clear hE hsg hfg
     go_wp2_with fail
     refine Uniform.A9 (S := (fun W => W.heap[BG]? = some (.cells C 65 (0, 0)) ∧ Below w.heap.size w W)) (List.range 35) (by kernel_rfl) (by kernel_rfl) ⟨HY3.out, (HB3.out).drew⟩ ?_
     iterate 3
      refine ⟨_, ?_, rfl, .inl ⟨by rfl, fun wq hSw => .value (w' := wq) ?_ hSw⟩, ?_⟩
      rotate_left
      ·obtain ⟨q0, q1⟩ := hSw
       obtain ⟨qc0, qf0⟩ := AA q0
       go_simp
       rfl
      simp only [sq]
     iterate 31
      refine ⟨_, undef, rfl, Or.inr ⟨by rfl, rfl⟩, ?_⟩
      simp only [sq]
     refine ⟨_, ?_, rfl, .inl ⟨by rfl, fun wq hSw => .value (w' := wq) ?_ hSw⟩, ?_⟩
     rotate_left
     ·obtain ⟨q0, q1⟩ := hSw
      obtain ⟨qc0, qf0⟩ := AA q0
      go_simp
      rfl
     simp only [sq]
     intro wz hSz
     obtain ⟨_, q1⟩ := hSz
     have HBZ := lh q1
     clear q1
     go_wp2
     go_roundw
     case rel => exact ⟨1, by go_num, by omega, HE.out, HBZ.out⟩
     case measure => simp [intOf]; omega
    ·skip
     obtain ⟨k1, rfl⟩ : ∃ q, k = q + 1 := ⟨k - 1, by omega⟩
     obtain ⟨pv, hpv⟩ : ∃ q, L[k1]? = some q := ⟨_, List.getElem?_eq_getElem (by rw [← Hn.out]; omega)⟩
     obtain ⟨b', o', hbo, _, hcp⟩ := Hrow.out k1 pv hpv
     have hpr : CP L (k1 + 1) = some pv := by unfold CP; rw [if_neg (by omega), Nat.add_sub_cancel]; exact hpv
     have hst := Hstep.out
     rw [hpr] at hst
     have hst : RES = (FU pv g && okF (CP L (k1 + 1 + 1)) (L.drop (k1 + 1 + 1))) := hst.trans (by simp)
     obtain ⟨rfl, rfl⟩ : b = b' ∧ o = o' := by simpa using hbo
     have Hq0 := lh (show w.cell? ⟨b, o + k1 * 36, none⟩ = some (.int .i64 pv.sv) from hcp 0 _ (by rfl))
     have Hq2 := lh (show w.cell? ⟨b, o + k1 * 36 + 2, none⟩ = some (.int .i64 pv.to) from hcp 2 _ (by rfl))
     obtain ⟨sp, hsp⟩ := nXe (pv.sv)
     obtain ⟨tp, htp⟩ := nXe (pv.to)
     rw [← hsp] at Hq0
     rw [← htp] at Hq2
     have hab : FU pv g = (decide (sp < sg) || ((sp == sg) && decide (tp < fg))) := by unfold FU apartV; rw [hsp, hsg, htp, hfg]
     rw [hab] at hst
     have hw1 : IntKind.i64.wrap (k1 : Int) = (k1 : Int) := by rw [IntKind.wrap_i64]; omega
     have hk1 : (k1 : Int) < (n : Int) := by omega
     have hcase : (sg < sp ∧ RES = false) ∨ (sp < sg ∧ RES = okF (CP L (k1 + 1 + 1)) (L.drop (k1 + 1 + 1))) ∨ (sg = sp ∧ fg ≤ tp ∧ RES = false) ∨ (sg = sp ∧ tp < fg ∧ RES = okF (CP L (k1 + 1 + 1)) (L.drop (k1 + 1 + 1))) := by
      rcases Int.lt_trichotomy sg sp with h | h | h
      ·exact .inl ⟨h, by rw [hst, dF (show ¬ sp < sg by omega), show (sp == sg) = false by simp; omega]; simp⟩
      ·by_cases h2 : tp < fg
       ·exact .inr (.inr (.inr ⟨h, h2, by rw [hst, h, dT h2]; simp⟩))
       ·exact .inr (.inr (.inl ⟨h, by omega, by rw [hst, h, dF h2]; simp⟩))
      ·exact .inr (.inl ⟨h, by rw [hst, dT h]; simp⟩)
     clear hcp hpr hst hab hbo HR Hstep hsp htp hsg hfg
     rcases hcase with ⟨h1, hE⟩ | ⟨h1, hE⟩ | ⟨rfl, h2, hE⟩ | ⟨rfl, h2, hE⟩
     ·skip
      have hyE : y = 2 := by rw [HYQ.out, hE]; rfl
      subst hyE
      clear hE
      have d0 : decide (sg < sp) = true := dT h1
      go_wp2_with fail
      refine Uniform.A9 (S := (fun W => W.heap[BG]? = some (.cells C 65 (0, 0)) ∧ Below w.heap.size w W)) (List.range 35) (by kernel_rfl) (by kernel_rfl) ⟨HY3.out, (HB3.out).drew⟩ ?_
      iterate 10
       refine ⟨_, ?_, rfl, .inl ⟨by rfl, fun wq hSw => .value (w' := wq) ?_ hSw⟩, ?_⟩
       rotate_left
       ·obtain ⟨q0, q1⟩ := hSw
        obtain ⟨qc0, qf0⟩ := AA q0
        go_simp
        rfl
       simp only [sq]
      refine ⟨_, ?_, rfl, .inl ⟨by rfl, fun wq hSw => .value (w' := wq) ?_ hSw⟩, ?_⟩
      rotate_left
      ·obtain ⟨q0, q1⟩ := hSw
       obtain ⟨qc0, qf0⟩ := AA q0
       have cp := (q1.cell (p := ⟨b, o + k1 * 36, none⟩) HBa.out).trans Hq0.out
       go_simp
       rfl
      iterate 2
       simp only [sq]
       refine ⟨_, ?_, rfl, .inl ⟨by rfl, fun wq hSw => .value (w' := wq) ?_ hSw⟩, ?_⟩
       rotate_left
       ·obtain ⟨q0, q1⟩ := hSw
        obtain ⟨qc0, qf0⟩ := AA q0
        go_simp
        rfl
      iterate 20
       simp only [sq]
       refine ⟨_, undef, rfl, Or.inr ⟨by rfl, rfl⟩, ?_⟩
      iterate 2
       simp only [sq]
       refine ⟨_, ?_, rfl, .inl ⟨by rfl, fun wq hSw => .value (w' := wq) ?_ hSw⟩, ?_⟩
       rotate_left
       ·obtain ⟨q0, q1⟩ := hSw
        obtain ⟨qc0, qf0⟩ := AA q0
        go_simp
        rfl
      simp only [sq]
      intro wz hSz
      obtain ⟨_, q1⟩ := hSz
      have HBZ := lh q1
      clear q1
      go_wp2
      go_ret
      exact ⟨rfl, HBZ.out⟩
     ·skip
      have HE := lh hE.symm
      clear hE
      have d0 : decide (sg < sp) = false := dF (by omega)
      have d1 : (sg == sp) = false := by simp; omega
      go_wp2_with fail
      refine Uniform.A9 (S := (fun W => W.heap[BG]? = some (.cells C 65 (0, 0)) ∧ Below w.heap.size w W)) (List.range 35) (by kernel_rfl) (by kernel_rfl) ⟨HY3.out, (HB3.out).drew⟩ ?_
      iterate 10
       refine ⟨_, ?_, rfl, .inl ⟨by rfl, fun wq hSw => .value (w' := wq) ?_ hSw⟩, ?_⟩
       rotate_left
       ·obtain ⟨q0, q1⟩ := hSw
        obtain ⟨qc0, qf0⟩ := AA q0
        go_simp
        rfl
       simp only [sq]
      refine ⟨_, ?_, rfl, .inl ⟨by rfl, fun wq hSw => .value (w' := wq) ?_ hSw⟩, ?_⟩
      rotate_left
      ·obtain ⟨q0, q1⟩ := hSw
       obtain ⟨qc0, qf0⟩ := AA q0
       have cp := (q1.cell (p := ⟨b, o + k1 * 36, none⟩) HBa.out).trans Hq0.out
       go_simp
       rfl
      iterate 9
       simp only [sq]
       refine ⟨_, ?_, rfl, .inl ⟨by rfl, fun wq hSw => .value (w' := wq) ?_ hSw⟩, ?_⟩
       rotate_left
       ·obtain ⟨q0, q1⟩ := hSw
        obtain ⟨qc0, qf0⟩ := AA q0
        go_simp
        rfl
      simp only [sq]
      refine ⟨_, ?_, rfl, .inl ⟨by rfl, fun wq hSw => .value (w' := wq) ?_ hSw⟩, ?_⟩
      rotate_left
      ·obtain ⟨q0, q1⟩ := hSw
       obtain ⟨qc0, qf0⟩ := AA q0
       have cp := (q1.cell (p := ⟨b, o + k1 * 36, none⟩) HBa.out).trans Hq0.out
       go_simp
       rfl
      iterate 2
       simp only [sq]
       refine ⟨_, ?_, rfl, .inl ⟨by rfl, fun wq hSw => .value (w' := wq) ?_ hSw⟩, ?_⟩
       rotate_left
       ·obtain ⟨q0, q1⟩ := hSw
        obtain ⟨qc0, qf0⟩ := AA q0
        go_simp
        rfl
      iterate 9
       simp only [sq]
       refine ⟨_, undef, rfl, Or.inr ⟨by rfl, rfl⟩, ?_⟩
      iterate 3
       simp only [sq]
       refine ⟨_, ?_, rfl, .inl ⟨by rfl, fun wq hSw => .value (w' := wq) ?_ hSw⟩, ?_⟩
       rotate_left
       ·obtain ⟨q0, q1⟩ := hSw
        obtain ⟨qc0, qf0⟩ := AA q0
        go_simp
        rfl
      simp only [sq]
      intro wz hSz
      obtain ⟨_, q1⟩ := hSz
      have HBZ := lh q1
      clear q1
      go_wp2
      go_roundw
      case rel => exact ⟨k1 + 1 + 1, by go_num, by omega, HE.out, HBZ.out⟩
      case measure => simp [intOf]; omega
     ·skip
      have hyE : y = 2 := by rw [HYQ.out, hE]; rfl
      subst hyE
      clear hE
      have d0 : decide (sg < sg) = false := dF (by omega)
      have d1 : (sg == sg) = true := by simp
      have d2 : decide (fg ≤ tp) = true := dT (by omega)
      go_wp2_with fail
      refine Uniform.A9 (S := (fun W => W.heap[BG]? = some (.cells C 65 (0, 0)) ∧ Below w.heap.size w W)) (List.range 35) (by kernel_rfl) (by kernel_rfl) ⟨HY3.out, (HB3.out).drew⟩ ?_
      iterate 10
       refine ⟨_, ?_, rfl, .inl ⟨by rfl, fun wq hSw => .value (w' := wq) ?_ hSw⟩, ?_⟩
       rotate_left
       ·obtain ⟨q0, q1⟩ := hSw
        obtain ⟨qc0, qf0⟩ := AA q0
        go_simp
        rfl
       simp only [sq]
      refine ⟨_, ?_, rfl, .inl ⟨by rfl, fun wq hSw => .value (w' := wq) ?_ hSw⟩, ?_⟩
      rotate_left
      ·obtain ⟨q0, q1⟩ := hSw
       obtain ⟨qc0, qf0⟩ := AA q0
       have cp := (q1.cell (p := ⟨b, o + k1 * 36, none⟩) HBa.out).trans Hq0.out
       go_simp
       rfl
      iterate 9
       simp only [sq]
       refine ⟨_, ?_, rfl, .inl ⟨by rfl, fun wq hSw => .value (w' := wq) ?_ hSw⟩, ?_⟩
       rotate_left
       ·obtain ⟨q0, q1⟩ := hSw
        obtain ⟨qc0, qf0⟩ := AA q0
        go_simp
        rfl
      simp only [sq]
      refine ⟨_, ?_, rfl, .inl ⟨by rfl, fun wq hSw => .value (w' := wq) ?_ hSw⟩, ?_⟩
      rotate_left
      ·obtain ⟨q0, q1⟩ := hSw
       obtain ⟨qc0, qf0⟩ := AA q0
       have cp := (q1.cell (p := ⟨b, o + k1 * 36, none⟩) HBa.out).trans Hq0.out
       go_simp
       rfl
      iterate 9
       simp only [sq]
       refine ⟨_, ?_, rfl, .inl ⟨by rfl, fun wq hSw => .value (w' := wq) ?_ hSw⟩, ?_⟩
       rotate_left
       ·obtain ⟨q0, q1⟩ := hSw
        obtain ⟨qc0, qf0⟩ := AA q0
        go_simp
        rfl
      simp only [sq]
      refine ⟨_, ?_, rfl, .inl ⟨by rfl, fun wq hSw => .value (w' := wq) ?_ hSw⟩, ?_⟩
      rotate_left
      ·obtain ⟨q0, q1⟩ := hSw
       obtain ⟨qc0, qf0⟩ := AA q0
       have cp := (q1.cell (p := ⟨b, o + k1 * 36 + 2, none⟩) HBa.out).trans Hq2.out
       go_simp
       rfl
      iterate 4
       simp only [sq]
       refine ⟨_, ?_, rfl, .inl ⟨by rfl, fun wq hSw => .value (w' := wq) ?_ hSw⟩, ?_⟩
       rotate_left
       ·obtain ⟨q0, q1⟩ := hSw
        obtain ⟨qc0, qf0⟩ := AA q0
        go_simp
        rfl
      simp only [sq]
      intro wz hSz
      obtain ⟨_, q1⟩ := hSz
      have HBZ := lh q1
      clear q1
      go_wp2
      go_ret
      exact ⟨rfl, HBZ.out⟩
     ·skip
      have HE := lh hE.symm
      clear hE
      have d0 : decide (sg < sg) = false := dF (by omega)
      have d1 : (sg == sg) = true := by simp
      have d2 : decide (fg ≤ tp) = false := dF (by omega)
      go_wp2_with fail
      refine Uniform.A9 (S := (fun W => W.heap[BG]? = some (.cells C 65 (0, 0)) ∧ Below w.heap.size w W)) (List.range 35) (by kernel_rfl) (by kernel_rfl) ⟨HY3.out, (HB3.out).drew⟩ ?_
      iterate 10
       refine ⟨_, ?_, rfl, .inl ⟨by rfl, fun wq hSw => .value (w' := wq) ?_ hSw⟩, ?_⟩
       rotate_left
       ·obtain ⟨q0, q1⟩ := hSw
        obtain ⟨qc0, qf0⟩ := AA q0
        go_simp
        rfl
       simp only [sq]
      refine ⟨_, ?_, rfl, .inl ⟨by rfl, fun wq hSw => .value (w' := wq) ?_ hSw⟩, ?_⟩
      rotate_left
      ·obtain ⟨q0, q1⟩ := hSw
       obtain ⟨qc0, qf0⟩ := AA q0
       have cp := (q1.cell (p := ⟨b, o + k1 * 36, none⟩) HBa.out).trans Hq0.out
       go_simp
       rfl
      iterate 9
       simp only [sq]
       refine ⟨_, ?_, rfl, .inl ⟨by rfl, fun wq hSw => .value (w' := wq) ?_ hSw⟩, ?_⟩
       rotate_left
       ·obtain ⟨q0, q1⟩ := hSw
        obtain ⟨qc0, qf0⟩ := AA q0
        go_simp
        rfl
      simp only [sq]
      refine ⟨_, ?_, rfl, .inl ⟨by rfl, fun wq hSw => .value (w' := wq) ?_ hSw⟩, ?_⟩
      rotate_left
      ·obtain ⟨q0, q1⟩ := hSw
       obtain ⟨qc0, qf0⟩ := AA q0
       have cp := (q1.cell (p := ⟨b, o + k1 * 36, none⟩) HBa.out).trans Hq0.out
       go_simp
       rfl
      iterate 9
       simp only [sq]
       refine ⟨_, ?_, rfl, .inl ⟨by rfl, fun wq hSw => .value (w' := wq) ?_ hSw⟩, ?_⟩
       rotate_left
       ·obtain ⟨q0, q1⟩ := hSw
        obtain ⟨qc0, qf0⟩ := AA q0
        go_simp
        rfl
      simp only [sq]
      refine ⟨_, ?_, rfl, .inl ⟨by rfl, fun wq hSw => .value (w' := wq) ?_ hSw⟩, ?_⟩
      rotate_left
      ·obtain ⟨q0, q1⟩ := hSw
       obtain ⟨qc0, qf0⟩ := AA q0
       have cp := (q1.cell (p := ⟨b, o + k1 * 36 + 2, none⟩) HBa.out).trans Hq2.out
       go_simp
       rfl
      iterate 4
       simp only [sq]
       refine ⟨_, ?_, rfl, .inl ⟨by rfl, fun wq hSw => .value (w' := wq) ?_ hSw⟩, ?_⟩
       rotate_left
       ·obtain ⟨q0, q1⟩ := hSw
        obtain ⟨qc0, qf0⟩ := AA q0
        go_simp
        rfl
      simp only [sq]
      intro wz hSz
      obtain ⟨_, q1⟩ := hSz
      have HBZ := lh q1
      clear q1
      go_wp2
      go_roundw
      case rel => exact ⟨k1 + 1 + 1, by go_num, by omega, HE.out, HBZ.out⟩
      case measure => simp [intOf]; omega
   ·skip
    obtain rfl : k = n := by omega
    have hE : RES = true := by
     rw [← HR.out, List.drop_of_length_le (by rw [← Hn.out]; exact Nat.le_refl _)]
     cases CP L k <;> rfl
    have hyE : y = 0 := by rw [HYQ.out, hE]; rfl
    subst hyE
    clear hE
    go_wp2
    go_ret
    exact ⟨rfl, HBr.out⟩
end Go.Proofs.YtceiajepcokacaaGreatDoor.RkH
