/-
  WHAT IS PROVED: contracts and plain laws. Condition: each names its own.
-/
import Derived.Test.YtceiajepcokacaaGreatDoorS0
import Derived.Test.YtceiajepcokacaaGreatDoorZH33
set_option linter.unusedVariables false
set_option linter.unusedSimpArgs false
set_option maxRecDepth 100000
set_option maxHeartbeats 4000000
namespace Go.Proofs.YtceiajepcokacaaGreatDoor.SnQ
open Go.Proofs.Tryz hiding parts
open SnW SnP
open Go Go.RowKit Go.ChangeMaps OctetS IdentS ShaS EntS OctG IdentP ShaA KeyA WireS WireT BookA BkF PfS PfA RowsX Steps SnK SnT SnM SnF SnG SnS
attribute [-go_sem] Builtin.append_
def set2 (w : World) (B : Nat) (v0 v1 : Value) : World := (w.setCell ⟨B, 0, none⟩ v0).setCell ⟨B, 1, none⟩ v1
theorem EG {w : World} {B : Nat} {x0 x1 : Value} {t : TypeId} (h : w.heap[B]? = some (.cells #[x0, x1] t (0, 0))) (v0 v1 : Value) : (set2 w B v0 v1).heap[B]? = some (.cells #[v0, v1] t (0, 0)) := heap_setCell_same (heap_setCell_same h v0) v1
theorem CX {S : Nat → Prop} {a w : World} {B : Nat} (h : Ext S a w) (hB : S B ∨ a.heap.size ≤ B) (v0 v1 : Value) : Ext S a (set2 w B v0 v1) := (h.setCell (p := ⟨B, 0, none⟩) hB v0).setCell (p := ⟨B, 1, none⟩) hB v1
theorem Fg {sm : List UInt8} (h : sm.length = 32) : sm.take 32 ++ List.replicate (32 - sm.length) 0 = sm := by rw [h, List.take_of_length_le (by omega)]; simp
theorem Kg {xx : Sn} (h : xx.h.sum.length = 32) : (oneF xx).toArray[37]? = some (.string xx.text) := by
 unfold oneF oneL
 rw [Fg h, List.getElem?_toArray, List.getElem?_append_right (by simp [AZ, h])]
 simp [AZ, h]
theorem LH {xx : Sn} (h : xx.h.sum.length = 32) : (oneF xx).toArray[38]? = some (.string xx.sig) := by
 unfold oneF oneL
 rw [Fg h, List.getElem?_toArray, List.getElem?_append_right (by simp [AZ, h])]
 simp [AZ, h]
theorem K6 {xx : Sn} (h : xx.h.sum.length = 32) {j : Nat} {u : Value} (hu : (byV xx.h.sum).toArray.toList[j]? = some u) : (oneF xx).toArray[4 + j]? = some u := by
 have hu' : (byV xx.h.sum)[j]? = some u := hu
 have hj : j < 32 := by have := (List.getElem?_eq_some_iff.1 hu').1; rw [AZ, h] at this; exact this
 unfold oneF oneL
 rw [Fg h, List.getElem?_toArray, List.getElem?_append_left (by simp [AZ, h]; omega), List.getElem?_append_right (by simp)]
 simpa using hu'
theorem KQ (sv : Int) (x : Hd) (text sig : ByteArray) (F : Array Value) (hl : x.sum.length = 32) (hF : F = hdA (bsOf x.room) x.ep x.ix x.sum (bsOf x.sig)) : Tryz.prog.built 50 [(0, .int .i64 sv), (1, .agg F), (2, .string text), (3, .string sig)] = some (oneF ⟨sv, x, text, sig⟩).toArray := by
 obtain ⟨C, hC⟩ : ∃ C : Array Value, C = (byV x.sum).toArray := ⟨_, rfl⟩
 have h1 : (oneF ⟨sv, x, text, sig⟩).toArray = ([.int .i64 sv, .string (bsOf x.room), .int .i64 x.ep, .int .i64 x.ix] ++ C.toList ++ [.string (bsOf x.sig), .string text, .string sig] : List Value).toArray := by
  rw [hC]; unfold oneF oneL; rw [Fg hl]
 have h2 : F = ([.string (bsOf x.room), .int .i64 x.ep, .int .i64 x.ix] ++ C.toList ++ [.string (bsOf x.sig)] : List Value).toArray := by
  rw [hF, hC]; rfl
 obtain ⟨c0, c1, c2, c3, c4, c5, c6, c7, c8, c9, c10, c11, c12, c13, c14, c15, c16, c17, c18, c19, c20, c21, c22, c23, c24, c25, c26, c27, c28, c29, c30, c31, hc⟩ := HdT.cells32 C (by rw [hC]; simp [AZ, hl])
 rw [h1, h2, hc]
 generalize bsOf x.room = r
 generalize bsOf x.sig = g
 generalize x.ep = ep
 generalize x.ix = ix
 clear h1 h2 hc hC hF hl C F
 change _ = _
 kernel_rfl
theorem Jw {P : Program} {o : Oper} {a : Act} {w : World} (t : TypeId) (parts : Array (Nat × Operand)) (ho : o.op = .build t parts) (cells : Array Value)
 (hb : P.built t (parts.map fun (i, x) => (i, a.eval x)).toList = some cells) : (execOp a.eval o).run P w = .ok (.value (.agg cells)) w := by
 have := run_build (P := P) w t (parts.map fun (i, x) => (i, a.eval x)) cells hb
 simp only [execOp, ho, Sem.run_bind, this, Result.andThen_ok]
 rfl
section
variable {P : Program} {ops : Array Oper} {Q : Exit → Act → World → Prop} {md : Region.Mode} {S : World → Prop} {K : List Nat}
theorem I4 {i j : Nat} {fuel : Nat} {listed : Array Bool} {a : Act} {w : World} (hr : Region.ready md ops listed = [i, j])
 (h : wpOp P ops Q i (fun a' w' => S w' ∧ Wr.Ar P md ops Q S K fuel (listed.setIfInBounds i true) a' w') a w)
 (h2 : wpOp P ops Q j (fun a' w' => S w' ∧ Wr.Ar P md ops Q S K fuel (listed.setIfInBounds j true) a' w') a w) : Wr.Ar P md ops Q S K (fuel + 1) listed a w :=
 ⟨fun h0 => absurd (hr ▸ h0) (by simp), fun k hk => by
  rw [hr] at hk
  simp only [List.mem_cons, List.not_mem_nil, or_false] at hk
  rcases hk with rfl | rfl
  ·exact wpOp_mono (fun a' w' h' => ⟨fun _ => h'.1, h'.2⟩) h
  ·exact wpOp_mono (fun a' w' h' => ⟨fun _ => h'.1, h'.2⟩) h2⟩
end
theorem Jv (C : Array Value) (hC : C.size = 39) : Array.foldl (fun (cs : Array Value) x => cs.setIfInBounds x.snd x.fst) (#[.int .i64 0, .string ⟨#[]⟩, .int .i64 0, .int .i64 0, .int .u8 0, .int .u8 0, .int .u8 0, .int .u8 0, .int .u8 0, .int .u8 0, .int .u8 0, .int .u8 0, .int .u8 0, .int .u8 0, .int .u8 0, .int .u8 0, .int .u8 0, .int .u8 0, .int .u8 0, .int .u8 0, .int .u8 0, .int .u8 0, .int .u8 0, .int .u8 0, .int .u8 0, .int .u8 0, .int .u8 0, .int .u8 0, .int .u8 0, .int .u8 0, .int .u8 0, .int .u8 0, .int .u8 0, .int .u8 0, .int .u8 0, .int .u8 0, .string ⟨#[]⟩, .string ⟨#[]⟩, .string ⟨#[]⟩] : Array Value) C.zipIdx 0 39 = C := by
 have h1 : C.zipIdx.size = 39 := by simp [hC]
 rw [← h1, ← Array.foldl_toList, Array.toList_zipIdx, KeyG.IV C.toList 0 _ (by simp [hC])]
 simp
theorem Il {w : World} {base g : Nat} {e : TypeId} {size : Nat} (h : w.heap[g]? = some (.cells #[] e (0, 0))) (hb : base ≤ g) : Ow w base e size (.slice (some ⟨g, 0, none⟩) 0 0) 0 [] :=
 ⟨by simp, .inr ⟨g, 0, #[], (0, 0), rfl, hb, h, Nat.le_refl _, by unfold maxLen; omega, by simp, by simp, fun j hj => by simp at hj⟩⟩
theorem JY : ∀ A : Option Sn, (rowOf A).size = 39
 | some x => by unfold rowOf; rw [List.size_toArray, oF.len]
 | none => rfl
theorem row_one : ∀ A : Option Sn, (rowOf A).all (·.oneCell') = true
 | some x => by unfold rowOf; rw [Array.all_eq_true_iff_forall_mem]; intro u hu; exact oF.one x u (by simpa using hu)
 | none => by unfold rowOf K8; rw [Array.all_eq_true_iff_forall_mem]; intro u hu; exact one_one _ _ _ _ _ _ _ _ u (by simpa using hu)
theorem Ke (w : World) (Bs : Nat) (bv s : Value) (B : List Gr') (L : List Sn) (sv : Int) (text sig : ByteArray) (hB : Sl w bv 36 B.length (B.flatMap Gr'.cs)) (hs : Ow w Bs 50 39 s L.length (L.flatMap oneF)) (hBs : Bs ≤ w.heap.size) (hsv : InI sv) (ht : text.size ≤ maxLen) (hg : sig.size ≤ maxLen) (hL : L.length ≤ 1000) (hsum : ∀ x ∈ L, x.h.sum.length = 32) (hv : Am w) (hk : Au w) :
 Calls Tryz.prog 8 #[.agg #[bv, s], .int .i64 sv, .string text, .string sig] w fun e w' => ∃ s', e = .returned (.tuple #[.agg #[bv, s'], .agg (CE B L sv text sig).p, .bool (CE B L sv text sig).is, .int .i64 (CE B L sv text sig).y]) ∧ Ow w' Bs 50 39 s' (CE B L sv text sig).l.length ((CE B L sv text sig).l.flatMap oneF) ∧ Below w.heap.size w w' := by
 obtain ⟨O, hO⟩ := nXe (CE B L sv text sig)
 rw [← hO]
 obtain ⟨ba, bn, bc, rfl⟩ : ∃ a n c, bv = .slice a n c := by obtain ⟨a, c, h, _⟩ := hB.form; exact ⟨a, _, c, h⟩
 obtain ⟨sa, sc, rfl, _, _⟩ := hs.form
 obtain ⟨HBV, HOW, HV, HK⟩ := l4h hB hs hv hk
 unfold CE at hO
 obtain ⟨w0, hw0⟩ := nXe (((w.alloc (.cells #[.slice ba bn bc, .slice sa L.length sc] 31)).alloc (.cells #[.slice none 0 0, .slice none 0 0] 31)).alloc (.cells #[.int .i64 0, .string ⟨#[]⟩, .string ⟨#[]⟩, .string ⟨#[]⟩, .string ⟨#[]⟩] 37))
 have hb0 : Below w.heap.size w w0 := by rw [hw0]; exact Bl.new (Bl.new (Bl.new (Below.refl _ _) _) _) _
 obtain ⟨HW0, HB0⟩ := l2h hw0 hb0
 have HP0 := lh (show w0.heap[w.heap.size]? = some (.cells #[.slice ba bn bc, .slice sa L.length sc] 31 (0, 0)) by rw [hw0]; exact Ak (Ak (AL _ _) _) _)
 have HQ0 := lh (show w0.heap[w.heap.size + 1]? = some (.cells #[.slice none 0 0, .slice none 0 0] 31 (0, 0)) by rw [hw0]; exact Ak (Ad _ (by simp)) _)
 have HZ0 := lh (show w0.heap[w.heap.size + 2]? = some (.cells #[.int .i64 0, .string ⟨#[]⟩, .string ⟨#[]⟩, .string ⟨#[]⟩, .string ⟨#[]⟩] 37 (0, 0)) by rw [hw0]; exact Ad _ (by simp))
 have hs0 : w0.heap.size = w.heap.size + 3 := by rw [hw0]; simp
 clear hs hB hv hk hw0 hb0
 cases hlong : Ey text sig
 ·rw [hlong] at hO
  simp only [Bool.false_eq_true, if_false] at hO
  have hlo := long_no hlong
  have dt : decide ((8192 : Int) < (text.size : Int)) = false := dF (by omega)
  have dg : decide ((8192 : Int) < (sig.size : Int)) = false := dF (by omega)
  have HSay := lh (PfB.Lc w0 text (by omega) (HV.out.below HB0.out) (HK.out.below HB0.out))
  cases hx : says (bl text) with
  | none =>
    rw [hx] at hO HSay
    unfold hdV at HSay
    simp only at hO HSay
    have HO := lh hO
    obtain ⟨F, hF⟩ := nXe (hdZ)
    have hFn : F.size = 36 := by rw [hF]; rfl
    have HFS := lh (show (Tryz.prog.info? 46).map (·.size) = some F.size by rw [hFn]; kernel_rfl)
    have HFN := lh hFn
    have HFO := lh (show F.all (·.oneCell') = true by rw [hF]; exact Av _ _ _ _ _)
    rw [← hF] at HSay
    clear hO hF hFn hlong
    go_enter func8, ntmps8
    go_wp2_with fail
    rw [← HW0.out]
    refine HSay.out.mono ?_
    rintro e' w1 ⟨rfl, hb⟩
    have HBL1 := tbB HB0 hb
    have HP1 := kpB hb HP0
    have HQ1 := kpB hb HQ0
    have HZ1 := kpB hb HZ0
    have z1' := hb.size
    clear hb
    go_wp2_with (first | (refine AC rfl _ _ _ rfl w1.heap.size F rfl rfl _ _ (AL _ _) HFS.out (by rw [HFN.out]; rfl) HFO.out ?_) | fail)
    intro u hu
    obtain ⟨w2, hw2⟩ := nXe (u)
    rw [← hw2] at hu ⊢
    clear hw2
    have hb : Below w1.heap.size w1 w2 := by rw [hu.out]; exact AQ bAx nR _
    have hf2 : w2.heap[w1.heap.size]? = some (.cells F 46 (0, 0)) := by rw [hu.out]; exact AR (AL _ _)
    obtain ⟨BF, hBF⟩ := nXe (w1.heap.size)
    rw [← hBF] at hf2 ⊢
    have HF2 := lh hf2
    have HP2 := kpB hb HP1
    have HQ2 := kpB hb HQ1
    have HZ2 := kpB hb HZ1
    have HBL2 := tbB HBL1 hb
    have z2' := hb.size
    have hBW : w.heap.size + 3 ≤ BF := by omega
    clear hb hu hf2 hBF
    obtain ⟨p0, p1⟩ := AA HP2.out
    obtain ⟨q0, q1⟩ := AA HQ2.out
    obtain ⟨z0, z1⟩ := AA HZ2.out
    go_wp2
    change bodyPost _ _ _ _ _ (setP (set2 w2 (w.heap.size + 1) (.slice ba bn bc) (.slice sa L.length sc)) (w.heap.size + 2) (.int .i64 0) (.string ⟨#[]⟩) (.string ⟨#[]⟩) (.string ⟨#[]⟩) (.string ⟨#[]⟩))
    obtain ⟨wF, hwF⟩ := nXe (setP (set2 w2 (w.heap.size + 1) (.slice ba bn bc) (.slice sa L.length sc)) (w.heap.size + 2) (.int .i64 0) (.string ⟨#[]⟩) (.string ⟨#[]⟩) (.string ⟨#[]⟩) (.string ⟨#[]⟩))
    rw [← hwF]
    have hF8 : wF.heap[w.heap.size + 1]? = some (.cells #[.slice ba bn bc, .slice sa L.length sc] 31 (0, 0)) := by rw [hwF]; exact (Bi (S := fun k => k = w.heap.size + 2) (Ext.refl _ _) (.inl rfl) _ _ _ _ _).Ai (EG HQ2.out _ _) (fun e => by omega)
    have hF9 : wF.heap[w.heap.size + 2]? = some (.cells #[.int .i64 0, .string ⟨#[]⟩, .string ⟨#[]⟩, .string ⟨#[]⟩, .string ⟨#[]⟩] 37 (0, 0)) := by rw [hwF]; exact Cj ((CX (S := fun k => k = w.heap.size + 1) (Ext.refl _ _) (.inl rfl) _ _).Ai HZ2.out (fun e => by omega)) _ _ _ _ _
    have HEF := lh (show Ext (fun k => k = w.heap.size + 1 ∨ k = w.heap.size + 2) w2 wF by rw [hwF]; exact Bi (S := fun k => k = w.heap.size + 1 ∨ k = w.heap.size + 2) (CX (S := fun k => k = w.heap.size + 1 ∨ k = w.heap.size + 2) (Ext.refl _ _) (.inl (.inl rfl)) _ _) (.inl (.inr rfl)) _ _ _ _ _)
    obtain ⟨cF8, fF8⟩ := AA hF8
    obtain ⟨cF9, fF9⟩ := AA hF9
    clear hwF hF8 hF9
    refine bodyPost_ret (v := .tuple #[.agg #[.slice ba bn bc, .slice sa L.length sc], .agg #[.int .i64 0, .string ⟨#[]⟩, .string ⟨#[]⟩, .string ⟨#[]⟩, .string ⟨#[]⟩], .bool false, .int .i64 6]) (by simp [results, Tryz.results8, go_sem, cF8, fF8, cF9, fF9]; done) rfl ?_
    have hBF := Bl.ext HBL2.out HEF.out (fun k hk e => by omega)
    rw [HO.out]
    exact ⟨_, rfl, HOW.out.ext (Ext.of_below (S := fun _ => False) hBF) (fun _ _ h => h), hBF⟩
  | some x =>
    rw [hx] at hO HSay
    unfold hdV at HSay
    simp only at hO HSay
    have hwf := wf_says (sv := sv) hx hsv
    have HWF := lh hwf
    obtain ⟨y, hy⟩ := nXe (A7 B sv x.ix (bl text) (bl sig))
    rw [← hy] at hO
    have HO := lh hO
    have hver := fun W (hW : Below w.heap.size w W) => RkJ.Gp W (.slice ba bn bc) B sv x.ix text sig (Sl.below HBV.out hW) (by omega) hg
    rw [← hy] at hver
    have HVER := lh hver
    have hP : HdP (hdA (bsOf x.room) x.ep x.ix x.sum (bsOf x.sig)) (bsOf x.room) x.ep x.ix x.sum (bsOf x.sig) := ⟨rfl, hwf.sum⟩
    obtain ⟨F, hF⟩ := nXe (hdA (bsOf x.room) x.ep x.ix x.sum (bsOf x.sig))
    rw [← hF] at hP HSay
    have hFn := hP.size
    have HFS := lh (show (Tryz.prog.info? 46).map (·.size) = some F.size by rw [hFn]; kernel_rfl)
    have HFN := lh hFn
    have HFO := lh (show F.all (·.oneCell') = true by rw [hF]; exact Av _ _ _ _ _)
    obtain ⟨HP, HFE⟩ := l2h hP hF
    clear hO hF hFn hlong hver hy hwf hP hx
    go_enter func8, ntmps8
    go_wp2_with fail
    rw [← HW0.out]
    refine HSay.out.mono ?_
    rintro e' w1 ⟨rfl, hb⟩
    have HBL1 := tbB HB0 hb
    have HP1 := kpB hb HP0
    have HQ1 := kpB hb HQ0
    have HZ1 := kpB hb HZ0
    have z1' := hb.size
    clear hb
    go_wp2_with (first | (refine AC rfl _ _ _ rfl w1.heap.size F rfl rfl _ _ (AL _ _) HFS.out (by rw [HFN.out]; rfl) HFO.out ?_) | fail)
    intro u hu
    obtain ⟨w2, hw2⟩ := nXe (u)
    rw [← hw2] at hu ⊢
    clear hw2
    have hb : Below w1.heap.size w1 w2 := by rw [hu.out]; exact AQ bAx nR _
    have hf2 : w2.heap[w1.heap.size]? = some (.cells F 46 (0, 0)) := by rw [hu.out]; exact AR (AL _ _)
    obtain ⟨BF, hBF⟩ := nXe (w1.heap.size)
    rw [← hBF] at hf2 ⊢
    have HF2 := lh hf2
    have HP2 := kpB hb HP1
    have HQ2 := kpB hb HQ1
    have HZ2 := kpB hb HZ1
    have HBL2 := tbB HBL1 hb
    have z2' := hb.size
    have hBW : w.heap.size + 3 ≤ BF := by omega
    clear hb hu hf2 hBF
    have hp2 := HP2.out
    obtain ⟨p0, p1⟩ := AA hp2
    have f2 : w2.cell? ⟨BF, 2, none⟩ = some (.int .i64 x.ix) := (AO HF2.out).trans HP.out.c2
    go_wp2_with fail
    refine (HVER.out w2 HBL2.out).mono ?_
    rintro e' w3 ⟨rfl, hb⟩
    have HBL3 := tbB HBL2 hb
    have HP3 := kpB hb HP2
    have HQ3 := kpB hb HQ2
    have HZ3 := kpB hb HZ2
    have HF3 := kpB hb HF2
    have z3' := hb.size
    clear hb f2 hp2 p0 p1
    obtain ⟨p0, p1⟩ := AA HP3.out
    obtain ⟨q0, q1⟩ := AA HQ3.out
    obtain ⟨z0, z1⟩ := AA HZ3.out
    by_cases hy : y = 0
    ·subst hy
     rw [if_pos rfl] at HO
     have HP' := HP
     clear q0 q1 z0 z1
     have hFI := JK w3 (.slice ba bn bc) (.slice sa L.length sc) L sv x ⟨_, _, _, rfl⟩ (HOW.out.sl.below HBL3.out) hL
     obtain ⟨rm, hrm⟩ := nXe (bsOf x.room)
     rw [← hrm] at hFI
     have k0 : w3.cell? ⟨BF, 0, none⟩ = some (.string rm) := by rw [hrm]; exact (AO HF3.out).trans HP.out.c0
     have k1 : w3.cell? ⟨BF, 1, none⟩ = some (.int .i64 x.ep) := (AO HF3.out).trans HP.out.c1
     have k2 : w3.cell? ⟨BF, 2, none⟩ = some (.int .i64 x.ix) := (AO HF3.out).trans HP.out.c2
     obtain ⟨A, hA⟩ := nXe (first L sv x)
     rw [← hA] at hFI
     obtain ⟨G, hG⟩ := nXe (rowOf A)
     rw [← hG] at hFI
     have hGn : G.size = 39 := by rw [hG]; exact JY A
     have HGS := lh (show (Tryz.prog.info? 50).map (·.size) = some G.size by rw [hGn]; kernel_rfl)
     have HGN := lh hGn
     have HGO := lh (show G.all (·.oneCell') = true by rw [hG]; exact row_one A)
     obtain ⟨HFI, HA, HG, Hrm⟩ := l4h hFI hA hG hrm
     clear hFI hA hG hGn hrm
     go_wp2_with fail
     refine HFI.out.mono ?_
     rintro e' w4 ⟨rfl, hb⟩
     have HBL4 := tbB HBL3 hb
     have HP4 := kpB hb HP3
     have HQ4 := kpB hb HQ3
     have HZ4 := kpB hb HZ3
     have HF4 := kpB hb HF3
     have z4' := hb.size
     clear hb k0 k1 k2 p0 p1
     go_wp2_with (first | (refine AC rfl _ _ _ rfl w4.heap.size G rfl rfl _ _ (AL _ _) HGS.out (by rw [HGN.out]; rfl) HGO.out ?_) | fail)
     intro u hu
     obtain ⟨w5, hw5⟩ := nXe (u)
     rw [← hw5] at hu ⊢
     clear hw5
     have hb : Below w4.heap.size w4 w5 := by rw [hu.out]; exact AQ bAx nR _
     have hg5 : w5.heap[w4.heap.size]? = some (.cells G 50 (0, 0)) := by rw [hu.out]; exact AR (AL _ _)
     obtain ⟨BG, hBG⟩ := nXe (w4.heap.size)
     rw [← hBG] at hg5 ⊢
     have HG5 := lh hg5
     have HBL5 := tbB HBL4 hb
     have HP5 := kpB hb HP4
     have HQ5 := kpB hb HQ4
     have HZ5 := kpB hb HZ4
     have HF5 := kpB hb HF4
     have z5' := hb.size
     have Mv : BF < BG := by have := AJ HF4.out; omega
     clear hb hu hg5 hBG
     obtain ⟨p0, p1⟩ := AA HP5.out
     obtain ⟨q0, q1⟩ := AA HQ5.out
     obtain ⟨z0, z1⟩ := AA HZ5.out
     have Ml : BG < w5.heap.size := AJ HG5.out
     have HFi := lh (show (Tryz.prog.info? 46).map (·.size) = some 36 by kernel_rfl)
     cases hA2 : A with
     | some xx =>
       have hGx : G = (oneF xx).toArray := by rw [HG.out, hA2]; rfl
       have hxm : xx ∈ L := List.mem_of_find?_eq_some (HA.out.symm.trans hA2)
       have hxl := hsum xx hxm
       have g37 : w5.cell? ⟨BG, 37, none⟩ = some (.string xx.text) := (AO HG5.out).trans (by rw [hGx]; exact Kg hxl)
       have g38 : w5.cell? ⟨BG, 38, none⟩ = some (.string xx.sig) := (AO HG5.out).trans (by rw [hGx]; exact LH hxl)
       obtain ⟨M1, hM1⟩ : ∃ M : Array Value, M = (byV xx.h.sum).toArray := ⟨_, rfl⟩
       obtain ⟨M2, hM2⟩ : ∃ M : Array Value, M = (byV x.sum).toArray := ⟨_, rfl⟩
       have HM1S := lh (show (Tryz.prog.info? 44).map (·.size) = some M1.size by rw [show M1.size = 32 by rw [hM1]; simp [AZ, hxl]]; kernel_rfl)
       have HM2S := lh (show (Tryz.prog.info? 44).map (·.size) = some M2.size by rw [show M2.size = 32 by rw [hM2]; simp [AZ, HWF.out.sum]]; kernel_rfl)
       have MI := lh (show ∀ (j : Nat) (u : Value), M1.toList[j]? = some u → w5.cell? ⟨BG, 4 + j, none⟩ = some u from fun j u hu => by rw [hM1] at hu; exact (AO HG5.out).trans (by rw [hGx]; exact K6 hxl hu))
       have MH := lh (show ∀ (j : Nat) (u : Value), M2.toList[j]? = some u → w5.cell? ⟨BF, 3 + j, none⟩ = some u from fun j u hu => by rw [hM2] at hu; exact (AO HF5.out).trans (HP'.out.cp j u hu))
       have hqs : ∀ w, (Op.equalIn 10000 44 (.agg M1) (.agg M2)).run Tryz.prog w = .ok (decide (xx.h.sum = x.sum)) w := fun w => by rw [hM1, hM2]; exact hash_eq hxl HWF.out.sum w
       have hGS := EqHash.D8
       have hO1 := HO.out
       unfold DI at hO1
       rw [← HA.out, hA2] at hO1
       simp only at hO1
       clear hM1 hM2 hGx hxm
       by_cases he : xx.h.sum = x.sum
       ·rw [if_pos he] at hO1
        rw [dT he] at hqs
        have HO := lh hO1
        clear hO1
        go_wp2_with (first | (guard_target =~ wpList _ _ _ (Oper.mk _ (Op.load 44 _) _ _ _ _ :: _) _ _; refine Aq (by kernel_rfl) 44 _ rfl BG 4 rfl M1 MI.out underlying44 rfl HM1S.out ?_) | (guard_target =~ wpList _ _ _ (Oper.mk _ (Op.load 44 _) _ _ _ _ :: _) _ _; refine Aq (by kernel_rfl) 44 _ rfl BF 3 rfl M2 MH.out underlying44 rfl HM2S.out ?_))
        change bodyPost _ _ _ _ _ (setP (set2 w5 (w.heap.size + 1) (.slice ba bn bc) (.slice sa L.length sc)) (w.heap.size + 2) (.int .i64 0) (.string ⟨#[]⟩) (.string ⟨#[]⟩) (.string ⟨#[]⟩) (.string ⟨#[]⟩))
        obtain ⟨wF, hwF⟩ := nXe (setP (set2 w5 (w.heap.size + 1) (.slice ba bn bc) (.slice sa L.length sc)) (w.heap.size + 2) (.int .i64 0) (.string ⟨#[]⟩) (.string ⟨#[]⟩) (.string ⟨#[]⟩) (.string ⟨#[]⟩))
        rw [← hwF]
        have hF8 : wF.heap[w.heap.size + 1]? = some (.cells #[.slice ba bn bc, .slice sa L.length sc] 31 (0, 0)) := by rw [hwF]; exact (Bi (S := fun k => k = w.heap.size + 2) (Ext.refl _ _) (.inl rfl) _ _ _ _ _).Ai (EG HQ5.out _ _) (fun e => by omega)
        have hF9 : wF.heap[w.heap.size + 2]? = some (.cells #[.int .i64 0, .string ⟨#[]⟩, .string ⟨#[]⟩, .string ⟨#[]⟩, .string ⟨#[]⟩] 37 (0, 0)) := by rw [hwF]; exact Cj ((CX (S := fun k => k = w.heap.size + 1) (Ext.refl _ _) (.inl rfl) _ _).Ai HZ5.out (fun e => by omega)) _ _ _ _ _
        have HEF := lh (show Ext (fun k => k = w.heap.size + 1 ∨ k = w.heap.size + 2) w5 wF by rw [hwF]; exact Bi (S := fun k => k = w.heap.size + 1 ∨ k = w.heap.size + 2) (CX (S := fun k => k = w.heap.size + 1 ∨ k = w.heap.size + 2) (Ext.refl _ _) (.inl (.inl rfl)) _ _) (.inl (.inr rfl)) _ _ _ _ _)
        obtain ⟨cF8, fF8⟩ := AA hF8
        obtain ⟨cF9, fF9⟩ := AA hF9
        clear hwF hF8 hF9
        refine bodyPost_ret (v := .tuple #[.agg #[.slice ba bn bc, .slice sa L.length sc], .agg #[.int .i64 0, .string ⟨#[]⟩, .string ⟨#[]⟩, .string ⟨#[]⟩, .string ⟨#[]⟩], .bool false, .int .i64 0]) (by simp [results, Tryz.results8, go_sem, cF8, fF8, cF9, fF9]; done) rfl ?_
        have hBF := Bl.ext HBL5.out HEF.out (fun k hk e => by omega)
        rw [HO.out]
        exact ⟨_, rfl, HOW.out.ext (Ext.of_below (S := fun _ => False) hBF) (fun _ _ h => h), hBF⟩
       ·rw [if_neg he] at hO1
        rw [dF he] at hqs
        have HO := lh hO1
        clear hO1
        go_wp2_with (first | (guard_target =~ wpList _ _ _ (Oper.mk _ (Op.load 44 _) _ _ _ _ :: _) _ _; refine Aq (by kernel_rfl) 44 _ rfl BG 4 rfl M1 MI.out underlying44 rfl HM1S.out ?_) | (guard_target =~ wpList _ _ _ (Oper.mk _ (Op.load 44 _) _ _ _ _ :: _) _ _; refine Aq (by kernel_rfl) 44 _ rfl BF 3 rfl M2 MH.out underlying44 rfl HM2S.out ?_))
        clear p0 p1 z0 z1
        have hS0 : (w5.drew).heap[w.heap.size]? = some (.cells #[.slice ba bn bc, .slice sa L.length sc] 31 (0, 0)) ∧ (w5.drew).cell? ⟨BG, 37, none⟩ = some (.string xx.text) ∧ (w5.drew).cell? ⟨BG, 38, none⟩ = some (.string xx.sig) := ⟨HP5.out, g37, g38⟩
        refine wp_region_noPanic ?_
        refine Wr.BI (S := (fun W => W.heap[w.heap.size]? = some (.cells #[.slice ba bn bc, .slice sa L.length sc] 31 (0, 0)) ∧ W.cell? ⟨BG, 37, none⟩ = some (.string xx.text) ∧ W.cell? ⟨BG, 38, none⟩ = some (.string xx.sig))) (K := []) (by kernel_rfl) ?_
        change Wr.Ar _ _ _ _ _ _ _ _ _ (World.drew w5)
        refine Wr.tkI 0 ?_ ?_ hS0 ?_
        rotate_left
        ·intro wq hSw
         obtain ⟨qq0, qq1, qq2⟩ := hSw
         obtain ⟨qc, qf⟩ := AA qq0
         go_simp
         rfl
        simp only [sq]
        refine Wr.tkE 1 ?_ ?_ hS0 ?_
        rotate_left
        ·intro wq _
         go_simp
         rfl
        simp only [sq]
        refine Wr.tkE 2 ?_ ?_ hS0 ?_
        rotate_left
        ·intro wq _
         go_simp
         rfl
        simp only [sq]
        refine Wr.tkI 3 ?_ ?_ hS0 ?_
        rotate_left
        ·intro wq hSw
         obtain ⟨qq0, qq1, qq2⟩ := hSw
         obtain ⟨qc, qf⟩ := AA qq0
         go_simp
         rfl
        simp only [sq]
        refine Wr.tkE 4 ?_ ?_ hS0 ?_
        rotate_left
        ·intro wq _
         go_simp
         rfl
        simp only [sq]
        refine Wr.tkI 5 ?_ ?_ hS0 ?_
        rotate_left
        ·intro wq hSw
         obtain ⟨qq0, qq1, qq2⟩ := hSw
         obtain ⟨qc, qf⟩ := AA qq0
         go_simp
         rfl
        simp only [sq]
        refine Wr.tkE 6 ?_ ?_ hS0 ?_
        rotate_left
        ·intro wq _
         go_simp
         rfl
        simp only [sq]
        refine Wr.tkE 7 ?_ ?_ hS0 ?_
        rotate_left
        ·intro wq _
         go_simp
         rfl
        simp only [sq]
        refine Wr.tkE 8 ?_ ?_ hS0 ?_
        rotate_left
        ·intro wq _
         go_simp
         rfl
        simp only [sq]
        refine Wr.Ab (i := 9) (by kernel_rfl) ?_
        refine BO rfl (by rfl) (w' := set2 w5.drew (w.heap.size + 1) (.slice ba bn bc) (.slice sa L.length sc)) (by unfold set2; go_simp; first | done | rfl) ?_
        have KM : Ext (fun k => k = w.heap.size + 1) w5 (set2 w5.drew (w.heap.size + 1) (.slice ba bn bc) (.slice sa L.length sc)) := CX (S := fun k => k = w.heap.size + 1) ((Ext.refl _ w5).drew) (.inl rfl) _ _
        have hS1 : (set2 w5.drew (w.heap.size + 1) (.slice ba bn bc) (.slice sa L.length sc)).heap[w.heap.size]? = some (.cells #[.slice ba bn bc, .slice sa L.length sc] 31 (0, 0)) ∧ (set2 w5.drew (w.heap.size + 1) (.slice ba bn bc) (.slice sa L.length sc)).cell? ⟨BG, 37, none⟩ = some (.string xx.text) ∧ (set2 w5.drew (w.heap.size + 1) (.slice ba bn bc) (.slice sa L.length sc)).cell? ⟨BG, 38, none⟩ = some (.string xx.sig) := ⟨KM.Ai HP5.out (fun e => by omega), KM.cellOf g37 (fun e => by have e : BG = w.heap.size + 1 := e; omega), KM.cellOf g38 (fun e => by have e : BG = w.heap.size + 1 := e; omega)⟩
        have LM := KM.Ai HZ5.out (fun e => by omega)
        obtain ⟨y0, y1⟩ := AA LM
        refine ⟨hS1, ?_⟩
        simp only [sq]
        refine Wr.Ab (i := 10) (by kernel_rfl) ?_
        refine BO rfl (by rfl) (w' := setP (set2 w5.drew (w.heap.size + 1) (.slice ba bn bc) (.slice sa L.length sc)) (w.heap.size + 2) (.int .i64 sv) (.string xx.text) (.string xx.sig) (.string text) (.string sig)) (by unfold setP; go_simp; first | done | rfl) ?_
        have KL : Ext (fun k => k = w.heap.size + 1 ∨ k = w.heap.size + 2) w5 (setP (set2 w5.drew (w.heap.size + 1) (.slice ba bn bc) (.slice sa L.length sc)) (w.heap.size + 2) (.int .i64 sv) (.string xx.text) (.string xx.sig) (.string text) (.string sig)) := Bi (S := fun k => k = w.heap.size + 1 ∨ k = w.heap.size + 2) (KM.mono (fun k _ h => .inl h)) (.inl (.inr rfl)) _ _ _ _ _
        have hS2 : (setP (set2 w5.drew (w.heap.size + 1) (.slice ba bn bc) (.slice sa L.length sc)) (w.heap.size + 2) (.int .i64 sv) (.string xx.text) (.string xx.sig) (.string text) (.string sig)).heap[w.heap.size]? = some (.cells #[.slice ba bn bc, .slice sa L.length sc] 31 (0, 0)) ∧ (setP (set2 w5.drew (w.heap.size + 1) (.slice ba bn bc) (.slice sa L.length sc)) (w.heap.size + 2) (.int .i64 sv) (.string xx.text) (.string xx.sig) (.string text) (.string sig)).cell? ⟨BG, 37, none⟩ = some (.string xx.text) ∧ (setP (set2 w5.drew (w.heap.size + 1) (.slice ba bn bc) (.slice sa L.length sc)) (w.heap.size + 2) (.int .i64 sv) (.string xx.text) (.string xx.sig) (.string text) (.string sig)).cell? ⟨BG, 38, none⟩ = some (.string xx.sig) := ⟨KL.Ai HP5.out (fun e => by omega), KL.cellOf g37 (fun e => by have e : BG = w.heap.size + 1 ∨ BG = w.heap.size + 2 := e; omega), KL.cellOf g38 (fun e => by have e : BG = w.heap.size + 1 ∨ BG = w.heap.size + 2 := e; omega)⟩
        refine ⟨hS2, ?_⟩
        simp only [sq]
        have hq12 : (setP (set2 w5.drew (w.heap.size + 1) (.slice ba bn bc) (.slice sa L.length sc)) (w.heap.size + 2) (.int .i64 sv) (.string xx.text) (.string xx.sig) (.string text) (.string sig)).heap[w.heap.size + 1]? = some (.cells #[.slice ba bn bc, .slice sa L.length sc] 31 (0, 0)) := (Bi (S := fun k => k = w.heap.size + 2) (Ext.refl _ _) (.inl rfl) _ _ _ _ _).Ai (EG (w := w5.drew) HQ5.out _ _) (fun e => by omega)
        have LK : (setP (set2 w5.drew (w.heap.size + 1) (.slice ba bn bc) (.slice sa L.length sc)) (w.heap.size + 2) (.int .i64 sv) (.string xx.text) (.string xx.sig) (.string text) (.string sig)).heap[w.heap.size + 2]? = some (.cells #[.int .i64 sv, .string xx.text, .string xx.sig, .string text, .string sig] 37 (0, 0)) := Cj LM _ _ _ _ _
        obtain ⟨w12, Ll⟩ := nXe (setP (set2 w5.drew (w.heap.size + 1) (.slice ba bn bc) (.slice sa L.length sc)) (w.heap.size + 2) (.int .i64 sv) (.string xx.text) (.string xx.sig) (.string text) (.string sig))
        rw [← Ll] at hq12 LK KL hS2 ⊢
        clear Ll y0 y1 KM hS1 hS0 LM
        obtain ⟨u0, u1⟩ := AA hq12
        obtain ⟨u2, u3⟩ := AA LK
        refine Wr.tkE 11 ?_ ?_ hS2 ?_
        rotate_left
        ·intro wq _
         go_simp
         rfl
        simp only [sq]
        refine Wr.tkE 12 ?_ ?_ hS2 ?_
        rotate_left
        ·intro wq _
         go_simp
         rfl
        simp only [sq]
        refine Wr.Ag (by kernel_rfl) (NoPanic.normal ?_) _
        have Mg := lh KL
        clear KL hS2 hq12 LK
        go_wp2
        refine bodyPost_ret (v := .tuple #[.agg #[.slice ba bn bc, .slice sa L.length sc], .agg #[.int .i64 sv, .string xx.text, .string xx.sig, .string text, .string sig], .bool true, .int .i64 0]) (by simp [results, Tryz.results8, go_sem, u0, u1, u2, u3]; done) rfl ?_
        have hBF := Bl.ext HBL5.out Mg.out (fun k hk e => by omega)
        rw [HO.out]
        exact ⟨_, rfl, HOW.out.ext (Ext.of_below (S := fun _ => False) hBF) (fun _ _ h => h), hBF⟩
     | none =>
       obtain ⟨nx, hnx⟩ : ∃ n : Sn, n = ⟨sv, x, text, sig⟩ := ⟨_, rfl⟩
       have hO2 : O = ⟨L ++ [nx], pfZ, false, 0⟩ := by
        rw [HO.out]
        unfold DI
        rw [← HA.out, hA2, hnx]
        simp
        omega
       have d4 : decide ((L.length : Int) = 4096) = false := dF (by omega)
       obtain ⟨Y, hY⟩ := nXe ((oneF nx).toArray)
       have HYL := lh (show Y.toList = oneF nx by rw [hY])
       have HYN := lh (show Y.size = 39 by rw [hY, List.size_toArray, oF.len])
       have HYB := lh (show Tryz.prog.built 50 [(0, .int .i64 sv), (1, .agg F), (2, .string text), (3, .string sig)] = some Y by rw [hY, hnx]; exact KQ sv x text sig F HWF.out.sum HFE.out)
       clear hY hnx q0 q1 z0 z1
       go_wp2_with fail
       clear p0 p1
       have hS0 : (w5.drew).heap[w.heap.size]? = some (.cells #[.slice ba bn bc, .slice sa L.length sc] 31 (0, 0)) ∧ (w5.drew).heap[BF]? = some (.cells F 46 (0, 0)) := ⟨HP5.out, HF5.out⟩
       have HSL := lh (show Sl w5.drew (.slice sa L.length sc) 39 L.length (L.flatMap oneF) from HOW.out.sl.below (HBL5.out.drew))
       refine wp_region_noPanic ?_
       refine Wr.BI (S := (fun W => W.heap[w.heap.size]? = some (.cells #[.slice ba bn bc, .slice sa L.length sc] 31 (0, 0)) ∧ W.heap[BF]? = some (.cells F 46 (0, 0)))) (K := [12]) (by kernel_rfl) ?_
       change Wr.Ar _ _ _ _ _ _ _ _ _ (World.drew w5)
       refine Wr.tkE 1 ?_ ?_ hS0 ?_
       rotate_left
       ·intro wq _
        go_simp
        rfl
       simp only [sq]
       refine Wr.Bq [3, 10, 12] (i := 2) (v := ?_) rfl (by kernel_rfl) (fun _ _ _ h => h) (Or.inl ⟨by rfl, ?_⟩) hS0 ?_
       rotate_left
       ·intro wq hSw
        obtain ⟨qc, qf⟩ := AA hSw.1
        go_simp
        rfl
       simp only [sq]
       refine Wr.tkE 4 ?_ ?_ hS0 ?_
       rotate_left
       ·intro wq _
        go_simp
        rfl
       simp only [sq]
       refine Wr.Bq [8, 9, 10, 12] (i := 5) (v := .agg F) rfl (by kernel_rfl) (fun _ _ _ h => h) (Or.inl ⟨by rfl, fun wq hSw => EqHash.Bg 46 _ rfl BF rfl hSw.2 underlying46 rfl (by rw [HFN.out]; exact HFi.out)⟩) hS0 ?_
       simp only [sq]
       refine Wr.tkE 6 ?_ ?_ hS0 ?_
       rotate_left
       ·intro wq _
        go_simp
        rfl
       simp only [sq]
       refine Wr.tkE 7 ?_ ?_ hS0 ?_
       rotate_left
       ·intro wq _
        go_simp
        rfl
       simp only [sq]
       refine Wr.Ac (i := 8) (v := .agg Y) rfl (by kernel_rfl) (fun _ _ _ h => h) (Or.inl ⟨by rfl, fun wq _ => Jw 50 _ rfl Y (by first | exact HYB.out | (go_simp; exact HYB.out))⟩) hS0 ?_
       simp only [sq]
       refine I4 (i := 0) (j := 9) (by kernel_rfl) ?_ ?_
       ·skip
        refine Ap rfl (by rfl) (v := .slice (some ⟨w5.heap.size, 0, none⟩) 0 0) (w' := w5.drew.alloc (.cells #[] 50)) (by go_simp; first | done | rfl | exact ⟨rfl, rfl⟩) ?_
        obtain ⟨wE, hw1⟩ := nXe (w5.drew.alloc (.cells #[] 50))
        have hb1 : Below w5.drew.heap.size w5.drew wE := by rw [hw1]; exact bAx
        have hnE : wE.heap[w5.heap.size]? = some (.cells #[] 50 (0, 0)) := by rw [hw1]; exact Ad _ rfl
        have hzE : wE.heap.size = w5.heap.size + 1 := by rw [hw1]; simp
        rw [← hw1]
        obtain ⟨hE, hB1⟩ := l2h hnE ((HBL5.out.drew).trans (hb1.mono (HBL5.out.drew).size))
        have hs1 : wE.heap[w.heap.size]? = some (.cells #[.slice ba bn bc, .slice sa L.length sc] 31 (0, 0)) ∧ wE.heap[BF]? = some (.cells F 46 (0, 0)) := ⟨(hb1.block _ (AJ hS0.1)).trans hS0.1, (hb1.block _ (AJ hS0.2)).trans hS0.2⟩
        have hl1 := lh (Sl.below HSL.out hb1)
        have Kj := kpB hb1 HQ5
        have Ki := kpB hb1 HZ5
        clear hw1 hb1 hnE
        refine ⟨hs1, ?_⟩
        simp only [sq]
        refine I4 (i := 3) (j := 9) (by kernel_rfl) ?_ ?_
        ·skip
         refine Wr.Ci rfl (by rfl) _ _ _ _ rfl Li w5.heap.size (.slice (some ⟨w5.heap.size, 0, none⟩) 0 0) 0 [] rfl (Il hE.out (by omega)) (.slice sa L.length sc) L.length (L.flatMap oneF) rfl (Sl.src hl1.out underlying29 (fun u hu => by obtain ⟨y, _, hy⟩ := List.mem_flatMap.1 hu; exact oF.one y u hy)) L.length (Nat.zero_add _) (L.flatMap oneF) (List.nil_append _) (by unfold maxLen; omega) (by omega) (by first | omega | (have := (hB1.out).size; omega)) ?_
         intro aC cC wC hownC hgrC hatC
         have hzC := hgrC.size
         have Ij : ∀ j, j ≠ w5.heap.size → some j ≠ (Value.slice (some ⟨w5.heap.size, 0, none⟩) 0 0).ownBlock := fun j hj e => by simp [Value.ownBlock] at e; omega
         have hB2 := lh (Below.grown hB1.out hgrC (by first | omega | (have := (hB1.out).size; omega)) (fun j hj => by simp [Value.ownBlock] at hj; omega))
         have hs2 : wC.heap[w.heap.size]? = some (.cells #[.slice ba bn bc, .slice sa L.length sc] 31 (0, 0)) ∧ wC.heap[BF]? = some (.cells F 46 (0, 0)) := ⟨(hgrC.block _ (AJ hs1.1) (Ij _ (by omega))).trans hs1.1, (hgrC.block _ (AJ hs1.2) (Ij _ (by omega))).trans hs1.2⟩
         have Jr := lh ((hgrC.block _ (AJ (Kj.out)) (Ij _ (by omega))).trans (Kj.out))
         have Jq := lh ((hgrC.block _ (AJ (Ki.out)) (Ij _ (by omega))).trans (Ki.out))
         have hc2 := lh hownC
         clear hownC
         refine ⟨hs2, ?_⟩
         simp only [sq]
         refine Wr.Ab (i := 9) (by kernel_rfl) ?_
         refine Ap rfl (by rfl) (v := .slice (some ⟨wC.heap.size, 0, none⟩) 1 1) (w' := wC.alloc (.cells Y 50)) (by have hy := HYN.out; go_simp; rw [Jv Y hy]; first | done | rfl | exact ⟨rfl, rfl⟩) ?_
         obtain ⟨wG, hw1⟩ := nXe (wC.alloc (.cells Y 50))
         have hb1 : Below wC.heap.size wC wG := by rw [hw1]; exact bAx
         have hnG : wG.heap[wC.heap.size]? = some (.cells Y 50 (0, 0)) := by rw [hw1]; exact Ad _ rfl
         have hzG : wG.heap.size = wC.heap.size + 1 := by rw [hw1]; simp
         rw [← hw1]
         obtain ⟨hG, hB3⟩ := l2h hnG ((hB2.out).trans (hb1.mono (hB2.out).size))
         have hs3 : wG.heap[w.heap.size]? = some (.cells #[.slice ba bn bc, .slice sa L.length sc] 31 (0, 0)) ∧ wG.heap[BF]? = some (.cells F 46 (0, 0)) := ⟨(hb1.block _ (AJ hs2.1)).trans hs2.1, (hb1.block _ (AJ hs2.2)).trans hs2.2⟩
         have Jc := kpB hb1 Jr
         have Jb := kpB hb1 Jq
         have hc3 := lh (Ow.ext hc2.out (Ext.ofB hb1) (fun _ _ h => h))
         clear hw1 hb1 hnG
         refine ⟨hs3, ?_⟩
         simp only [sq]
         refine Wr.Ab (i := 10) (by kernel_rfl) ?_
         refine Wr.Ci rfl (by rfl) _ _ _ _ rfl Li w5.heap.size (.slice aC L.length cC) L.length (L.flatMap oneF) rfl hc3.out (.slice (some ⟨wC.heap.size, 0, none⟩) 1 1) 1 (oneF nx) rfl (by rw [← HYL.out]; exact Sl.src (D5 hG.out HYN.out) underlying29 (fun u hu => oF.one nx u (by rw [← HYL.out]; exact hu))) (L.length + 1) rfl ((L ++ [nx]).flatMap oneF) (by rw [List.flatMap_append, List.flatMap_singleton]) (by unfold maxLen; omega) (by omega) (by have := (hB3.out).size; omega) ?_
         intro aD cD wD hownD hgrD hatD
         have Ii : ∀ j, j < w5.heap.size → some j ≠ (Value.slice aC L.length cC).ownBlock := fun j hj e => by have := (Ow.lt hc3.out j e.symm).1; omega
         have hBD := Below.grown hB3.out hgrD (by have := (hB3.out).size; omega) (fun j hj => by have := (Ow.lt hc3.out j hj).1; omega)
         have hsD : wD.heap[w.heap.size]? = some (.cells #[.slice ba bn bc, .slice sa L.length sc] 31 (0, 0)) ∧ wD.heap[BF]? = some (.cells F 46 (0, 0)) := ⟨(hgrD.block _ (AJ hs3.1) (Ii _ (by omega))).trans hs3.1, (hgrD.block _ (AJ hs3.2) (Ii _ (by omega))).trans hs3.2⟩
         have hqD := (hgrD.block _ (AJ (Jc.out)) (Ii _ (by omega))).trans (Jc.out)
         have hzD := (hgrD.block _ (AJ (Jb.out)) (Ii _ (by omega))).trans (Jb.out)
         refine ⟨hsD, ?_⟩
         simp only [sq]
         refine Wr.tkE 11 ?_ ?_ hsD ?_
         rotate_left
         ·intro wq _
          go_simp
          rfl
         simp only [sq]
         refine Wr.BJ (i := 12) (by kernel_rfl) (by kernel_rfl) ?_
         obtain ⟨HBD, HOD, HSD, HQD, HZD⟩ := l5h hBD hownD hsD hqD hzD
         obtain ⟨cD1, fD1⟩ := AA hsD.1
         clear hBD hownD hgrD Ii hqD hzD hsD
         refine BO rfl (by rfl) (w' := wD.setCell ⟨w.heap.size, 1, none⟩ (.slice aD (L.length + 1) cD)) (by go_simp; first | done | rfl) ?_
         simp only [sq]
         refine Wr.Ag (by kernel_rfl) (NoPanic.normal ?_) _
         clear cD1 fD1
         obtain ⟨w9, hw9⟩ := nXe (wD.setCell ⟨w.heap.size, 1, none⟩ (.slice aD (L.length + 1) cD))
         have HB9 := lh (show Below w.heap.size w w9 by rw [hw9]; exact Below.setCell HBD.out (p := ⟨w.heap.size, 1, none⟩) nR _)
         have HO9 := lh (show Ow w9 w5.heap.size 50 39 (.slice aD (L.length + 1) cD) (L.length + 1) ((L ++ [nx]).flatMap oneF) by rw [hw9]; exact Ow.ext HOD.out (Ext.set1 wD w.heap.size 1 _) (fun j hj e => by have := (Ow.lt HOD.out j hj).1; omega))
         have hp9 : w9.heap[w.heap.size]? = some (.cells #[.slice ba bn bc, .slice aD (L.length + 1) cD] 31 (0, 0)) := by rw [hw9]; exact heap_setCell_same HSD.out.1 _
         have HQ9 := lh (show w9.heap[w.heap.size + 1]? = some (.cells #[.slice none 0 0, .slice none 0 0] 31 (0, 0)) by rw [hw9, AX _ (by omega)]; exact HQD.out)
         have HZ9 := lh (show w9.heap[w.heap.size + 2]? = some (.cells #[.int .i64 0, .string ⟨#[]⟩, .string ⟨#[]⟩, .string ⟨#[]⟩, .string ⟨#[]⟩] 37 (0, 0)) by rw [hw9, AX _ (by omega)]; exact HZD.out)
         rw [← hw9]
         clear hw9
         obtain ⟨p0, p1⟩ := AA hp9
         obtain ⟨q0, q1⟩ := AA HQ9.out
         obtain ⟨z0, z1⟩ := AA HZ9.out
         clear hp9
         go_wp2
         change bodyPost _ _ _ _ _ (setP (set2 w9 (w.heap.size + 1) (.slice ba bn bc) (.slice aD (L.length + 1) cD)) (w.heap.size + 2) (.int .i64 0) (.string ⟨#[]⟩) (.string ⟨#[]⟩) (.string ⟨#[]⟩) (.string ⟨#[]⟩))
         obtain ⟨wF, hwF⟩ := nXe (setP (set2 w9 (w.heap.size + 1) (.slice ba bn bc) (.slice aD (L.length + 1) cD)) (w.heap.size + 2) (.int .i64 0) (.string ⟨#[]⟩) (.string ⟨#[]⟩) (.string ⟨#[]⟩) (.string ⟨#[]⟩))
         rw [← hwF]
         have hF8 : wF.heap[w.heap.size + 1]? = some (.cells #[.slice ba bn bc, .slice aD (L.length + 1) cD] 31 (0, 0)) := by rw [hwF]; exact (Bi (S := fun k => k = w.heap.size + 2) (Ext.refl _ _) (.inl rfl) _ _ _ _ _).Ai (EG HQ9.out _ _) (fun e => by omega)
         have hF9 : wF.heap[w.heap.size + 2]? = some (.cells #[.int .i64 0, .string ⟨#[]⟩, .string ⟨#[]⟩, .string ⟨#[]⟩, .string ⟨#[]⟩] 37 (0, 0)) := by rw [hwF]; exact Cj ((CX (S := fun k => k = w.heap.size + 1) (Ext.refl _ _) (.inl rfl) _ _).Ai HZ9.out (fun e => by omega)) _ _ _ _ _
         have HEF := lh (show Ext (fun k => k = w.heap.size + 1 ∨ k = w.heap.size + 2) w9 wF by rw [hwF]; exact Bi (S := fun k => k = w.heap.size + 1 ∨ k = w.heap.size + 2) (CX (S := fun k => k = w.heap.size + 1 ∨ k = w.heap.size + 2) (Ext.refl _ _) (.inl (.inl rfl)) _ _) (.inl (.inr rfl)) _ _ _ _ _)
         obtain ⟨cF8, fF8⟩ := AA hF8
         obtain ⟨cF9, fF9⟩ := AA hF9
         clear hwF hF8 hF9
         refine bodyPost_ret (v := .tuple #[.agg #[.slice ba bn bc, .slice aD (L.length + 1) cD], .agg #[.int .i64 0, .string ⟨#[]⟩, .string ⟨#[]⟩, .string ⟨#[]⟩, .string ⟨#[]⟩], .bool false, .int .i64 0]) (by simp [results, Tryz.results8, go_sem, cF8, fF8, cF9, fF9]; done) rfl ?_
         have hBF := Bl.ext HB9.out HEF.out (fun k hk e => by omega)
         rw [hO2]
         refine ⟨_, rfl, ?_, hBF⟩
         rw [List.length_append]
         exact (HO9.out.ext HEF.out (fun k hk e => by have := (HO9.out.lt k hk).1; omega)).rebase (fun k hk => by have := (HO9.out.lt k hk).1; omega)
        ·skip
         refine Ap rfl (by rfl) (v := .slice (some ⟨wE.heap.size, 0, none⟩) 1 1) (w' := wE.alloc (.cells Y 50)) (by have hy := HYN.out; go_simp; rw [Jv Y hy]; first | done | rfl | exact ⟨rfl, rfl⟩) ?_
         obtain ⟨wG, hw1⟩ := nXe (wE.alloc (.cells Y 50))
         have hb1 : Below wE.heap.size wE wG := by rw [hw1]; exact bAx
         have hnG : wG.heap[wE.heap.size]? = some (.cells Y 50 (0, 0)) := by rw [hw1]; exact Ad _ rfl
         have hzG : wG.heap.size = wE.heap.size + 1 := by rw [hw1]; simp
         rw [← hw1]
         obtain ⟨hG, hB2⟩ := l2h hnG ((hB1.out).trans (hb1.mono (hB1.out).size))
         have hs2 : wG.heap[w.heap.size]? = some (.cells #[.slice ba bn bc, .slice sa L.length sc] 31 (0, 0)) ∧ wG.heap[BF]? = some (.cells F 46 (0, 0)) := ⟨(hb1.block _ (AJ hs1.1)).trans hs1.1, (hb1.block _ (AJ hs1.2)).trans hs1.2⟩
         have hl2 := lh (Sl.below hl1.out hb1)
         have hE2 := kpB hb1 hE
         have Jr := kpB hb1 Kj
         have Jq := kpB hb1 Ki
         clear hw1 hb1 hnG
         refine ⟨hs2, ?_⟩
         simp only [sq]
         refine Wr.Ab (i := 3) (by kernel_rfl) ?_
         refine Wr.Ci rfl (by rfl) _ _ _ _ rfl Li w5.heap.size (.slice (some ⟨w5.heap.size, 0, none⟩) 0 0) 0 [] rfl (Il hE2.out (by omega)) (.slice sa L.length sc) L.length (L.flatMap oneF) rfl (Sl.src hl2.out underlying29 (fun u hu => by obtain ⟨y, _, hy⟩ := List.mem_flatMap.1 hu; exact oF.one y u hy)) L.length (Nat.zero_add _) (L.flatMap oneF) (List.nil_append _) (by unfold maxLen; omega) (by omega) (by first | omega | (have := (hB2.out).size; omega)) ?_
         intro aC cC wC hownC hgrC hatC
         have hzC := hgrC.size
         have Ij : ∀ j, j ≠ w5.heap.size → some j ≠ (Value.slice (some ⟨w5.heap.size, 0, none⟩) 0 0).ownBlock := fun j hj e => by simp [Value.ownBlock] at e; omega
         have hB3 := lh (Below.grown hB2.out hgrC (by first | omega | (have := (hB2.out).size; omega)) (fun j hj => by simp [Value.ownBlock] at hj; omega))
         have hs3 : wC.heap[w.heap.size]? = some (.cells #[.slice ba bn bc, .slice sa L.length sc] 31 (0, 0)) ∧ wC.heap[BF]? = some (.cells F 46 (0, 0)) := ⟨(hgrC.block _ (AJ hs2.1) (Ij _ (by omega))).trans hs2.1, (hgrC.block _ (AJ hs2.2) (Ij _ (by omega))).trans hs2.2⟩
         have hG3 := lh ((hgrC.block _ (AJ hG.out) (Ij _ (by omega))).trans hG.out)
         have Jc := lh ((hgrC.block _ (AJ (Jr.out)) (Ij _ (by omega))).trans (Jr.out))
         have Jb := lh ((hgrC.block _ (AJ (Jq.out)) (Ij _ (by omega))).trans (Jq.out))
         have hc3 := lh hownC
         clear hownC
         refine ⟨hs3, ?_⟩
         simp only [sq]
         refine Wr.Ab (i := 10) (by kernel_rfl) ?_
         refine Wr.Ci rfl (by rfl) _ _ _ _ rfl Li w5.heap.size (.slice aC L.length cC) L.length (L.flatMap oneF) rfl hc3.out (.slice (some ⟨wE.heap.size, 0, none⟩) 1 1) 1 (oneF nx) rfl (by rw [← HYL.out]; exact Sl.src (D5 hG3.out HYN.out) underlying29 (fun u hu => oF.one nx u (by rw [← HYL.out]; exact hu))) (L.length + 1) rfl ((L ++ [nx]).flatMap oneF) (by rw [List.flatMap_append, List.flatMap_singleton]) (by unfold maxLen; omega) (by omega) (by have := (hB3.out).size; omega) ?_
         intro aD cD wD hownD hgrD hatD
         have Ii : ∀ j, j < w5.heap.size → some j ≠ (Value.slice aC L.length cC).ownBlock := fun j hj e => by have := (Ow.lt hc3.out j e.symm).1; omega
         have hBD := Below.grown hB3.out hgrD (by have := (hB3.out).size; omega) (fun j hj => by have := (Ow.lt hc3.out j hj).1; omega)
         have hsD : wD.heap[w.heap.size]? = some (.cells #[.slice ba bn bc, .slice sa L.length sc] 31 (0, 0)) ∧ wD.heap[BF]? = some (.cells F 46 (0, 0)) := ⟨(hgrD.block _ (AJ hs3.1) (Ii _ (by omega))).trans hs3.1, (hgrD.block _ (AJ hs3.2) (Ii _ (by omega))).trans hs3.2⟩
         have hqD := (hgrD.block _ (AJ (Jc.out)) (Ii _ (by omega))).trans (Jc.out)
         have hzD := (hgrD.block _ (AJ (Jb.out)) (Ii _ (by omega))).trans (Jb.out)
         refine ⟨hsD, ?_⟩
         simp only [sq]
         refine Wr.tkE 11 ?_ ?_ hsD ?_
         rotate_left
         ·intro wq _
          go_simp
          rfl
         simp only [sq]
         refine Wr.BJ (i := 12) (by kernel_rfl) (by kernel_rfl) ?_
         obtain ⟨HBD, HOD, HSD, HQD, HZD⟩ := l5h hBD hownD hsD hqD hzD
         obtain ⟨cD1, fD1⟩ := AA hsD.1
         clear hBD hownD hgrD Ii hqD hzD hsD
         refine BO rfl (by rfl) (w' := wD.setCell ⟨w.heap.size, 1, none⟩ (.slice aD (L.length + 1) cD)) (by go_simp; first | done | rfl) ?_
         simp only [sq]
         refine Wr.Ag (by kernel_rfl) (NoPanic.normal ?_) _
         clear cD1 fD1
         obtain ⟨w9, hw9⟩ := nXe (wD.setCell ⟨w.heap.size, 1, none⟩ (.slice aD (L.length + 1) cD))
         have HB9 := lh (show Below w.heap.size w w9 by rw [hw9]; exact Below.setCell HBD.out (p := ⟨w.heap.size, 1, none⟩) nR _)
         have HO9 := lh (show Ow w9 w5.heap.size 50 39 (.slice aD (L.length + 1) cD) (L.length + 1) ((L ++ [nx]).flatMap oneF) by rw [hw9]; exact Ow.ext HOD.out (Ext.set1 wD w.heap.size 1 _) (fun j hj e => by have := (Ow.lt HOD.out j hj).1; omega))
         have hp9 : w9.heap[w.heap.size]? = some (.cells #[.slice ba bn bc, .slice aD (L.length + 1) cD] 31 (0, 0)) := by rw [hw9]; exact heap_setCell_same HSD.out.1 _
         have HQ9 := lh (show w9.heap[w.heap.size + 1]? = some (.cells #[.slice none 0 0, .slice none 0 0] 31 (0, 0)) by rw [hw9, AX _ (by omega)]; exact HQD.out)
         have HZ9 := lh (show w9.heap[w.heap.size + 2]? = some (.cells #[.int .i64 0, .string ⟨#[]⟩, .string ⟨#[]⟩, .string ⟨#[]⟩, .string ⟨#[]⟩] 37 (0, 0)) by rw [hw9, AX _ (by omega)]; exact HZD.out)
         rw [← hw9]
         clear hw9
         obtain ⟨p0, p1⟩ := AA hp9
         obtain ⟨q0, q1⟩ := AA HQ9.out
         obtain ⟨z0, z1⟩ := AA HZ9.out
         clear hp9
         go_wp2
         change bodyPost _ _ _ _ _ (setP (set2 w9 (w.heap.size + 1) (.slice ba bn bc) (.slice aD (L.length + 1) cD)) (w.heap.size + 2) (.int .i64 0) (.string ⟨#[]⟩) (.string ⟨#[]⟩) (.string ⟨#[]⟩) (.string ⟨#[]⟩))
         obtain ⟨wF, hwF⟩ := nXe (setP (set2 w9 (w.heap.size + 1) (.slice ba bn bc) (.slice aD (L.length + 1) cD)) (w.heap.size + 2) (.int .i64 0) (.string ⟨#[]⟩) (.string ⟨#[]⟩) (.string ⟨#[]⟩) (.string ⟨#[]⟩))
         rw [← hwF]
         have hF8 : wF.heap[w.heap.size + 1]? = some (.cells #[.slice ba bn bc, .slice aD (L.length + 1) cD] 31 (0, 0)) := by rw [hwF]; exact (Bi (S := fun k => k = w.heap.size + 2) (Ext.refl _ _) (.inl rfl) _ _ _ _ _).Ai (EG HQ9.out _ _) (fun e => by omega)
         have hF9 : wF.heap[w.heap.size + 2]? = some (.cells #[.int .i64 0, .string ⟨#[]⟩, .string ⟨#[]⟩, .string ⟨#[]⟩, .string ⟨#[]⟩] 37 (0, 0)) := by rw [hwF]; exact Cj ((CX (S := fun k => k = w.heap.size + 1) (Ext.refl _ _) (.inl rfl) _ _).Ai HZ9.out (fun e => by omega)) _ _ _ _ _
         have HEF := lh (show Ext (fun k => k = w.heap.size + 1 ∨ k = w.heap.size + 2) w9 wF by rw [hwF]; exact Bi (S := fun k => k = w.heap.size + 1 ∨ k = w.heap.size + 2) (CX (S := fun k => k = w.heap.size + 1 ∨ k = w.heap.size + 2) (Ext.refl _ _) (.inl (.inl rfl)) _ _) (.inl (.inr rfl)) _ _ _ _ _)
         obtain ⟨cF8, fF8⟩ := AA hF8
         obtain ⟨cF9, fF9⟩ := AA hF9
         clear hwF hF8 hF9
         refine bodyPost_ret (v := .tuple #[.agg #[.slice ba bn bc, .slice aD (L.length + 1) cD], .agg #[.int .i64 0, .string ⟨#[]⟩, .string ⟨#[]⟩, .string ⟨#[]⟩, .string ⟨#[]⟩], .bool false, .int .i64 0]) (by simp [results, Tryz.results8, go_sem, cF8, fF8, cF9, fF9]; done) rfl ?_
         have hBF := Bl.ext HB9.out HEF.out (fun k hk e => by omega)
         rw [hO2]
         refine ⟨_, rfl, ?_, hBF⟩
         rw [List.length_append]
         exact (HO9.out.ext HEF.out (fun k hk e => by have := (HO9.out.lt k hk).1; omega)).rebase (fun k hk => by have := (HO9.out.lt k hk).1; omega)
       ·skip
        refine Ap rfl (by rfl) (v := .slice (some ⟨w5.heap.size, 0, none⟩) 1 1) (w' := w5.drew.alloc (.cells Y 50)) (by have hy := HYN.out; go_simp; rw [Jv Y hy]; first | done | rfl | exact ⟨rfl, rfl⟩) ?_
        obtain ⟨wG, hw1⟩ := nXe (w5.drew.alloc (.cells Y 50))
        have hb1 : Below w5.drew.heap.size w5.drew wG := by rw [hw1]; exact bAx
        have hnG : wG.heap[w5.heap.size]? = some (.cells Y 50 (0, 0)) := by rw [hw1]; exact Ad _ rfl
        have hzG : wG.heap.size = w5.heap.size + 1 := by rw [hw1]; simp
        rw [← hw1]
        obtain ⟨hG, hB1⟩ := l2h hnG ((HBL5.out.drew).trans (hb1.mono (HBL5.out.drew).size))
        have hs1 : wG.heap[w.heap.size]? = some (.cells #[.slice ba bn bc, .slice sa L.length sc] 31 (0, 0)) ∧ wG.heap[BF]? = some (.cells F 46 (0, 0)) := ⟨(hb1.block _ (AJ hS0.1)).trans hS0.1, (hb1.block _ (AJ hS0.2)).trans hS0.2⟩
        have hl1 := lh (Sl.below HSL.out hb1)
        have Kj := kpB hb1 HQ5
        have Ki := kpB hb1 HZ5
        clear hw1 hb1 hnG
        refine ⟨hs1, ?_⟩
        simp only [sq]
        refine Wr.Ab (i := 0) (by kernel_rfl) ?_
        refine Ap rfl (by rfl) (v := .slice (some ⟨wG.heap.size, 0, none⟩) 0 0) (w' := wG.alloc (.cells #[] 50)) (by go_simp; first | done | rfl | exact ⟨rfl, rfl⟩) ?_
        obtain ⟨wE, hw1⟩ := nXe (wG.alloc (.cells #[] 50))
        have hb1 : Below wG.heap.size wG wE := by rw [hw1]; exact bAx
        have hnE : wE.heap[wG.heap.size]? = some (.cells #[] 50 (0, 0)) := by rw [hw1]; exact Ad _ rfl
        have hzE : wE.heap.size = wG.heap.size + 1 := by rw [hw1]; simp
        rw [← hw1]
        obtain ⟨hE, hB2⟩ := l2h hnE ((hB1.out).trans (hb1.mono (hB1.out).size))
        have hs2 : wE.heap[w.heap.size]? = some (.cells #[.slice ba bn bc, .slice sa L.length sc] 31 (0, 0)) ∧ wE.heap[BF]? = some (.cells F 46 (0, 0)) := ⟨(hb1.block _ (AJ hs1.1)).trans hs1.1, (hb1.block _ (AJ hs1.2)).trans hs1.2⟩
        have hl2 := lh (Sl.below hl1.out hb1)
        have hG2 := kpB hb1 hG
        have Jr := kpB hb1 Kj
        have Jq := kpB hb1 Ki
        clear hw1 hb1 hnE
        refine ⟨hs2, ?_⟩
        simp only [sq]
        refine Wr.Ab (i := 3) (by kernel_rfl) ?_
        refine Wr.Ci rfl (by rfl) _ _ _ _ rfl Li w5.heap.size (.slice (some ⟨wG.heap.size, 0, none⟩) 0 0) 0 [] rfl (Il hE.out (by omega)) (.slice sa L.length sc) L.length (L.flatMap oneF) rfl (Sl.src hl2.out underlying29 (fun u hu => by obtain ⟨y, _, hy⟩ := List.mem_flatMap.1 hu; exact oF.one y u hy)) L.length (Nat.zero_add _) (L.flatMap oneF) (List.nil_append _) (by unfold maxLen; omega) (by omega) (by first | omega | (have := (hB2.out).size; omega)) ?_
        intro aC cC wC hownC hgrC hatC
        have hzC := hgrC.size
        have Ij : ∀ j, j ≠ wG.heap.size → some j ≠ (Value.slice (some ⟨wG.heap.size, 0, none⟩) 0 0).ownBlock := fun j hj e => by simp [Value.ownBlock] at e; omega
        have hB3 := lh (Below.grown hB2.out hgrC (by first | omega | (have := (hB2.out).size; omega)) (fun j hj => by simp [Value.ownBlock] at hj; omega))
        have hs3 : wC.heap[w.heap.size]? = some (.cells #[.slice ba bn bc, .slice sa L.length sc] 31 (0, 0)) ∧ wC.heap[BF]? = some (.cells F 46 (0, 0)) := ⟨(hgrC.block _ (AJ hs2.1) (Ij _ (by omega))).trans hs2.1, (hgrC.block _ (AJ hs2.2) (Ij _ (by omega))).trans hs2.2⟩
        have hG3 := lh ((hgrC.block _ (AJ hG2.out) (Ij _ (by omega))).trans hG2.out)
        have Jc := lh ((hgrC.block _ (AJ (Jr.out)) (Ij _ (by omega))).trans (Jr.out))
        have Jb := lh ((hgrC.block _ (AJ (Jq.out)) (Ij _ (by omega))).trans (Jq.out))
        have hc3 := lh hownC
        clear hownC
        refine ⟨hs3, ?_⟩
        simp only [sq]
        refine Wr.Ab (i := 10) (by kernel_rfl) ?_
        refine Wr.Ci rfl (by rfl) _ _ _ _ rfl Li w5.heap.size (.slice aC L.length cC) L.length (L.flatMap oneF) rfl hc3.out (.slice (some ⟨w5.heap.size, 0, none⟩) 1 1) 1 (oneF nx) rfl (by rw [← HYL.out]; exact Sl.src (D5 hG3.out HYN.out) underlying29 (fun u hu => oF.one nx u (by rw [← HYL.out]; exact hu))) (L.length + 1) rfl ((L ++ [nx]).flatMap oneF) (by rw [List.flatMap_append, List.flatMap_singleton]) (by unfold maxLen; omega) (by omega) (by have := (hB3.out).size; omega) ?_
        intro aD cD wD hownD hgrD hatD
        have Ii : ∀ j, j < w5.heap.size → some j ≠ (Value.slice aC L.length cC).ownBlock := fun j hj e => by have := (Ow.lt hc3.out j e.symm).1; omega
        have hBD := Below.grown hB3.out hgrD (by have := (hB3.out).size; omega) (fun j hj => by have := (Ow.lt hc3.out j hj).1; omega)
        have hsD : wD.heap[w.heap.size]? = some (.cells #[.slice ba bn bc, .slice sa L.length sc] 31 (0, 0)) ∧ wD.heap[BF]? = some (.cells F 46 (0, 0)) := ⟨(hgrD.block _ (AJ hs3.1) (Ii _ (by omega))).trans hs3.1, (hgrD.block _ (AJ hs3.2) (Ii _ (by omega))).trans hs3.2⟩
        have hqD := (hgrD.block _ (AJ (Jc.out)) (Ii _ (by omega))).trans (Jc.out)
        have hzD := (hgrD.block _ (AJ (Jb.out)) (Ii _ (by omega))).trans (Jb.out)
        refine ⟨hsD, ?_⟩
        simp only [sq]
        refine Wr.tkE 11 ?_ ?_ hsD ?_
        rotate_left
        ·intro wq _
         go_simp
         rfl
        simp only [sq]
        refine Wr.BJ (i := 12) (by kernel_rfl) (by kernel_rfl) ?_
        obtain ⟨HBD, HOD, HSD, HQD, HZD⟩ := l5h hBD hownD hsD hqD hzD
        obtain ⟨cD1, fD1⟩ := AA hsD.1
        clear hBD hownD hgrD Ii hqD hzD hsD
        refine BO rfl (by rfl) (w' := wD.setCell ⟨w.heap.size, 1, none⟩ (.slice aD (L.length + 1) cD)) (by go_simp; first | done | rfl) ?_
        simp only [sq]
        refine Wr.Ag (by kernel_rfl) (NoPanic.normal ?_) _
        clear cD1 fD1
        obtain ⟨w9, hw9⟩ := nXe (wD.setCell ⟨w.heap.size, 1, none⟩ (.slice aD (L.length + 1) cD))
        have HB9 := lh (show Below w.heap.size w w9 by rw [hw9]; exact Below.setCell HBD.out (p := ⟨w.heap.size, 1, none⟩) nR _)
        have HO9 := lh (show Ow w9 w5.heap.size 50 39 (.slice aD (L.length + 1) cD) (L.length + 1) ((L ++ [nx]).flatMap oneF) by rw [hw9]; exact Ow.ext HOD.out (Ext.set1 wD w.heap.size 1 _) (fun j hj e => by have := (Ow.lt HOD.out j hj).1; omega))
        have hp9 : w9.heap[w.heap.size]? = some (.cells #[.slice ba bn bc, .slice aD (L.length + 1) cD] 31 (0, 0)) := by rw [hw9]; exact heap_setCell_same HSD.out.1 _
        have HQ9 := lh (show w9.heap[w.heap.size + 1]? = some (.cells #[.slice none 0 0, .slice none 0 0] 31 (0, 0)) by rw [hw9, AX _ (by omega)]; exact HQD.out)
        have HZ9 := lh (show w9.heap[w.heap.size + 2]? = some (.cells #[.int .i64 0, .string ⟨#[]⟩, .string ⟨#[]⟩, .string ⟨#[]⟩, .string ⟨#[]⟩] 37 (0, 0)) by rw [hw9, AX _ (by omega)]; exact HZD.out)
        rw [← hw9]
        clear hw9
        obtain ⟨p0, p1⟩ := AA hp9
        obtain ⟨q0, q1⟩ := AA HQ9.out
        obtain ⟨z0, z1⟩ := AA HZ9.out
        clear hp9
        go_wp2
        change bodyPost _ _ _ _ _ (setP (set2 w9 (w.heap.size + 1) (.slice ba bn bc) (.slice aD (L.length + 1) cD)) (w.heap.size + 2) (.int .i64 0) (.string ⟨#[]⟩) (.string ⟨#[]⟩) (.string ⟨#[]⟩) (.string ⟨#[]⟩))
        obtain ⟨wF, hwF⟩ := nXe (setP (set2 w9 (w.heap.size + 1) (.slice ba bn bc) (.slice aD (L.length + 1) cD)) (w.heap.size + 2) (.int .i64 0) (.string ⟨#[]⟩) (.string ⟨#[]⟩) (.string ⟨#[]⟩) (.string ⟨#[]⟩))
        rw [← hwF]
        have hF8 : wF.heap[w.heap.size + 1]? = some (.cells #[.slice ba bn bc, .slice aD (L.length + 1) cD] 31 (0, 0)) := by rw [hwF]; exact (Bi (S := fun k => k = w.heap.size + 2) (Ext.refl _ _) (.inl rfl) _ _ _ _ _).Ai (EG HQ9.out _ _) (fun e => by omega)
        have hF9 : wF.heap[w.heap.size + 2]? = some (.cells #[.int .i64 0, .string ⟨#[]⟩, .string ⟨#[]⟩, .string ⟨#[]⟩, .string ⟨#[]⟩] 37 (0, 0)) := by rw [hwF]; exact Cj ((CX (S := fun k => k = w.heap.size + 1) (Ext.refl _ _) (.inl rfl) _ _).Ai HZ9.out (fun e => by omega)) _ _ _ _ _
        have HEF := lh (show Ext (fun k => k = w.heap.size + 1 ∨ k = w.heap.size + 2) w9 wF by rw [hwF]; exact Bi (S := fun k => k = w.heap.size + 1 ∨ k = w.heap.size + 2) (CX (S := fun k => k = w.heap.size + 1 ∨ k = w.heap.size + 2) (Ext.refl _ _) (.inl (.inl rfl)) _ _) (.inl (.inr rfl)) _ _ _ _ _)
        obtain ⟨cF8, fF8⟩ := AA hF8
        obtain ⟨cF9, fF9⟩ := AA hF9
        clear hwF hF8 hF9
        refine bodyPost_ret (v := .tuple #[.agg #[.slice ba bn bc, .slice aD (L.length + 1) cD], .agg #[.int .i64 0, .string ⟨#[]⟩, .string ⟨#[]⟩, .string ⟨#[]⟩, .string ⟨#[]⟩], .bool false, .int .i64 0]) (by simp [results, Tryz.results8, go_sem, cF8, fF8, cF9, fF9]; done) rfl ?_
        have hBF := Bl.ext HB9.out HEF.out (fun k hk e => by omega)
        rw [hO2]
        refine ⟨_, rfl, ?_, hBF⟩
        rw [List.length_append]
        exact (HO9.out.ext HEF.out (fun k hk e => by have := (HO9.out.lt k hk).1; omega)).rebase (fun k hk => by have := (HO9.out.lt k hk).1; omega)
    ·rw [if_neg hy] at HO
     have t1 : (y != 0) = true := by simpa using hy
     go_wp2
     change bodyPost _ _ _ _ _ (setP (set2 w3 (w.heap.size + 1) (.slice ba bn bc) (.slice sa L.length sc)) (w.heap.size + 2) (.int .i64 0) (.string ⟨#[]⟩) (.string ⟨#[]⟩) (.string ⟨#[]⟩) (.string ⟨#[]⟩))
     obtain ⟨wF, hwF⟩ := nXe (setP (set2 w3 (w.heap.size + 1) (.slice ba bn bc) (.slice sa L.length sc)) (w.heap.size + 2) (.int .i64 0) (.string ⟨#[]⟩) (.string ⟨#[]⟩) (.string ⟨#[]⟩) (.string ⟨#[]⟩))
     rw [← hwF]
     have hF8 : wF.heap[w.heap.size + 1]? = some (.cells #[.slice ba bn bc, .slice sa L.length sc] 31 (0, 0)) := by rw [hwF]; exact (Bi (S := fun k => k = w.heap.size + 2) (Ext.refl _ _) (.inl rfl) _ _ _ _ _).Ai (EG HQ3.out _ _) (fun e => by omega)
     have hF9 : wF.heap[w.heap.size + 2]? = some (.cells #[.int .i64 0, .string ⟨#[]⟩, .string ⟨#[]⟩, .string ⟨#[]⟩, .string ⟨#[]⟩] 37 (0, 0)) := by rw [hwF]; exact Cj ((CX (S := fun k => k = w.heap.size + 1) (Ext.refl _ _) (.inl rfl) _ _).Ai HZ3.out (fun e => by omega)) _ _ _ _ _
     have HEF := lh (show Ext (fun k => k = w.heap.size + 1 ∨ k = w.heap.size + 2) w3 wF by rw [hwF]; exact Bi (S := fun k => k = w.heap.size + 1 ∨ k = w.heap.size + 2) (CX (S := fun k => k = w.heap.size + 1 ∨ k = w.heap.size + 2) (Ext.refl _ _) (.inl (.inl rfl)) _ _) (.inl (.inr rfl)) _ _ _ _ _)
     obtain ⟨cF8, fF8⟩ := AA hF8
     obtain ⟨cF9, fF9⟩ := AA hF9
     clear hwF hF8 hF9
     refine bodyPost_ret (v := .tuple #[.agg #[.slice ba bn bc, .slice sa L.length sc], .agg #[.int .i64 0, .string ⟨#[]⟩, .string ⟨#[]⟩, .string ⟨#[]⟩, .string ⟨#[]⟩], .bool false, .int .i64 y]) (by simp [results, Tryz.results8, go_sem, cF8, fF8, cF9, fF9]; done) rfl ?_
     have hBF := Bl.ext HBL3.out HEF.out (fun k hk e => by omega)
     rw [HO.out]
     exact ⟨_, rfl, HOW.out.ext (Ext.of_below (S := fun _ => False) hBF) (fun _ _ h => h), hBF⟩
 ·rw [hlong] at hO
  simp only [if_true] at hO
  have HO := lh hO
  by_cases h1 : 8192 < text.size
  ·have dt : decide ((8192 : Int) < (text.size : Int)) = true := dT (by omega)
   clear hO hlong
   go_enter func8, ntmps8
   go_wp2
   refine bodyPost_ret (v := .tuple #[.agg #[.slice ba bn bc, .slice sa L.length sc], .agg #[.int .i64 0, .string ⟨#[]⟩, .string ⟨#[]⟩, .string ⟨#[]⟩, .string ⟨#[]⟩], .bool false, .int .i64 7]) (by simp [results, Tryz.results8, go_sem]; done) rfl ?_
   rw [HO.out]
   have hb : Below w.heap.size w (((w.alloc (.cells #[.slice ba bn bc, .slice sa L.length sc] 31)).alloc (.cells #[.slice ba bn bc, .slice sa L.length sc] 31)).alloc (.cells #[.int .i64 0, .string ⟨#[]⟩, .string ⟨#[]⟩, .string ⟨#[]⟩, .string ⟨#[]⟩] 37)) := Bl.new (Bl.new (Bl.new (Below.refl _ _) _) _) _
   exact ⟨_, rfl, HOW.out.ext (Ext.of_below (S := fun _ => False) hb) (fun _ _ h => h), hb⟩
  ·have dt : decide ((8192 : Int) < (text.size : Int)) = false := dF (by omega)
   have dg : decide ((8192 : Int) < (sig.size : Int)) = true := dT (by unfold Ey at hlong; simp at hlong; omega)
   clear hO hlong
   go_enter func8, ntmps8
   go_wp2
   refine bodyPost_ret (v := .tuple #[.agg #[.slice ba bn bc, .slice sa L.length sc], .agg #[.int .i64 0, .string ⟨#[]⟩, .string ⟨#[]⟩, .string ⟨#[]⟩, .string ⟨#[]⟩], .bool false, .int .i64 7]) (by simp [results, Tryz.results8, go_sem]; done) rfl ?_
   rw [HO.out]
   have hb : Below w.heap.size w (((w.alloc (.cells #[.slice ba bn bc, .slice sa L.length sc] 31)).alloc (.cells #[.slice ba bn bc, .slice sa L.length sc] 31)).alloc (.cells #[.int .i64 0, .string ⟨#[]⟩, .string ⟨#[]⟩, .string ⟨#[]⟩, .string ⟨#[]⟩] 37)) := Bl.new (Bl.new (Bl.new (Below.refl _ _) _) _) _
   exact ⟨_, rfl, HOW.out.ext (Ext.of_below (S := fun _ => False) hb) (fun _ _ h => h), hb⟩
end Go.Proofs.YtceiajepcokacaaGreatDoor.SnQ
