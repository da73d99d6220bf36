/-
  WHAT IS PROVED: contracts and plain laws. Condition: each names its own.
-/
import Derived.Test.YtceiajepcokacaaGreatDoorS0
import Derived.Test.YtceiajepcokacaaGreatDoorZH29
import Derived.Test.YtceiajepcokacaaGreatDoorZH34
set_option linter.unusedVariables false
set_option linter.unusedSimpArgs false
set_option maxRecDepth 100000
set_option maxHeartbeats 4000000
namespace Go.Proofs.YtceiajepcokacaaGreatDoor.SnX
open Go.Proofs.Tryz
open SnW SnP SnQ SnN
open Go Go.RowKit Go.ChangeMaps OctetS IdentS ShaS EntS OctG IdentP ShaA KeyA WireS WireT BookA BkC BkF PfS PfA RowsX Lift Steps SnK SnT SnM SnF SnG SnS SnH
attribute [-go_sem] run_equalIn_agg
theorem TwoS.same {W wr w' : World} {S m q : Nat} {bv bv2 s : Value} {B : List Gr'} {L : List Sn} (h : TwoS W wr S m q bv bv2 s B L) (hb : Below wr.heap.size wr w') : TwoS W w' S m q bv bv2 s B L :=
 ⟨h.sn.below hb, h.hB.below hb, h.hB2.below hb, h.b1, h.b2, (hb.block _ (AJ h.box)).trans h.box, h.own.ext (Ext.ofB hb) (fun _ _ h => h), Bl.call h.bel hb, h.mW, h.mq, h.Sq⟩
theorem TwoS.next {W wr w4 w5 w6 w7 : World} {S m q : Nat} {bv bv2 s s' : Value} {B : List Gr'} {L L' : List Sn} (h : TwoS W wr S m q bv bv2 s B L)
 (h4 : Below wr.heap.size wr w4) (ho : Ow w4 (q + 1) 50 39 s' L'.length (L'.flatMap oneF)) (h5 : Below w4.heap.size w4 w5) (hE : Ext (fun k => k = m) w5 w6) (hs : SnAt w6 S m bv L') (h7 : Below w6.heap.size w6 w7) :
 TwoS W (set2 w7 q bv2 s') S m q bv bv2 s' B L' := by
 have hq := AJ h.box
 have z4 := h4.size
 have z5 := h5.size
 have z6 := hE.size
 have hmq := h.mq
 have hSq := h.Sq
 have hmW := h.mW
 have hbq : w7.heap[q]? = some (.cells #[bv2, s] 31 (0, 0)) := (h7.block _ (by omega)).trans (hE.Ai ((h5.block _ (by omega)).trans ((h4.block _ hq).trans h.box)) (fun e => by omega))
 have e8 : Ext (fun k => k = q) w7 (set2 w7 q bv2 s') := CX (S := fun k => k = q) (Ext.refl _ _) (.inl rfl) _ _
 have hall : Ext (fun k => k = m) wr w7 := (((Ext.of_below h4).I5 h5).trans hE).I5 h7
 refine ⟨SnAt.ext (SnAt.below hs h7) e8 (fun e => by omega) (fun e => by omega), ?_, ?_, h.b1, h.b2, EG hbq _ _, ?_, ?_, h.mW, h.mq, h.Sq⟩
 ·exact (h.hB.ext hall (fun k hk e => (h.b1 k hk).1 e)).ext e8 (fun k hk e => by have := (h.b1 k hk).2; omega)
 ·exact (h.hB2.ext hall (fun k hk e => (h.b2 k hk).1 e)).ext e8 (fun k hk e => by have := (h.b2 k hk).2; omega)
 ·exact (((ho.ext (Ext.ofB h5) (fun _ _ h => h)).ext hE (fun k hk e => by have := (ho.lt k hk).1; omega)).ext (Ext.ofB h7) (fun _ _ h => h)).ext e8 (fun k hk e => by have := (ho.lt k hk).1; omega)
 ·exact Bl.ext (Bl.ext h.bel hall (fun k hk e => by omega)) e8 (fun k hk e => by omega)
theorem hears_ok (W : World) (v0 v1 : Value) (B : List Gr') (A : List (Int × ByteArray × ByteArray)) (hB : Sl W v0 36 B.length (B.flatMap Gr'.cs)) (hl : B.length ≤ maxLen) (hb64 : B.length * 64 ≤ 140737488355328) (hA : Sl W v1 3 A.length (A.flatMap EH)) (hAw : ∀ x ∈ A, InI x.1 ∧ x.2.1.size ≤ 140737488351232 ∧ x.2.2.size ≤ maxLen) (hv : Am W) (hk : Au W) :
 Calls Tryz.prog 3 #[v0, v1] W (RB (.bool true) W) := by
 obtain ⟨a1, c1, rfl, _, hm1⟩ := hA.form
 have hAl : A.length ≤ 9223372036854775807 := by unfold maxLen at hm1; omega
 obtain ⟨HAS, HAW, HV, HK, HBS⟩ := l5h hA hAw hv hk hB
 have hLV := SnL.lives_ok W hv hk
 have HLV := lh hLV
 have hRN := fun w (hw : Below W.heap.size W w) => Kv w v0 B (Sl.below HBS.out hw) hl hb64
 clear hA hAw hv hk hB hLV
 cases hbk : C9 B
 ·rw [hbk] at hRN
  have HRN := lh hRN
  have HN := lh (fun w (hw : Below W.heap.size W w) => New_no w v0 B (Sl.below HBS.out hw) hbk)
  clear hRN hbk
  go_enter func3, ntmps3
  go_wp2_with fail
  refine HLV.out.mono ?_
  rintro e w1 ⟨rfl, hb1⟩
  have HL1 := lh hb1
  clear hb1
  go_wp2_with fail
  refine (HN.out w1 HL1.out).mono ?_
  rintro e w2 ⟨rfl, hb⟩
  have HL2 := tbB HL1 hb
  clear hb
  go_wp2_with fail
  refine (HRN.out w2 HL2.out).mono ?_
  rintro e w3 ⟨v', rfl, ho, hb⟩
  obtain ⟨va, vc, rfl, _, _⟩ := ho.form
  have HL3 := tbB HL2 hb
  clear hb ho
  go_wp2
  go_ret
  exact ⟨rfl, Bl.new HL3.out _⟩
 ·rw [hbk] at hRN
  have HRN := lh hRN
  have hB256 : B.length ≤ 256 := IY hbk
  have HN := lh (fun w (hw : Below W.heap.size W w) => New_ok w v0 B (Sl.below HBS.out hw) hbk hB256)
  clear hRN hbk
  go_enter func3, ntmps3
  go_wp2_with fail
  refine HLV.out.mono ?_
  rintro e w1 ⟨rfl, hb1⟩
  have HL1 := lh hb1
  clear hb1
  go_wp2_with fail
  refine (HN.out w1 HL1.out).mono ?_
  rintro e w2 ⟨S, m, bv, rfl, hs, ho1, hsep, hS0, hm0, hb⟩
  have HL2 := tbB HL1 hb
  have zz1 := HL1.out.size
  have lS := AJ hs.blk
  have lm := AJ hs.mp
  obtain ⟨HS2, HO2, Hsep⟩ := l3h hs ho1 hsep
  clear hb hs ho1 hsep
  go_wp2_with fail
  refine (HRN.out w2 HL2.out).mono ?_
  rintro e w3 ⟨bv2, rfl, ho2, hb⟩
  obtain ⟨ba, bc, rfl, _, _⟩ := ho2.form
  have HL3 := tbB HL2 hb
  have zz3 := hb.size
  obtain ⟨w4, hw4⟩ := nXe (w3.alloc (.cells #[.slice ba B.length bc, .slice none 0 0] 31))
  obtain ⟨q, hq⟩ := nXe (w3.heap.size)
  have h2 : TwoS W w4 S m q bv (.slice ba B.length bc) (.slice none 0 0) B [] := by
   have hb4 : Below w3.heap.size w3 w4 := by rw [hw4]; exact Bl.new (Below.refl _ _) _
   refine ⟨SnAt.below (SnAt.below HS2.out hb) hb4, Sl.below (Sl.below HO2.out.sl hb) hb4, Sl.below ho2.sl hb4, fun k hk => ⟨(Hsep.out k hk).1, by have := (HO2.out.lt k hk).2; omega⟩, fun k hk => ⟨by have := (ho2.lt k hk).1; omega, by have := (ho2.lt k hk).2; omega⟩, by rw [hw4, hq]; exact AL _ _, Ow.nil _ _ _ _, Bl.call HL3.out hb4, by omega, by omega, by omega⟩
  obtain ⟨H0, HW4⟩ := l2h h2 hw4
  by_cases hl60 : 60 < (A.length : Int)
  ·clear h2 hb ho2
   go_wp2
   go_ret
   exact ⟨rfl, Bl.new HL3.out _⟩
  ·go_wp2_with fail
   rw [← HW4.out, ← hq]
   clear h2 hb ho2 hw4 hq HW4 HS2 HO2 Hsep HRN HN zz1 zz3 lS lm hS0 hm0
   go_loopw [63] (fun x wr => ∃ k : Nat, k ≤ A.length ∧ x = .int .i64 k ∧ ∃ s L, TwoS W wr S m q bv (.slice ba B.length bc) s B L ∧ L.length ≤ k) (fun x _ => A.length - (intOf x).toNat)
   case atStart => exact ⟨0, Nat.zero_le _, rfl, _, [], H0.out, by simp⟩
   case round =>
        obtain ⟨k, hk, rfl, s, L, h2, hLk⟩ := hrel
        by_cases hlt : k < A.length
        ·obtain ⟨⟨sv, text, sig⟩, hx⟩ : ∃ x, A[k]? = some x := ⟨_, List.getElem?_eq_getElem hlt⟩
         obtain ⟨hsv, htz, hgz⟩ := HAW.out _ (List.mem_of_getElem? hx)
         simp only at hsv htz hgz
         have htm : text.size ≤ maxLen := by unfold maxLen; omega
         obtain ⟨ab, ao, rfl, habw, hcells⟩ := BU sdF (by omega) HAS.out hx
         have HX := lh (fun (j : Nat) (u : Value) (hu : (#[.int .i64 sv, .string text, .string sig] : Array Value).toList[j]? = some u) => (h2.bel.cell (p := ⟨ab, ao + k * 3 + j, none⟩) habw).trans (hcells j u hu))
         obtain ⟨sa, sc, rfl, _, _⟩ := h2.own.form
         have i0 : (0 : Int) ≤ (k : Int) := by omega
         have i1 : (k : Int) < (A.length : Int) := by omega
         have hL1000 : L.length ≤ 1000 := by omega
         obtain ⟨w5, hw5⟩ := nXe (wr.alloc (.cells #[.int .i64 sv, .string text, .string sig] 35))
         have hb5 : Below wr.heap.size wr w5 := by rw [hw5]; exact Bl.new (Below.refl _ _) _
         have HX5 := lh (show w5.heap[wr.heap.size]? = some (.cells #[.int .i64 sv, .string text, .string sig] 35 (0, 0)) by rw [hw5]; exact AL _ _)
         obtain ⟨H5, HW5⟩ := l2h (h2.same hb5) hw5
         obtain ⟨X, hX⟩ := nXe (wr.heap.size)
         have lq := AJ h2.box
         rw [← hX] at HX5 lq
         obtain ⟨O, hO⟩ := nXe (CE B L sv text sig)
         have hOl : O.l.length ≤ L.length + 1 := by rw [hO]; exact hear_len _ _ _ _ _
         obtain ⟨n, a, b, c, d, hp⟩ : ∃ n a b c d, O.p = pfA n a b c d := by rw [hO]; exact hear_p _ _ _ _ _
         obtain ⟨P, hP⟩ := nXe (O.p)
         have hPn : P.size = 5 := by rw [hP, hp]; rfl
         have HPS := lh (show (Tryz.prog.info? 37).map (·.size) = some P.size by rw [hPn]; kernel_rfl)
         have HPN := lh hPn
         have HPO := lh (show P.all (·.oneCell') = true by rw [hP, hp]; simp [pfA, Value.oneCell'])
         have hq : ∀ w, (Op.equalIn 10000 37 (.agg P) (.agg P)).run Tryz.prog w = .ok true w := by rw [hP, hp]; exact fun w => SnL.pf_self _ _ _ _ _ w
         have Hq := lh hq
         have hgv := HV.out.below H5.out.bel
         have hgk := HK.out.below H5.out.bel
         have hR := Ke w5 (q + 1) (.slice ba B.length bc) (.slice sa L.length sc) B L sv text sig H5.out.hB2 H5.out.own (by have := AJ H5.out.box; omega) hsv htm hgz hL1000 H5.out.sum hgv hgk
         rw [← hO, ← hP] at hR
         obtain ⟨HR, HO, HP, HXe⟩ := l4h hR hO hP hX
         clear h2 hcells hx hw5 hb5 hX hR hO hP hp hPn hgv hgk hq habw
         go_upto_region 12 with (refine Ah rfl _ _ rfl ab (ao + k * 3) rfl #[.int .i64 sv, .string text, .string sig] HX.out underlying35 rfl (by kernel_rfl) ?_)
         rw [← HW5.out, ← HXe.out]
         obtain ⟨e0, f0⟩ := AA HX5.out
         obtain ⟨e1, f1⟩ := AA H5.out.box
         clear HW5 HXe
         go_wp2_with fail
         refine HR.out.mono ?_
         rintro e w6 ⟨s', rfl, ho, hb⟩
         obtain ⟨a6, c6, rfl, _, _⟩ := ho.form
         have z5 := AJ HX5.out
         have z6 := hb.size
         obtain ⟨HB6, HO6, HX6⟩ := l3h hb ho ((hb.block _ z5).trans HX5.out)
         clear hb ho e0 f0 e1 f1
         go_wp2_with (first | (refine AC rfl _ _ _ rfl (w6.heap.size + 1) P rfl rfl _ _ (Ad _ (by simp)) HPS.out (by rw [HPN.out]; rfl) HPO.out ?_) | fail)
         intro u hu
         obtain ⟨w7, hw7⟩ := nXe (u)
         rw [← hw7] at hu ⊢
         clear hw7
         have hb7 : Below w6.heap.size w6 w7 := by rw [hu.out]; exact AQ (Bl.new (Bl.new (Below.refl _ _) _) _) (by omega) _
         have hq7 : w7.heap[w6.heap.size]? = some (.cells #[.slice ba B.length bc, .slice a6 O.l.length c6] 31 (0, 0)) := by rw [hu.out, CO _ (by omega)]; exact Ak (AL _ _) _
         have hp7 : w7.heap[w6.heap.size + 1]? = some (.cells P 37 (0, 0)) := by rw [hu.out]; exact AR (Ad _ (by simp))
         have z7 : w7.heap.size = w6.heap.size + 2 := by rw [hu.out, setRow_size]; simp
         obtain ⟨HB7, HQ7, HP7⟩ := l3h hb7 hq7 hp7
         have HX7 := lh ((hb7.block _ (show X < w6.heap.size by omega)).trans HX6.out)
         obtain ⟨Q1, hQ1⟩ := nXe (w6.heap.size)
         rw [← hQ1] at HQ7 HP7 ⊢
         have lX6 : X < Q1 := by omega
         have Mt : Q1 + 2 = w7.heap.size := by omega
         have HQ1 := lh hQ1
         clear hQ1
         clear hu hb7 hq7 hp7
         obtain ⟨e0, f0⟩ := AA HX7.out
         have Lm := SnAt.below (SnAt.below H5.out.sn HB6.out) HB7.out
         have LV := Bl.call (Bl.call H5.out.bel HB6.out) HB7.out
         have hH := FW w7 S m bv B L sv text sig Lm (Sl.below (Sl.below H5.out.hB HB6.out) HB7.out) hsv htm hgz hL1000 (HV.out.below LV) (HK.out.below LV)
         rw [← HO.out, ← HP.out] at hH
         have HH := lh hH
         clear hH Lm LV
         go_wp2_with fail
         refine HH.out.mono ?_
         rintro e w8 ⟨rfl, hs8, hE8⟩
         have z8 := hE8.size
         have hmq := H5.out.mq
         have hSq := H5.out.Sq
         obtain ⟨HS8, HE8⟩ := l2h hs8 hE8
         have HX8 := lh (hE8.Ai HX7.out (fun e => by omega))
         have HQ8 := lh (hE8.Ai HQ7.out (fun e => by omega))
         have HP8 := lh (hE8.Ai HP7.out (fun e => by omega))
         have MS := AJ H5.out.box
         have HC8 := lh (hE8.Ai ((HB7.out.block _ (show q < w6.heap.size by omega)).trans ((HB6.out.block _ MS).trans H5.out.box)) (fun e => by omega))
         clear hs8 hE8 e0 f0
         go_wp2_with (first | (refine AC rfl _ _ _ rfl w8.heap.size P rfl rfl _ _ (AL _ _) HPS.out (by rw [HPN.out]; rfl) HPO.out ?_) | fail)
         intro u hu
         obtain ⟨w9, hw9⟩ := nXe (u)
         rw [← hw9] at hu ⊢
         clear hw9
         have hb9 : Below w8.heap.size w8 w9 := by rw [hu.out]; exact AQ (Bl.new (Below.refl _ _) _) nR _
         have hr9 : w9.heap[w8.heap.size]? = some (.cells P 37 (0, 0)) := by rw [hu.out]; exact AR (AL _ _)
         obtain ⟨HB9, HR9⟩ := l2h hb9 hr9
         have HX9 := kpB hb9 HX8
         have HQ9 := kpB hb9 HQ8
         have HP9 := kpB hb9 HP8
         have HC9 := kpB hb9 HC8
         have HS9 := lh (SnAt.below HS8.out hb9)
         obtain ⟨Q2, hQ2⟩ := nXe (w8.heap.size)
         rw [← hQ2] at HR9 ⊢
         have HQ2 := lh hQ2
         clear hQ2
         clear hu hb9 hr9
         have hq := Hq.out
         have hGE := SnL.guardPf
         go_wp2_with fail
         refine Uniform.A9 (S := (fun W => ∃ m', W = w9.drewN m')) (List.range 21) (by kernel_rfl) (by kernel_rfl) ⟨1, rfl⟩ ?_
         refine ⟨_, _, rfl, Or.inl ⟨by rfl, fun wq hSw => Uniform.UStep.value (w' := wq) (EqHash.Bg 37 _ rfl _ rfl (by obtain ⟨mm, rfl⟩ := hSw; exact HP9.out) underlying37 rfl HPS.out) hSw⟩, ?_⟩
         simp only [sq]
         refine ⟨_, _, rfl, Or.inl ⟨by rfl, fun wq hSw => Uniform.UStep.value (w' := wq) (EqHash.Bg 37 _ rfl _ rfl (by obtain ⟨mm, rfl⟩ := hSw; exact HR9.out) underlying37 rfl HPS.out) hSw⟩, ?_⟩
         iterate 13
          simp only [sq]
          refine ⟨_, ?_, rfl, .inl ⟨by rfl, fun wq hSw => .value (w' := wq) ?_ hSw⟩, ?_⟩
          rotate_left
          ·go_simp
           rfl
         simp only [sq]
         refine ⟨_, ?_, rfl, Or.inl ⟨by rfl, fun wq hSw => Uniform.UStep.call (w' := wq) ?_ ((Len_ok wq S m bv O.l (by obtain ⟨mm, rfl⟩ := hSw; exact SnAt.below HS9.out (Bl.drewN (Below.refl _ _) _)) (by omega)).mono ?_)⟩, ?_⟩
         rotate_left
         ·go_simp
          first | done | rfl | exact ⟨⟨rfl, rfl⟩, rfl⟩
         ·rintro e wq2 ⟨rfl, rfl⟩
          refine ⟨?_, hSw⟩
          rfl
         simp only [sq]
         refine ⟨_, ?_, rfl, .inl ⟨by rfl, fun wq hSw => .value (w' := wq) ?_ hSw⟩, ?_⟩
         rotate_left
         ·go_simp
          rfl
         simp only [sq]
         refine ⟨_, ?_, rfl, .inl ⟨by rfl, fun wq hSw => .value (w' := wq) ?_ hSw⟩, ?_⟩
         rotate_left
         ·obtain ⟨mm, rfl⟩ := hSw
          obtain ⟨qc, qf⟩ := AA HQ9.out
          go_simp
          rfl
         iterate 3
          simp only [sq]
          refine ⟨_, ?_, rfl, .inl ⟨by rfl, fun wq hSw => .value (w' := wq) ?_ hSw⟩, ?_⟩
          rotate_left
          ·go_simp
           rfl
         simp only [sq]
         intro wz hSz
         obtain ⟨mz, rfl⟩ := hSz
         clear hq
         obtain ⟨e1, f1⟩ := AA HC9.out
         obtain ⟨e2, f2⟩ := AA HQ9.out
         go_upto_region 17 with fail
         have hT := TwoS.next H5.out HB6.out HO6.out HB7.out HE8.out HS8.out (Bl.drewN HB9.out mz)
         obtain ⟨wA, hwA⟩ := nXe (set2 (w9.drewN mz) q (.slice ba B.length bc) (.slice a6 O.l.length c6))
         change Code.wp _ _ _ _ (set2 (w9.drewN mz) q (.slice ba B.length bc) (.slice a6 O.l.length c6))
         have hxA : wA.heap[X]? = some (.cells #[.int .i64 sv, .string text, .string sig] 35 (0, 0)) := by rw [hwA]; exact (CX (S := fun k => k = q) (Ext.refl _ _) (.inl rfl) _ _).Ai (show (w9.drewN mz).heap[X]? = _ from HX9.out) (fun e => by omega)
         rw [← hwA] at hT ⊢
         obtain ⟨HT, HXA⟩ := l2h hT hxA
         clear hwA hT hxA e1 f1 e2 f2 HQ9 HP9 HR9 HC9 HS9 HX9 HB9 HQ8 HP8 HC8 HS8 HX8 HE8 HQ7 HP7 HX7 HB7 HX6 HO6 HB6 HR HH
         have HTZ := lh htz
         have HWS := lh (fun (hh : Hd) (e : says (bl text) = some hh) => wf_says (sv := sv) e hsv)
         cases hx : says (bl text) with
         | none =>
           have Io := fun w (hw : Below W.heap.size W w) => F8 w text HTZ.out (HV.out.below hw) (HK.out.below hw)
           rw [hx] at Io
           unfold hdV at Io
           simp only at Io
           obtain ⟨F, hF⟩ := nXe (hdZ)
           rw [← hF] at Io
           have hFn : F.size = 36 := by rw [hF]; rfl
           have HFS := lh (show (Tryz.prog.info? 46).map (·.size) = some F.size by rw [hFn]; kernel_rfl)
           have HFN := lh hFn
           have HFO := lh (show F.all (·.oneCell') = true by rw [hF]; exact Av _ _ _ _ _)
           have HSAY := lh Io
           clear hF hFn Io hx
           obtain ⟨e1, f1⟩ := AA HXA.out
           go_wp2_with fail
           refine (HSAY.out wA HT.out.bel).mono ?_
           rintro e wB ⟨rfl, hb⟩
           have zB := hb.size
           have HB := lh hb
           clear hb e1 f1
           go_wp2_with (first | (refine AC rfl _ _ _ rfl wB.heap.size F rfl rfl _ _ (AL _ _) HFS.out (by rw [HFN.out]; rfl) HFO.out ?_) | fail)
           intro u hu
           obtain ⟨wC, hwC⟩ := nXe (u)
           rw [← hwC] at hu ⊢
           clear hwC
           have hbC' : Below wB.heap.size wB wC := by rw [hu.out]; exact AQ (Bl.new (Below.refl _ _) _) nR _
           have hfC : wC.heap[wB.heap.size]? = some (.cells F 46 (0, 0)) := by rw [hu.out]; exact AR (AL _ _)
           have HFC := lh hfC
           have hbC := Bl.call HB.out hbC'
           have HTC := lh (HT.out.same hbC)
           clear hu hfC hbC'
           clear hbC
           go_wp2
           go_roundw
           case rel => exact ⟨k + 1, by omega, by go_num, _, O.l, HTC.out, by omega⟩
           case measure => simp [intOf]; omega
         | some h =>
           have Io := fun w (hw : Below W.heap.size W w) => F8 w text HTZ.out (HV.out.below hw) (HK.out.below hw)
           rw [hx] at Io
           unfold hdV at Io
           simp only at Io
           have hwf := HWS.out h hx
           have hP : HdP (hdA (bsOf h.room) h.ep h.ix h.sum (bsOf h.sig)) (bsOf h.room) h.ep h.ix h.sum (bsOf h.sig) := ⟨rfl, hwf.sum⟩
           obtain ⟨F, hF⟩ := nXe (hdA (bsOf h.room) h.ep h.ix h.sum (bsOf h.sig))
           rw [← hF] at hP Io
           have hFn := hP.size
           have HFS := lh (show (Tryz.prog.info? 46).map (·.size) = some F.size by rw [hFn]; kernel_rfl)
           have HFN := lh hFn
           have HFO := lh (show F.all (·.oneCell') = true by rw [hF]; exact Av _ _ _ _ _)
           obtain ⟨HSAY, HHP, HWF⟩ := l3h Io hP hwf
           clear hF hFn Io hx hP hwf
           obtain ⟨e1, f1⟩ := AA HXA.out
           go_wp2_with fail
           refine (HSAY.out wA HT.out.bel).mono ?_
           rintro e wB ⟨rfl, hb⟩
           have zB := hb.size
           have HB := lh hb
           clear hb e1 f1
           go_wp2_with (first | (refine AC rfl _ _ _ rfl wB.heap.size F rfl rfl _ _ (AL _ _) HFS.out (by rw [HFN.out]; rfl) HFO.out ?_) | fail)
           intro u hu
           obtain ⟨wC, hwC⟩ := nXe (u)
           rw [← hwC] at hu ⊢
           clear hwC
           have hbC' : Below wB.heap.size wB wC := by rw [hu.out]; exact AQ (Bl.new (Below.refl _ _) _) nR _
           have hfC : wC.heap[wB.heap.size]? = some (.cells F 46 (0, 0)) := by rw [hu.out]; exact AR (AL _ _)
           have HFC := lh hfC
           have hbC := Bl.call HB.out hbC'
           have HTC := lh (HT.out.same hbC)
           clear hu hfC hbC'
           have HXC := kpB hbC HXA
           clear hbC
           obtain ⟨e1, f1⟩ := AA HXC.out
           obtain ⟨e2, f2⟩ := AA HTC.out.box
           have k0 : wC.cell? ⟨wB.heap.size, 0, none⟩ = some (.string (bsOf h.room)) := (AO HFC.out).trans HHP.out.c0
           have k1 : wC.cell? ⟨wB.heap.size, 1, none⟩ = some (.int .i64 h.ep) := (AO HFC.out).trans HHP.out.c1
           have k2 : wC.cell? ⟨wB.heap.size, 2, none⟩ = some (.int .i64 h.ix) := (AO HFC.out).trans HHP.out.c2
           have LX : O.l.length ≤ 1000 := by omega
           have hRF := JK wC (.slice ba B.length bc) (.slice a6 O.l.length c6) O.l sv h ⟨_, _, _, rfl⟩ HTC.out.own.sl LX
           have h37 : (rowOf (first O.l sv h))[37]? = some (.string (gotT O.l sv h)) := by
            have hs := HTC.out.sum
            cases hf : first O.l sv h with
            | none => unfold gotT; rw [hf]; rfl
            | some xx => unfold gotT; rw [hf]; exact Kg (hs xx (List.mem_of_find?_eq_some hf))
           obtain ⟨RR, hRR⟩ := nXe (rowOf (first O.l sv h))
           have hRn : RR.size = 39 := by rw [hRR]; exact JY _
           have HRS := lh (show (Tryz.prog.info? 50).map (·.size) = some RR.size by rw [hRn]; kernel_rfl)
           have HRN := lh hRn
           have HRO := lh (show RR.all (·.oneCell') = true by rw [hRR]; exact row_one _)
           rw [← hRR] at hRF h37
           obtain ⟨T, hT⟩ := nXe (gotT O.l sv h)
           obtain ⟨bo, hbo⟩ := nXe ((first O.l sv h).isSome)
           rw [← hT] at h37
           rw [← hbo] at hRF
           obtain ⟨H37, HRF, HTE, HBO⟩ := l4h h37 hRF hT hbo
           clear hRR hRn h37 hRF hT hbo
           go_wp2_with fail
           refine HRF.out.mono ?_
           rintro e wD ⟨rfl, hb⟩
           have HB4 := lh hb
           have z4 := hb.size
           clear hb
           go_wp2_with (first | (refine AC rfl _ _ _ rfl wD.heap.size RR rfl rfl _ _ (AL _ _) HRS.out (by rw [HRN.out]; rfl) HRO.out ?_) | fail)
           intro u hu
           obtain ⟨wE, hwE⟩ := nXe (u)
           rw [← hwE] at hu ⊢
           clear hwE
           have hbE : Below wD.heap.size wD wE := by rw [hu.out]; exact AQ (Bl.new (Below.refl _ _) _) nR _
           have hrE : wE.heap[wD.heap.size]? = some (.cells RR 50 (0, 0)) := by rw [hu.out]; exact AR (AL _ _)
           have hE := Bl.call HB4.out hbE
           obtain ⟨HRE, MG⟩ := l2h hrE (HTC.out.same hE)
           have HXE := kpB hE HXC
           have HFE := kpB hE HFC
           clear hu hbE hrE hE e1 f1 e2 f2 k0 k1 k2
           obtain ⟨e1, f1⟩ := AA HXE.out
           have k0 : wE.cell? ⟨wB.heap.size, 0, none⟩ = some (.string (bsOf h.room)) := (AO HFE.out).trans HHP.out.c0
           have k1 : wE.cell? ⟨wB.heap.size, 1, none⟩ = some (.int .i64 h.ep) := (AO HFE.out).trans HHP.out.c1
           have k2 : wE.cell? ⟨wB.heap.size, 2, none⟩ = some (.int .i64 h.ix) := (AO HFE.out).trans HHP.out.c2
           have hFi := First_ok wE S m bv O.l sv h MG.out.sn HWF.out
           rw [← HTE.out, ← HBO.out] at hFi
           have HFI := lh hFi
           clear hFi
           go_wp2_with fail
           refine HFI.out.mono ?_
           rintro e wG ⟨rfl, hb⟩
           have HTG := lh (MG.out.same hb)
           have k37 : wG.cell? ⟨wD.heap.size, 37, none⟩ = some (.string T) := (AO ((hb.block _ (AJ HRE.out)).trans HRE.out)).trans H37.out
           clear hb e1 f1 k0 k1 k2
           go_wp2
           go_roundw
           case rel => exact ⟨k + 1, by omega, by go_num, _, O.l, HTG.out, by omega⟩
           case measure => simp [intOf]; omega
        ·obtain rfl : k = A.length := by omega
         have HBE := lh h2.bel
         clear h2
         go_wp2
         go_ret
         exact ⟨rfl, HBE.out⟩
end Go.Proofs.YtceiajepcokacaaGreatDoor.SnX
