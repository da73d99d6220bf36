/-
  WHAT IS PROVED: contracts and plain laws. Condition: each names its own.
-/
import Derived.Test.YtceiajepcokacaaGreatDoorS0
import Derived.Test.YtceiajepcokacaaGreatDoorZHF19
import Derived.Test.YtceiajepcokacaaGreatDoorZF20
set_option linter.unusedVariables false
set_option linter.unusedSimpArgs false
set_option maxRecDepth 100000
set_option maxHeartbeats 4000000
namespace Go.Proofs.YtceiajepcokacaaGreatDoor.SnY
open Go.Proofs.Tryz
open SnW SnX SnZ SnN
open Go Go.RowKit Go.ChangeMaps OctetS IdentS ShaS EntS OctG IdentP ShaA KeyA WireS WireT BookA BkC BkF PfS PfA RowsX Lift Steps SnK SnT SnM SnF SnG SnS SnH
attribute [-go_sem] run_equalIn_agg
theorem jO : BN Tryz.prog 23 35 3 40 (.agg #[.int .i64 0, .string ⟨#[]⟩, .string ⟨#[]⟩]) := BN.mk' (by kernel_rfl) (by kernel_rfl) rfl (by omega)
theorem jU : BN Tryz.prog 56 4 1 1 (.bool false) := BN.mk' (by kernel_rfl) (by kernel_rfl) rfl (by omega)
theorem iF {w : World} {base g n : Nat} {e : TypeId} (h : w.ownsRow base e 1 (.slice (some ⟨g, 0, none⟩) n n) n (madeCells #[.bool false] n).toList) : w.heap[g]? = some (.cells (FZ n []) e (0, 0)) := by
 rcases h.2 with ⟨h1, _⟩ | ⟨g', cap, cur, h1, _, h2, _, _, h5, h6⟩
 ·cases h1
 ·cases h1
  rw [h2]
  congr 2
  rw [Nat.mul_one] at h5 h6
  rw [List.take_of_length_le (by simp [h5])] at h6
  apply Array.toList_inj.1
  rw [h6]
  apply List.ext_getElem?
  intro i
  unfold madeCells FZ
  by_cases hi : i < n
  ·simp [hi, Nat.mod_one]
  ·simp [hi]
theorem iG (r1 r2 : List UInt8) : ((bsOf r1).toList == (bsOf r2).toList) = decide (r1 = r2) := SnP.room_dec r1 r2
theorem D5 {w : World} {g : Nat} {cs : Array Value} {te : TypeId} {n : Nat} (h : w.heap[g]? = some (.cells cs te (0, 0))) (hs : cs.size = n) : Sl w (.slice (some ⟨g, 0, none⟩) 1 1) n 1 cs.toList := SnQ.D5 h hs
theorem gm {α : Type} {f : α → Bool} {l : List α} {i : Nat} {x : α} (h : l[i]? = some x) : (l.take (i + 1)).any f = ((l.take i).any f || f x) := by
 obtain ⟨hi, rfl⟩ := List.getElem?_eq_some_iff.1 h
 rw [List.take_succ_eq_append_getElem hi, List.any_append]
 simp
structure Fin (W wr : World) (S m q : Nat) (bv hv : Value) (B : List Gr') (L : List Sn) (H : List Sd) (T : List Bool) (n : Nat) : Prop where
 sn : SnAt wr S m bv L
 hB : Sl wr bv 36 B.length (B.flatMap Gr'.cs)
 b1 : ∀ k, bv.ownBlock = some k → k ≠ m ∧ k < q
 told : wr.heap[q]? = some (.cells (FZ n T) 4 (0, 0))
 own : Ow wr (q + 1) 35 3 hv H.length (H.flatMap EH)
 bel : Below W.heap.size W wr
 mW : W.heap.size ≤ m
 mq : m < q
 Sq : S < q
section
variable {W wr : World} {S m q n : Nat} {bv hv : Value} {B : List Gr'} {L L' : List Sn} {H : List Sd} {T : List Bool}
theorem Fin.same {w' : World} (h : Fin W wr S m q bv hv B L H T n) (hb : Below wr.heap.size wr w') : Fin W w' S m q bv hv B L H T n :=
 ⟨h.sn.below hb, h.hB.below hb, h.b1, (hb.block _ (AJ h.told)).trans h.told, h.own.ext (Ext.ofB hb) (fun _ _ h => h), Bl.call h.bel hb, h.mW, h.mq, h.Sq⟩
theorem Fin.hear {w5 w6 : World} (h : Fin W w5 S m q bv hv B L H T n) (hE : Ext (fun k => k = m) w5 w6) (hs : SnAt w6 S m bv L') : Fin W w6 S m q bv hv B L' H T n := by
 have hmq := h.mq
 have hmW := h.mW
 exact ⟨hs, h.hB.ext hE (fun k hk e => (h.b1 k hk).1 e), h.b1, hE.Ai h.told (fun e => by omega), h.own.ext hE (fun k hk e => by have := (h.own.lt k hk).1; omega), Bl.ext h.bel hE (fun k hk e => by omega), h.mW, h.mq, h.Sq⟩
theorem Fin.tell (h : Fin W wr S m q bv hv B L H T n) (hT : T.length < n) (b : Bool) : Fin W (wr.setCell ⟨q, T.length, none⟩ (.bool b)) S m q bv hv B L H (T ++ [b]) n := by
 have hmq := h.mq
 have hSq := h.Sq
 have hmW := h.mW
 have e8 : Ext (fun k => k = q) wr (wr.setCell ⟨q, T.length, none⟩ (.bool b)) := (Ext.refl (fun k => k = q) wr).setCell (p := ⟨q, T.length, none⟩) (.inl rfl) _
 refine ⟨SnAt.ext h.sn e8 (fun e => by omega) (fun e => by omega), h.hB.ext e8 (fun k hk e => by have := (h.b1 k hk).2; omega), h.b1, ?_, h.own.ext e8 (fun k hk e => by have := (h.own.lt k hk).1; omega), Bl.ext h.bel e8 (fun k hk e => by omega), h.mW, h.mq, h.Sq⟩
 rw [← iL hT]
 exact heap_setCell_same h.told _
theorem iE {T : List Bool} {n : Nat} (h : T.length < n) : (FZ n T)[T.length]? = some (.bool false) := by
 rw [← gy h]
 exact iA (by simp)
theorem Fin.no (h : Fin W wr S m q bv hv B L H T n) (hT : T.length < n) : Fin W wr S m q bv hv B L H (T ++ [false]) n :=
 ⟨h.sn, h.hB, h.b1, by rw [gy hT]; exact h.told, h.own, h.bel, h.mW, h.mq, h.Sq⟩
theorem Fin.app {w6 : World} {hv' : Value} {x : Sd} (h : Fin W wr S m q bv hv B L H T n) (hO : Ow w6 (q + 1) 35 3 hv' (H.length + 1) (H.flatMap EH ++ EH x)) (hg : wr.grownBy w6 hv.ownBlock) : Fin W w6 S m q bv hv' B L (H ++ [x]) T n := by
 have hmq := h.mq
 have hSq := h.Sq
 have hmW := h.mW
 have e6 : Ext (fun k => hv.ownBlock = some k) wr w6 := (Ext.refl _ wr).grown hg (fun k h => .inl h)
 have hlt : ∀ k, hv.ownBlock = some k → q + 1 ≤ k := fun k hk => (h.own.lt k hk).1
 refine ⟨SnAt.ext h.sn e6 (fun e => by have := hlt _ e; omega) (fun e => by have := hlt _ e; omega), h.hB.ext e6 (fun k hk e => by have := hlt _ e; have := (h.b1 k hk).2; omega), h.b1, e6.Ai h.told (fun e => by have := hlt _ e; omega), ?_, Bl.ext h.bel e6 (fun k hk e => by have := hlt _ e; omega), h.mW, h.mq, h.Sq⟩
 rw [List.length_append, List.flatMap_append, List.flatMap_singleton]
 exact hO
end
theorem finds_ok (W : World) (v0 v1 : Value) (B : List Gr') (A : List (Int × ByteArray × ByteArray)) (hB : Sl W v0 36 B.length (B.flatMap Gr'.cs)) (hl : B.length ≤ maxLen) (hb64 : B.length * 64 ≤ 140737488355328) (hA : Sl W v1 3 A.length (A.flatMap EH)) (hAw : ∀ x ∈ A, InI x.1 ∧ x.2.1.size ≤ 140737488351232 ∧ x.2.2.size ≤ maxLen) (hv : Am W) (hk : Au W) :
 Calls Tryz.prog 4 #[v0, v1] W (RB (.bool true) W) := by
 obtain ⟨a1, c1, rfl, _, hm1⟩ := hA.form
 have hAl : A.length ≤ 9223372036854775807 := by unfold maxLen at hm1; omega
 obtain ⟨HAS, HAW, HV, HK, HBS⟩ := l5h hA hAw hv hk hB
 have hLV := SnL.lives_ok W hv hk
 have HLV := lh hLV
 clear hA hAw hv hk hB hLV
 cases hbk : C9 B
 ·have HN := lh (fun w (hw : Below W.heap.size W w) => New_no w v0 B (Sl.below HBS.out hw) hbk)
  clear hbk
  go_enter func4, ntmps4
  go_wp2_with fail
  refine HLV.out.mono ?_
  rintro e w1 ⟨rfl, hb1⟩
  have HL1 := lh hb1
  clear hb1
  go_wp2_with fail
  refine (HN.out w1 HL1.out).mono ?_
  rintro e w2 ⟨rfl, hb⟩
  have HL2 := tbB HL1 hb
  clear hb
  go_wp2
  go_ret
  exact ⟨rfl, HL2.out⟩
 ·have hB256 : B.length ≤ 256 := IY hbk
  have HN := lh (fun w (hw : Below W.heap.size W w) => New_ok w v0 B (Sl.below HBS.out hw) hbk hB256)
  clear hbk
  obtain ⟨ii, hii, hiz, his, hib⟩ := jU.ex
  go_enter func4, ntmps4
  go_wp2_with fail
  refine HLV.out.mono ?_
  rintro e w1 ⟨rfl, hb1⟩
  have HL1 := lh hb1
  clear hb1
  go_wp2_with fail
  refine (HN.out w1 HL1.out).mono ?_
  rintro e w2 ⟨S, m, bv, rfl, hs, ho1, hsep, hS0, hm0, hb⟩
  have HL2 := tbB HL1 hb
  have zz1 := HL1.out.size
  have lS := AJ hs.blk
  have lm := AJ hs.mp
  obtain ⟨HS2, HO2, Hsep⟩ := l3h hs ho1 hsep
  clear hb hs ho1 hsep
  by_cases hl60 : 60 < (A.length : Int)
  ·go_wp2
   go_ret
   exact ⟨rfl, HL2.out⟩
  ·go_wp2_with (at_make; go_must (refine wpList_make_full w2 rfl _ _ _ rfl w2.heap.size 4 ii (.bool false) 1 underlying56 hii hiz his .i64 .i64 A.length A.length A.length rfl rfl rfl rfl (by rw [hib]; omega) (by unfold maxLen; omega) nR ?go))
   case go =>
   intro w4 ho4 hg4
   obtain ⟨q, hq⟩ := nXe (w2.heap.size)
   have h2 : Fin W w4 S m q bv (.slice none 0 0) B [] [] [] A.length := by
        have hb4 : Below w2.heap.size w2 w4 := (Below.refl _ _).grown hg4 nR (fun q hq => by cases hq)
        refine ⟨SnAt.below HS2.out hb4, Sl.below HO2.out.sl hb4, fun k hk => ⟨(Hsep.out k hk).1, by have := (HO2.out.lt k hk).2; omega⟩, by rw [hq]; exact iF ho4, Ow.nil _ _ _ _, Bl.call HL2.out hb4, by omega, by omega, by omega⟩
   have H0 := lh h2
   go_wp2_with fail
   rw [← hq]
   clear h2 hq HS2 HO2 Hsep HN zz1 lS lm hS0 hm0 ho4 hg4 hii hiz his hib
   go_loopw [7, 56] (fun hv x wr => ∃ (k : Nat) (L : List Sn) (H : List Sd) (T : List Bool) (u : Value), k ≤ A.length ∧ hv = u ∧ x = .int .i64 k ∧ Fin W wr S m q bv u B L H T A.length ∧ Plain B L H T ∧ T.length = k ∧ L.length ≤ k ∧ H.length ≤ k ∧ ∀ y ∈ H, y ∈ A) (fun _ x _ => A.length - (intOf x).toNat)
   case atStart => exact ⟨0, [], [], [], _, Nat.zero_le _, rfl, rfl, H0.out, Plain.nil B, rfl, by simp, by simp, fun y hy => by simp at hy⟩
   case round =>
        obtain ⟨k, L, H, T, u, hk, rfl, rfl, h2, hpl, hTk, hLk, hHk, hHA⟩ := hrel
        by_cases hlt : k < A.length
        ·obtain ⟨⟨sv, text, sig⟩, hx⟩ : ∃ x, A[k]? = some x := ⟨_, List.getElem?_eq_getElem hlt⟩
         have hxA := List.mem_of_getElem? hx
         obtain ⟨hsv, htz, hgz⟩ := HAW.out _ hxA
         simp only at hsv htz hgz
         have htm : text.size ≤ maxLen := by unfold maxLen; omega
         obtain ⟨ab, ao, rfl, habw, hcells⟩ := BU sdF (by omega) HAS.out hx
         have HX := lh (fun (j : Nat) (u : Value) (hu : (#[.int .i64 sv, .string text, .string sig] : Array Value).toList[j]? = some u) => (h2.bel.cell (p := ⟨ab, ao + k * 3 + j, none⟩) habw).trans (hcells j u hu))
         obtain ⟨sa, sc, rfl, _, _⟩ := h2.own.form
         have i0 : (0 : Int) ≤ (k : Int) := by omega
         have i1 : (k : Int) < (A.length : Int) := by omega
         have hL1000 : L.length ≤ 1000 := by omega
         obtain ⟨w5, hw5⟩ := nXe (wr.alloc (.cells #[.int .i64 sv, .string text, .string sig] 35))
         have hb5 : Below wr.heap.size wr w5 := by rw [hw5]; exact Bl.new (Below.refl _ _) _
         have HX5 := lh (show w5.heap[wr.heap.size]? = some (.cells #[.int .i64 sv, .string text, .string sig] 35 (0, 0)) by rw [hw5]; exact AL _ _)
         obtain ⟨H5, HW5⟩ := l2h (h2.same hb5) hw5
         obtain ⟨X, hX⟩ := nXe (wr.heap.size)
         have lq := AJ h2.told
         rw [← hX] at HX5 lq
         have HXe := lh hX
         obtain ⟨O, hO⟩ := nXe (CE B L sv text sig)
         have hOl : O.l.length ≤ L.length + 1 := by rw [hO]; exact hear_len _ _ _ _ _
         obtain ⟨n, a, b, c, d, hp⟩ : ∃ n a b c d, O.p = pfA n a b c d := by rw [hO]; exact hear_p _ _ _ _ _
         obtain ⟨P, hP⟩ := nXe (O.p)
         have hPn : P.size = 5 := by rw [hP, hp]; rfl
         have HPS := lh (show (Tryz.prog.info? 37).map (·.size) = some P.size by rw [hPn]; kernel_rfl)
         have HPN := lh hPn
         have HPO := lh (show P.all (·.oneCell') = true by rw [hP, hp]; simp [pfA, Value.oneCell'])
         have hR := FW w5 S m bv B L sv text sig H5.out.sn H5.out.hB hsv htm hgz hL1000 (HV.out.below H5.out.bel) (HK.out.below H5.out.bel)
         rw [← hO, ← hP] at hR
         obtain ⟨y, hy⟩ := nXe (O.y)
         obtain ⟨is, his⟩ := nXe (O.is)
         rw [← hy, ← his] at hR
         obtain ⟨HY, HI⟩ := l2h hy his
         clear hy his
         obtain ⟨HR, HO, HP, HPL, HTK, HHA⟩ := l6h hR hO hP hpl hTk hHA
         have hmq := h2.mq
         have hSq := h2.Sq
         have hTn : T.length < A.length := by omega
         have HXA := lh hxA
         clear h2 hcells hx hw5 hb5 hX hR hO hP hp hPn hpl hTk hHA hxA
         go_upto_region 11 with (refine Ah rfl _ _ rfl ab (ao + k * 3) rfl #[.int .i64 sv, .string text, .string sig] HX.out underlying35 rfl (by kernel_rfl) ?_)
         rw [← HW5.out, ← HXe.out]
         obtain ⟨e0, f0⟩ := AA HX5.out
         clear HW5 HXe
         go_wp2_with fail
         refine HR.out.mono ?_
         rintro e w6 ⟨rfl, hs6, hE6⟩
         have lX := AJ HX5.out
         have H6 := lh (H5.out.hear hE6 hs6)
         have HX6 := lh (hE6.Ai HX5.out (fun e => by omega))
         clear hs6 hE6 e0 f0
         go_wp2_with (first | (refine AC rfl _ _ _ rfl w6.heap.size P rfl rfl _ _ (AL _ _) HPS.out (by rw [HPN.out]; rfl) HPO.out ?_) | fail)
         intro u hu
         obtain ⟨w7, hw7⟩ := nXe (u)
         rw [← hw7] at hu ⊢
         clear hw7
         have hb7 : Below w6.heap.size w6 w7 := by rw [hu.out]; exact AQ (Bl.new (Below.refl _ _) _) nR _
         have HP7 := lh (show w7.heap[w6.heap.size]? = some (.cells P 37 (0, 0)) by rw [hu.out]; exact AR (AL _ _))
         have H7 := lh (H6.out.same hb7)
         have HX7 := kpB hb7 HX6
         obtain ⟨Q1, hQ1⟩ := nXe (w6.heap.size)
         rw [← hQ1] at HP7 ⊢
         clear hu hb7 hQ1 HR H5 H6 HX5 HX6
         have hy := HY.out
         have his := HI.out
         by_cases hy0 : y = 0
         rotate_left
         ·obtain ⟨n1, n2⟩ := iV (B := B) (L := L) (sv := sv) (text := text) (sig := sig) (by rw [← HO.out, ← hy]; exact hy0)
          rw [← HO.out] at n1 n2
          rw [n1] at his
          subst his
          have H7' := H7.out
          rw [n2] at H7'
          have H8 := lh (H7'.no hTn)
          clear hy n1 n2 H7' H7
          go_wp2
          go_roundw
          case rel => exact ⟨k + 1, L, H, T ++ [false], _, by omega, rfl, by go_num, H8.out, HPL.out.more false, by rw [List.length_append, HTK.out]; rfl, by omega, by omega, HHA.out⟩
          case measure => simp [intOf]; omega
         subst hy0
         obtain ⟨h, iP⟩ := fine (sv := sv) (text := text) (sig := sig) HPL.out (by rw [← HO.out]; exact hy.symm)
         rw [← HO.out] at iP
         obtain ⟨HFI, HIS⟩ := l2h iP his
         clear hy iP his
         have HP3 := lh (show ∀ (j : Nat) (u : Value), P.toList[j]? = some u → w7.cell? ⟨Q1, 0 + j, none⟩ = some u from fun j u hu => by rw [Nat.zero_add, AO HP7.out]; simpa using hu)
         go_upto_region 15 with fail
         obtain ⟨e1, f1⟩ := AA HX7.out
         go_cut [89] from 76 to 88 (fun t wx => t = .bool false ∧ Below w7.heap.size w7 wx)
         case first =>
          cases is
          ·go_wp2
           go_meet
           exact ⟨rfl, Below.refl _ _⟩
          ·obtain ⟨a', g', hpe, haz, jV, hck⟩ := HFI.out.proof HIS.out.symm
           rw [← HP.out] at hpe
           have hCK := PfC.ik w7 P sv a' g' text sig hpe (by omega) (by unfold maxLen; omega) htm hgz v0 B (Sl.below HBS.out H7.out.bel) (HV.out.below H7.out.bel) (HK.out.below H7.out.bel)
           rw [hck] at hCK
           have HCK := lh hCK
           have hp0 : P[0]? = some (.int .i64 sv) := by rw [hpe]; rfl
           have HP0 := lh hp0
           clear hCK hpe hp0 hck
           go_wp2_with (first | (guard_target =~ wpList _ _ _ (Oper.mk _ (Op.load 37 _) _ _ _ _ :: _) _ _; refine Aq (by kernel_rfl) 37 _ rfl Q1 0 rfl P HP3.out underlying37 rfl HPS.out ?_) | fail)
           refine HCK.out.mono ?_
           rintro e w8 ⟨rfl, hb⟩
           have k0 : w8.cell? ⟨Q1, 0, none⟩ = some (.int .i64 sv) := (AO ((hb.block _ (AJ HP7.out)).trans HP7.out)).trans HP0.out
           have HX8 := kpB hb HX7
           have HB8 := lh hb
           clear hb e1 f1
           obtain ⟨e1, f1⟩ := AA HX8.out
           go_wp2
           go_meet
           exact ⟨rfl, HB8.out⟩
         case rest =>
          obtain ⟨rfl, hb⟩ := hcut
          have h8 := H7.out.same hb
          have HX8 := kpB hb HX7
          have ck : wc.cell? ⟨q, k, none⟩ = some (.bool false) := (AO h8.told).trans (by rw [← HTK.out]; exact iE hTn)
          have fk : wc.frozen? ⟨q, k, none⟩ = false := BK h8.told
          have h9 := h8.tell hTn is
          rw [HTK.out] at h9
          have H9 := lh h9
          have lX8 := AJ HX8.out
          clear hb h8 h9 e1 f1 HP3 HP7 H7 HX7
          go_upto_region 18 with fail
          obtain ⟨w9, hw9⟩ := nXe (wc.setCell ⟨q, k, none⟩ (.bool is))
          have hx9 : w9.heap[X]? = some (.cells #[.int .i64 sv, .string text, .string sig] 35 (0, 0)) := by rw [hw9]; exact ((Ext.refl (fun k => k = q) wc).setCell (p := ⟨q, k, none⟩) (.inl rfl) _).Ai HX8.out (fun e => by omega)
          rw [← hw9]
          rw [← hw9] at H9
          have HX9 := lh hx9
          clear hw9 hx9 ck fk HX8
          have iH := fun w (hw : Below W.heap.size W w) => F8 w text htz (HV.out.below hw) (HK.out.below hw)
          rw [HFI.out.says] at iH
          unfold hdV at iH
          simp only at iH
          have hwf := wf_says (sv := sv) HFI.out.says hsv
          have hHP : HdP (hdA (bsOf h.room) h.ep h.ix h.sum (bsOf h.sig)) (bsOf h.room) h.ep h.ix h.sum (bsOf h.sig) := ⟨rfl, hwf.sum⟩
          obtain ⟨F, hF⟩ := nXe (hdA (bsOf h.room) h.ep h.ix h.sum (bsOf h.sig))
          rw [← hF] at hHP iH
          have hFn := hHP.size
          have HFS := lh (show (Tryz.prog.info? 46).map (·.size) = some F.size by rw [hFn]; kernel_rfl)
          have HFN := lh hFn
          have HFO := lh (show F.all (·.oneCell') = true by rw [hF]; exact Av _ _ _ _ _)
          obtain ⟨HSAY, HHP, HWF⟩ := l3h iH hHP hwf
          obtain ⟨M, hM⟩ : ∃ M : Array Value, M = (byV h.sum).toArray := ⟨_, rfl⟩
          have HM := lh hM
          have HMS := lh (show (Tryz.prog.info? 44).map (·.size) = some M.size by rw [show M.size = 32 by rw [hM]; simp [AZ, hwf.sum]]; kernel_rfl)
          clear hF hFn iH hHP hwf hM
          obtain ⟨e1, f1⟩ := AA HX9.out
          go_wp2_with fail
          refine (HSAY.out w9 H9.out.bel).mono ?_
          rintro e wB ⟨rfl, hb⟩
          have HBB := lh hb
          clear hb e1 f1
          go_wp2_with (first | (refine AC rfl _ _ _ rfl wB.heap.size F rfl rfl _ _ (AL _ _) HFS.out (by rw [HFN.out]; rfl) HFO.out ?_) | fail)
          intro u hu
          obtain ⟨wC, hwC⟩ := nXe (u)
          rw [← hwC] at hu ⊢
          clear hwC
          have hbC : Below wB.heap.size wB wC := by rw [hu.out]; exact AQ (Bl.new (Below.refl _ _) _) nR _
          have hfC : wC.heap[wB.heap.size]? = some (.cells F 46 (0, 0)) := by rw [hu.out]; exact AR (AL _ _)
          obtain ⟨FB, hFB⟩ := nXe (wB.heap.size)
          rw [← hFB] at hfC ⊢
          have jC := Bl.call HBB.out hbC
          have HC := lh (H9.out.same jC)
          have HXC := kpB jC HX9
          have HFC := lh hfC
          have lFB := AJ hfC
          have lXC := AJ HXC.out
          clear hu hfC hFB hbC jC H9 HX9 HBB
          go_wp2_with fail
          go_loopw [16, 104] (fun t j wq => ∃ (i : Nat) (tw : Bool), j = .int .i64 i ∧ t = .bool tw ∧ i ≤ H.length ∧ Hid ((H.take i).any (Ec sv h) = tw) ∧ Below wC.heap.size wC wq) (fun _ j _ => H.length - (intOf j).toNat)
          case atStart => exact ⟨0, false, rfl, rfl, by omega, lh rfl, Below.refl _ _⟩
          case round =>
           rename World => wq
           obtain ⟨i, tw, rfl, rfl, hi, htw, hbq⟩ := hrel
           by_cases hil : i < H.length
           ·obtain ⟨⟨yv, yt, ys⟩, hyi⟩ : ∃ x, H[i]? = some x := ⟨_, List.getElem?_eq_getElem hil⟩
            have hyH := List.mem_of_getElem? hyi
            obtain ⟨hyv, hyz, hgs⟩ := HAW.out _ (HHA.out _ hyH)
            simp only at hyv hyz hgs
            obtain ⟨g, z, hg, _⟩ := HPL.out.first _ hyH
            simp only at hg
            have hstep := gm (f := Ec sv h) hyi
            rw [htw.out] at hstep
            have hat : Ec sv h (yv, yt, ys) = (decide (yv = sv) && (decide (g.room = h.room) && (decide (g.ep = h.ep) && (decide (g.ix = h.ix) && !decide (g.sum = h.sum))))) := by unfold Ec; simp only [hg]
            rw [hat] at hstep
            have hq := HC.out.same hbq
            obtain ⟨hb', ho', rfl, _, hcy⟩ := BU sdF (by omega) hq.own.sl hyi
            have HY := lh hcy
            obtain ⟨wy, hwy⟩ := nXe (wq.alloc (.cells #[.int .i64 yv, .string yt, .string ys] 35))
            have hby : Below wq.heap.size wq wy := by rw [hwy]; exact Bl.new (Below.refl _ _) _
            have hYy : wy.heap[wq.heap.size]? = some (.cells #[.int .i64 yv, .string yt, .string ys] 35 (0, 0)) := by rw [hwy]; exact AL _ _
            obtain ⟨YB, hYB⟩ := nXe (wq.heap.size)
            rw [← hYB] at hYy
            obtain ⟨HWy, HYe, HYy, HBy⟩ := l4h hwy hYB hYy (Bl.call hbq hby)
            have hsg := G9 hg
            have hsy := fun w (hw : Below W.heap.size W w) => F8 w yt hyz (HV.out.below hw) (HK.out.below hw)
            rw [hg] at hsy
            unfold hdV at hsy
            simp only at hsy
            have hGP : HdP (hdA (bsOf g.room) g.ep g.ix g.sum (bsOf g.sig)) (bsOf g.room) g.ep g.ix g.sum (bsOf g.sig) := ⟨rfl, hsg.2.1⟩
            obtain ⟨G, hG⟩ := nXe (hdA (bsOf g.room) g.ep g.ix g.sum (bsOf g.sig))
            rw [← hG] at hGP hsy
            have hGn := hGP.size
            have HGS := lh (show (Tryz.prog.info? 46).map (·.size) = some G.size by rw [hGn]; kernel_rfl)
            have HGN := lh hGn
            have HGO := lh (show G.all (·.oneCell') = true by rw [hG]; exact Av _ _ _ _ _)
            obtain ⟨HSY, HGP⟩ := l2h hsy hGP
            obtain ⟨M1, hM1⟩ : ∃ M : Array Value, M = (byV g.sum).toArray := ⟨_, rfl⟩
            have HM1 := lh hM1
            have HM1S := lh (show (Tryz.prog.info? 44).map (·.size) = some M1.size by rw [show M1.size = 32 by rw [hM1]; simp [AZ, hsg.2.1]]; kernel_rfl)
            have hqs : ∀ w, (Op.equalIn 10000 44 (.agg M1) (.agg M)).run Tryz.prog w = .ok (decide (g.sum = h.sum)) w := fun w => by rw [hM1, HM.out]; exact hash_eq hsg.2.1 HWF.out.sum w
            have HQS := lh hqs
            have hrd := iG g.room h.room
            obtain ⟨R1, hR1⟩ := nXe (bsOf g.room)
            obtain ⟨R2, hR2⟩ := nXe (bsOf h.room)
            rw [← hR1, ← hR2] at hrd
            obtain ⟨HRD, HR1, HR2, HST⟩ := l4h hrd hR1 hR2 hstep
            clear hstep hcy hq hbq hat hwy hby hYy hYB hsg hsy hGP hG hGn hM1 hqs hrd hR1 hR2 hg hyH hyi
            go_upto_region 25 with (refine Ah rfl _ _ rfl hb' (ho' + i * 3) rfl #[.int .i64 yv, .string yt, .string ys] HY.out underlying35 rfl (by kernel_rfl) ?_)
            rw [← HWy.out, ← HYe.out]
            obtain ⟨e1, f1⟩ := AA HYy.out
            clear HWy HYe
            go_wp2_with fail
            refine (HSY.out wy (Bl.call HC.out.bel HBy.out)).mono ?_
            rintro e wz ⟨rfl, hb⟩
            have HBz := lh hb
            clear hb e1 f1
            go_wp2_with (first | (refine AC rfl _ _ _ rfl wz.heap.size G rfl rfl _ _ (AL _ _) HGS.out (by rw [HGN.out]; rfl) HGO.out ?_) | fail)
            intro u hu
            obtain ⟨wG, hwG⟩ := nXe (u)
            rw [← hwG] at hu ⊢
            clear hwG
            have hbG : Below wz.heap.size wz wG := by rw [hu.out]; exact AQ (Bl.new (Below.refl _ _) _) nR _
            have hfG : wG.heap[wz.heap.size]? = some (.cells G 46 (0, 0)) := by rw [hu.out]; exact AR (AL _ _)
            obtain ⟨GB, hGB⟩ := nXe (wz.heap.size)
            rw [← hGB] at hfG ⊢
            have jB := Bl.call HBz.out hbG
            have iX := Bl.call HBy.out jB
            have HCG := lh iX
            have hYG := (jB.block _ (AJ HYy.out)).trans HYy.out
            have hXG := (iX.block _ (AJ HXC.out)).trans HXC.out
            have hFG := (iX.block _ (AJ HFC.out)).trans HFC.out
            have y0 : wG.cell? ⟨YB, 0, none⟩ = some (.int .i64 yv) := AO hYG
            have x0 : wG.cell? ⟨X, 0, none⟩ = some (.int .i64 sv) := AO hXG
            have g0 : wG.cell? ⟨GB, 0, none⟩ = some (.string R1) := (AO hfG).trans (by rw [HR1.out]; exact HGP.out.c0)
            have g1 : wG.cell? ⟨GB, 1, none⟩ = some (.int .i64 g.ep) := (AO hfG).trans HGP.out.c1
            have g2 : wG.cell? ⟨GB, 2, none⟩ = some (.int .i64 g.ix) := (AO hfG).trans HGP.out.c2
            have k0 : wG.cell? ⟨FB, 0, none⟩ = some (.string R2) := (AO hFG).trans (by rw [HR2.out]; exact HHP.out.c0)
            have k1 : wG.cell? ⟨FB, 1, none⟩ = some (.int .i64 h.ep) := (AO hFG).trans HHP.out.c1
            have k2 : wG.cell? ⟨FB, 2, none⟩ = some (.int .i64 h.ix) := (AO hFG).trans HHP.out.c2
            have HGc := lh (show ∀ (j : Nat) (u : Value), M1.toList[j]? = some u → wG.cell? ⟨GB, 3 + j, none⟩ = some u from fun j u hu => by rw [HM1.out] at hu; rw [AO hfG]; exact HGP.out.cp j u hu)
            have HFc := lh (show ∀ (j : Nat) (u : Value), M.toList[j]? = some u → wG.cell? ⟨FB, 3 + j, none⟩ = some u from fun j u hu => by rw [HM.out] at hu; rw [AO hFG]; exact HHP.out.cp j u hu)
            have hst := HST.out
            clear hu hfG hGB hbG jB iX hYG hXG hFG HST
            by_cases c1 : yv = sv
            rotate_left
            ·skip
             have t1 : (yv == sv) = false := by simpa using c1
             have u1 : decide (yv = sv) = false := dF (by simpa using c1)
             have hs2 : (H.take (i + 1)).any (Ec sv h) = tw := by rw [hst]; simp [c1]
             have HS2 := lh hs2
             clear hst hs2
             go_wp2
             go_roundw
             case rel => exact ⟨i + 1, tw, by go_num, rfl, by omega, HS2, HCG.out⟩
             case measure => simp [intOf]; omega
            by_cases c2 : g.room = h.room
            rotate_left
            ·skip
             have t1 : (yv == sv) = true := by simpa using c1
             have u1 : decide (yv = sv) = true := dT (by simpa using c1)
             have hrd := HRD.out
             rw [dF c2] at hrd
             have hs2 : (H.take (i + 1)).any (Ec sv h) = tw := by rw [hst]; simp [c1, c2]
             have HS2 := lh hs2
             clear hst hs2
             go_wp2
             go_roundw
             case rel => exact ⟨i + 1, tw, by go_num, rfl, by omega, HS2, HCG.out⟩
             case measure => simp [intOf]; omega
            by_cases c3 : g.ep = h.ep
            rotate_left
            ·skip
             have t1 : (yv == sv) = true := by simpa using c1
             have u1 : decide (yv = sv) = true := dT (by simpa using c1)
             have hrd := HRD.out
             rw [dT c2] at hrd
             have t3 : (g.ep == h.ep) = false := by simpa using c3
             have u3 : decide (g.ep = h.ep) = false := dF (by simpa using c3)
             have hs2 : (H.take (i + 1)).any (Ec sv h) = tw := by rw [hst]; simp [c1, c2, c3]
             have HS2 := lh hs2
             clear hst hs2
             go_wp2
             go_roundw
             case rel => exact ⟨i + 1, tw, by go_num, rfl, by omega, HS2, HCG.out⟩
             case measure => simp [intOf]; omega
            by_cases c4 : g.ix = h.ix
            rotate_left
            ·skip
             have t1 : (yv == sv) = true := by simpa using c1
             have u1 : decide (yv = sv) = true := dT (by simpa using c1)
             have hrd := HRD.out
             rw [dT c2] at hrd
             have t3 : (g.ep == h.ep) = true := by simpa using c3
             have u3 : decide (g.ep = h.ep) = true := dT (by simpa using c3)
             have t4 : (g.ix == h.ix) = false := by simpa using c4
             have u4 : decide (g.ix = h.ix) = false := dF (by simpa using c4)
             have hs2 : (H.take (i + 1)).any (Ec sv h) = tw := by rw [hst]; simp [c1, c2, c3, c4]
             have HS2 := lh hs2
             clear hst hs2
             go_wp2
             go_roundw
             case rel => exact ⟨i + 1, tw, by go_num, rfl, by omega, HS2, HCG.out⟩
             case measure => simp [intOf]; omega
            by_cases c5 : g.sum = h.sum
            ·skip
             have t1 : (yv == sv) = true := by simpa using c1
             have u1 : decide (yv = sv) = true := dT (by simpa using c1)
             have hrd := HRD.out
             rw [dT c2] at hrd
             have t3 : (g.ep == h.ep) = true := by simpa using c3
             have u3 : decide (g.ep = h.ep) = true := dT (by simpa using c3)
             have t4 : (g.ix == h.ix) = true := by simpa using c4
             have u4 : decide (g.ix = h.ix) = true := dT (by simpa using c4)
             have hs2 : (H.take (i + 1)).any (Ec sv h) = tw := by rw [hst]; simp [c1, c2, c3, c4, c5]
             have HS2 := lh hs2
             have hqs := HQS.out
             rw [dT c5] at hqs
             have hGS := EqHash.D8
             clear hst hs2
             go_wp2_with (first | (guard_target =~ wpList _ _ _ (Oper.mk _ (Op.load 44 _) _ _ _ _ :: _) _ _; refine Aq (by kernel_rfl) 44 _ rfl GB 3 rfl M1 HGc.out underlying44 rfl HM1S.out ?_) | (guard_target =~ wpList _ _ _ (Oper.mk _ (Op.load 44 _) _ _ _ _ :: _) _ _; refine Aq (by kernel_rfl) 44 _ rfl FB 3 rfl M HFc.out underlying44 rfl HMS.out ?_) | fail)
             go_roundw
             case rel => exact ⟨i + 1, tw, by go_num, rfl, by omega, HS2, HCG.out⟩
             case measure => simp [intOf]; omega
            ·skip
             have t1 : (yv == sv) = true := by simpa using c1
             have u1 : decide (yv = sv) = true := dT (by simpa using c1)
             have hrd := HRD.out
             rw [dT c2] at hrd
             have t3 : (g.ep == h.ep) = true := by simpa using c3
             have u3 : decide (g.ep = h.ep) = true := dT (by simpa using c3)
             have t4 : (g.ix == h.ix) = true := by simpa using c4
             have u4 : decide (g.ix = h.ix) = true := dT (by simpa using c4)
             have hs2 : (H.take (i + 1)).any (Ec sv h) = true := by rw [hst]; simp [c1, c2, c3, c4, c5]
             have HS2 := lh hs2
             have hqs := HQS.out
             rw [dF c5] at hqs
             have hGS := EqHash.D8
             clear hst hs2
             go_wp2_with (first | (guard_target =~ wpList _ _ _ (Oper.mk _ (Op.load 44 _) _ _ _ _ :: _) _ _; refine Aq (by kernel_rfl) 44 _ rfl GB 3 rfl M1 HGc.out underlying44 rfl HM1S.out ?_) | (guard_target =~ wpList _ _ _ (Oper.mk _ (Op.load 44 _) _ _ _ _ :: _) _ _; refine Aq (by kernel_rfl) 44 _ rfl FB 3 rfl M HFc.out underlying44 rfl HMS.out ?_) | fail)
             go_roundw
             case rel => exact ⟨i + 1, true, by go_num, rfl, by omega, HS2, HCG.out⟩
             case measure => simp [intOf]; omega
           ·obtain rfl : i = H.length := by omega
            have htw' := htw.out
            rw [List.take_length] at htw'
            have HD := lh (HC.out.same hbq)
            have HXD := kpB hbq HXC
            have HFD := kpB hbq HFC
            have HTW := lh htw'
            clear htw htw' hbq hi
            cases is
            ·cases tw
             ·skip
              obtain ⟨wA, hwA⟩ := nXe (wq.alloc (.cells #[.int .i64 sv, .string text, .string sig] 35))
              have hbA : Below wq.heap.size wq wA := by rw [hwA]; exact Bl.new (Below.refl _ _) _
              have hXA' : wA.heap[wq.heap.size]? = some (.cells #[.int .i64 sv, .string text, .string sig] 35 (0, 0)) := by rw [hwA]; exact AL _ _
              have HSr := lh (Sl.src (D5 hXA' rfl) underlying23 (fun u hu => by simp at hu; rcases hu with rfl | rfl | rfl <;> rfl))
              obtain ⟨HFA, HWA⟩ := l2h (HD.out.same hbA) hwA
              have hzA := hbA.size
              have hqA := AJ HFA.out.told
              clear hwA hbA hXA'
              obtain ⟨e1, f1⟩ := AA HXD.out
              go_wp2_with (first | (at_builtin; rw [← HWA.out]; go_must (refine Al _ rfl _ _ _ _ rfl jO (q + 1) (.slice sa H.length sc) H.length (H.flatMap EH) rfl HFA.out.own (.slice (some ⟨wq.heap.size, 0, none⟩) 1 1) 1 (EH (sv, text, sig)) rfl HSr.out (H.length + 1) rfl _ rfl (by unfold maxLen; omega) (by omega) (by omega) ?go)) | fail)
              case go =>
              intro a6 c6 w6 hO6 hg6 hat6
              have H6 := lh (HFA.out.app hO6 hg6)
              clear hO6 hg6 hat6 e1 f1
              go_wp2
              go_roundw
              case rel =>
                      refine ⟨k + 1, O.l, H ++ [(sv, text, sig)], T ++ [false], _, by omega, rfl, by go_num, H6.out, ?_, by rw [List.length_append, HTK.out]; rfl, by omega, by rw [List.length_append]; show H.length + 1 ≤ k + 1; omega, fun y hy => ?_⟩
                      ·have hp := HFI.out.plain
                       rw [← HIS.out] at hp
                       exact hp
                      ·rcases List.mem_append.1 hy with hy | hy
                       ·exact HHA.out y hy
                       ·simp only [List.mem_singleton] at hy
                        rw [hy]
                        exact HXA.out
              case measure => simp [intOf]; omega
             ·obtain ⟨z, hz, hzs, hse, hzT, hzz⟩ := HFI.out.noted HIS.out.symm HTW.out
              have hFi := First_ok wq S m bv O.l sv h HD.out.sn HWF.out
              unfold gotT at hFi
              rw [hz] at hFi
              have HFi := lh hFi
              have hsz := fun w (hw : Below W.heap.size W w) => F8 w z.text (by omega) (HV.out.below hw) (HK.out.below hw)
              rw [hzs] at hsz
              unfold hdV at hsz
              simp only at hsz
              have hzl := (G9 hzs).2.1
              have hZP : HdP (hdA (bsOf z.h.room) z.h.ep z.h.ix z.h.sum (bsOf z.h.sig)) (bsOf z.h.room) z.h.ep z.h.ix z.h.sum (bsOf z.h.sig) := ⟨rfl, hzl⟩
              obtain ⟨Z, hZ⟩ := nXe (hdA (bsOf z.h.room) z.h.ep z.h.ix z.h.sum (bsOf z.h.sig))
              rw [← hZ] at hZP hsz
              have hZn := hZP.size
              have HZS := lh (show (Tryz.prog.info? 46).map (·.size) = some Z.size by rw [hZn]; kernel_rfl)
              have HZN := lh hZn
              have HZO := lh (show Z.all (·.oneCell') = true by rw [hZ]; exact Av _ _ _ _ _)
              obtain ⟨HSZ, HZP⟩ := l2h hsz hZP
              have hqs : ∀ w, (Op.equalIn 10000 44 (.agg M) (.agg M)).run Tryz.prog w = .ok true w := fun w => by rw [HM.out, hash_eq HWF.out.sum HWF.out.sum w]; simp
              obtain ⟨HQS, HSE, HZT⟩ := l3h hqs hse hzT
              clear hFi hsz hzl hZP hZ hZn hqs hse hzT hz hzs
              obtain ⟨e1, f1⟩ := AA HXD.out
              have k0 : wq.cell? ⟨FB, 0, none⟩ = some (.string (bsOf h.room)) := (AO HFD.out).trans HHP.out.c0
              have k1 : wq.cell? ⟨FB, 1, none⟩ = some (.int .i64 h.ep) := (AO HFD.out).trans HHP.out.c1
              have k2 : wq.cell? ⟨FB, 2, none⟩ = some (.int .i64 h.ix) := (AO HFD.out).trans HHP.out.c2
              go_wp2_with fail
              refine HFi.out.mono ?_
              rintro e wa ⟨rfl, hb⟩
              have HBa := lh hb
              clear hb e1 f1 k0 k1 k2
              go_wp2_with fail
              refine (HSZ.out wa (Bl.call HD.out.bel HBa.out)).mono ?_
              rintro e wb ⟨rfl, hb⟩
              have HBb := lh (Bl.call HBa.out hb)
              clear hb
              go_wp2_with (first | (refine AC rfl _ _ _ rfl wb.heap.size Z rfl rfl _ _ (AL _ _) HZS.out (by rw [HZN.out]; rfl) HZO.out ?_) | fail)
              intro u hu
              obtain ⟨wZ, hwZ⟩ := nXe (u)
              rw [← hwZ] at hu ⊢
              clear hwZ
              have hbZ : Below wb.heap.size wb wZ := by rw [hu.out]; exact AQ (Bl.new (Below.refl _ _) _) nR _
              have hfZ : wZ.heap[wb.heap.size]? = some (.cells Z 46 (0, 0)) := by rw [hu.out]; exact AR (AL _ _)
              obtain ⟨ZB, hZB⟩ := nXe (wb.heap.size)
              rw [← hZB] at hfZ ⊢
              have iW := Bl.call HBb.out hbZ
              obtain ⟨HZf, HE⟩ := l2h hfZ (HD.out.same iW)
              have HXE := kpB iW HXD
              have HFE := kpB iW HFD
              clear hu hfZ hZB hbZ iW HD HXD HFD
              go_wp2_with fail
              go_loopw [25, 177] (fun b j wx => ∃ (i : Nat) (bt : Bool), j = .int .i64 i ∧ b = .bool bt ∧ i ≤ k ∧ Hid ((T.take i).any id = bt) ∧ Hid (wx = wZ)) (fun _ j _ => k - (intOf j).toNat)
              case atStart => exact ⟨0, false, rfl, rfl, by omega, lh rfl, lh rfl⟩
              case round =>
                      rename World => wx
                      obtain ⟨i, bt, rfl, rfl, hi, hbt, hwx⟩ := hrel
                      obtain rfl := hwx.out
                      clear hwx
                      by_cases hil : i < k
                      ·obtain ⟨ti, hti⟩ : ∃ x, T[i]? = some x := ⟨_, List.getElem?_eq_getElem (by rw [HTK.out]; exact hil)⟩
                       have hstep := gm (f := id) hti
                       rw [hbt.out] at hstep
                       have i2 : (0 : Int) ≤ (i : Int) := by omega
                       have i3 : (i : Int) < (A.length : Int) := by omega
                       have ct : wx.cell? ⟨q, i, none⟩ = some (.bool ti) := (AO HE.out.told).trans (iA (by rw [List.getElem?_append_left (by rw [HTK.out]; exact hil)]; exact hti))
                       have HST := lh hstep
                       clear hstep hti
                       cases bt
                       ·go_wp2
                        go_roundw
                        case rel => exact ⟨i + 1, ti, by go_num, rfl, by omega, lh (by rw [HST.out]; simp), lh (by first | rfl | trivial)⟩
                        case measure => simp [intOf]; omega
                       ·go_wp2
                        go_roundw
                        case rel => exact ⟨i + 1, true, by go_num, rfl, by omega, lh (by rw [HST.out]; simp), lh (by first | rfl | trivial)⟩
                        case measure => simp [intOf]; omega
                      ·obtain rfl : k = i := by omega
                       have hbe : bt = true := by
                        rw [← hbt.out, List.take_of_length_le (by rw [HTK.out]; exact Nat.le_refl _)]
                        exact iM HZT.out
                       subst hbe
                       have HGc := lh (show ∀ (j : Nat) (u : Value), M.toList[j]? = some u → wx.cell? ⟨ZB, 3 + j, none⟩ = some u from fun j u hu => by rw [HM.out, ← HSE.out] at hu; rw [AO HZf.out]; exact HZP.out.cp j u hu)
                       have HFc := lh (show ∀ (j : Nat) (u : Value), M.toList[j]? = some u → wx.cell? ⟨FB, 3 + j, none⟩ = some u from fun j u hu => by rw [HM.out] at hu; rw [AO HFE.out]; exact HHP.out.cp j u hu)
                       have hqs := HQS.out
                       have hGS := EqHash.D8
                       clear hbt hi
                       obtain ⟨wA, hwA⟩ := nXe (wx.alloc (.cells #[.int .i64 sv, .string text, .string sig] 35))
                       have hbA : Below wx.heap.size wx wA := by rw [hwA]; exact Bl.new (Below.refl _ _) _
                       have hXA' : wA.heap[wx.heap.size]? = some (.cells #[.int .i64 sv, .string text, .string sig] 35 (0, 0)) := by rw [hwA]; exact AL _ _
                       have HSr := lh (Sl.src (D5 hXA' rfl) underlying23 (fun u hu => by simp at hu; rcases hu with rfl | rfl | rfl <;> rfl))
                       obtain ⟨HFA, HWA⟩ := l2h (HE.out.same hbA) hwA
                       have hzA := hbA.size
                       have hqA := AJ HFA.out.told
                       clear hwA hbA hXA'
                       obtain ⟨e1, f1⟩ := AA HXE.out
                       go_wp2_with (first | (at_builtin; rw [← HWA.out]; go_must (refine Al _ rfl _ _ _ _ rfl jO (q + 1) (.slice sa H.length sc) H.length (H.flatMap EH) rfl HFA.out.own (.slice (some ⟨wx.heap.size, 0, none⟩) 1 1) 1 (EH (sv, text, sig)) rfl HSr.out (H.length + 1) rfl _ rfl (by unfold maxLen; omega) (by omega) (by omega) ?go)) | (guard_target =~ wpList _ _ _ (Oper.mk _ (Op.load 44 _) _ _ _ _ :: _) _ _; refine Aq (by kernel_rfl) 44 _ rfl ZB 3 rfl M HGc.out underlying44 rfl HMS.out ?_) | (guard_target =~ wpList _ _ _ (Oper.mk _ (Op.load 44 _) _ _ _ _ :: _) _ _; refine Aq (by kernel_rfl) 44 _ rfl FB 3 rfl M HFc.out underlying44 rfl HMS.out ?_) | fail)
                       case go =>
                       intro a6 c6 w6 hO6 hg6 hat6
                       have H6 := lh (HFA.out.app hO6 hg6)
                       clear hO6 hg6 hat6 e1 f1
                       go_wp2
                       go_roundw
                       case rel =>
                        refine ⟨k + 1, O.l, H ++ [(sv, text, sig)], T ++ [false], _, by omega, rfl, by go_num, H6.out, ?_, by rw [List.length_append, HTK.out]; rfl, by omega, by rw [List.length_append]; show H.length + 1 ≤ k + 1; omega, fun y hy => ?_⟩
                        ·have hp := HFI.out.plain
                         rw [← HIS.out] at hp
                         exact hp
                        ·rcases List.mem_append.1 hy with hy | hy
                         ·exact HHA.out y hy
                         ·simp only [List.mem_singleton] at hy
                          rw [hy]
                          exact HXA.out
                       case measure => simp [intOf]; omega
            ·obtain rfl : tw = true := by rw [← HTW.out]; exact HFI.out.two HIS.out.symm
             obtain ⟨wA, hwA⟩ := nXe (wq.alloc (.cells #[.int .i64 sv, .string text, .string sig] 35))
             have hbA : Below wq.heap.size wq wA := by rw [hwA]; exact Bl.new (Below.refl _ _) _
             have hXA' : wA.heap[wq.heap.size]? = some (.cells #[.int .i64 sv, .string text, .string sig] 35 (0, 0)) := by rw [hwA]; exact AL _ _
             have HSr := lh (Sl.src (D5 hXA' rfl) underlying23 (fun u hu => by simp at hu; rcases hu with rfl | rfl | rfl <;> rfl))
             obtain ⟨HFA, HWA⟩ := l2h (HD.out.same hbA) hwA
             have hzA := hbA.size
             have hqA := AJ HFA.out.told
             clear hwA hbA hXA'
             obtain ⟨e1, f1⟩ := AA HXD.out
             go_wp2_with (first | (at_builtin; rw [← HWA.out]; go_must (refine Al _ rfl _ _ _ _ rfl jO (q + 1) (.slice sa H.length sc) H.length (H.flatMap EH) rfl HFA.out.own (.slice (some ⟨wq.heap.size, 0, none⟩) 1 1) 1 (EH (sv, text, sig)) rfl HSr.out (H.length + 1) rfl _ rfl (by unfold maxLen; omega) (by omega) (by omega) ?go)) | fail)
             case go =>
             intro a6 c6 w6 hO6 hg6 hat6
             have H6 := lh (HFA.out.app hO6 hg6)
             clear hO6 hg6 hat6 e1 f1
             go_wp2
             go_roundw
             case rel =>
                   refine ⟨k + 1, O.l, H ++ [(sv, text, sig)], T ++ [true], _, by omega, rfl, by go_num, H6.out, ?_, by rw [List.length_append, HTK.out]; rfl, by omega, by rw [List.length_append]; show H.length + 1 ≤ k + 1; omega, fun y hy => ?_⟩
                   ·have hp := HFI.out.plain
                    rw [← HIS.out] at hp
                    exact hp
                   ·rcases List.mem_append.1 hy with hy | hy
                    ·exact HHA.out y hy
                    ·simp only [List.mem_singleton] at hy
                     rw [hy]
                     exact HXA.out
             case measure => simp [intOf]; omega
        ·obtain rfl : k = A.length := by omega
         have HBE := lh h2.bel
         clear h2
         go_wp2
         go_ret
         exact ⟨rfl, HBE.out⟩
end Go.Proofs.YtceiajepcokacaaGreatDoor.SnY
