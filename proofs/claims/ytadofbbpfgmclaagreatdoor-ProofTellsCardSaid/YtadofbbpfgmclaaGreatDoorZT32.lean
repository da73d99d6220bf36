/-
  WHAT IS PROVED: contracts of functions, and plain laws. Condition: what each theorem names.
-/
import Derived.Test.YtadofbbpfgmclaaGreatDoorS0
import Derived.Test.YtadofbbpfgmclaaGreatDoorZT30
import Derived.Test.YtadofbbpfgmclaaGreatDoorZT31
set_option linter.unusedVariables false
set_option linter.unusedSimpArgs false
set_option maxRecDepth 100000
set_option maxHeartbeats 4000000
namespace Go.Proofs.YtadofbbpfgmclaaGreatDoor
open Go.Proofs.Tryz
namespace Jv
open Go Go.RowKit Go.Shelf OctetS IdentS EntS OctP OctG IdentP EntP EventC EventP ShaA Steps KeyA TreeA OctQ EntX EntB
theorem Gc (w : World) (s : ByteArray) (hs : s.size ≤ 140737488351232) : Calls Tryz.prog 79 #[.string s] w fun e w' => e = .returned (.agg (byV (ShaS.sum (bl s))).toArray) ∧ Below w.heap.size w w' := by
 have h := R2M.Eo w s hs
 have he : ShaB.pB 32 (ShaS.sum (bl s)) = (byV (ShaS.sum (bl s))).toArray := by
  unfold ShaB.pB
  rw [ShaS.Bf]
  simp
 rw [he] at h
 exact h
theorem Eo (w : World) (p : Array Value) (r : ByteArray) (ep ix : Int) (pv : List UInt8) (e s : ByteArray) (hp : EntP p r ep ix pv e s) (hv : Ag w) (hk : Al w) (hr : r.size ≤ 140737488351232) (he : e.size ≤ maxLen) (hs : s.size ≤ maxLen) :
 Calls Tryz.prog 53 #[.agg p] w (KeyA.RB (.tuple #[.agg (sumE (Bc r ep ix pv e s)).A, .int .i64 (Ci (EntS.A9 (Bc r ep ix pv e s)))]) w) := by
 have hT := fun w => LZ.Cs w p r ep ix pv e s hp hr he hs
 unfold EntS.textOf at hT
 unfold sumE
 have hps := hp.size
 have hpi : (Tryz.prog.info? 51).map (·.size) = some 37 := by kernel_rfl
 rw [← hps] at hpi
 have HI := lh hpi
 obtain ⟨Z, hZ⟩ := nXe (CV.A)
 have HLIT : Hid (zq0 Z) := lh (by rw [hZ]; unfold zq0; kernel_rfl)
 have HZN : Hid (Z.size = 32) := lh (by rw [hZ]; kernel_rfl)
 have HZS : Hid ((Tryz.prog.info? 27).map (·.size) = some Z.size) := lh (by rw [hZ]; exact H32.info _)
 have HZO : Hid (Z.all (·.oneCell') = true) := lh (by rw [hZ]; exact H32.one _)
 obtain ⟨w0, hw0⟩ := nXe ((w.alloc (.cells p 51)).alloc (.cells Z 27))
 have hb0 : Below w.heap.size w w0 := by rw [hw0]; exact ((Below.refl _ w).alloc nR _).alloc (by simp) _
 have HX0 := lh (show w0.heap[w.heap.size]? = some (.cells p 51 (0, 0)) by rw [hw0]; exact Ao (AL _ _) _)
 have HZ0 := lh (show w0.heap[w.heap.size + 1]? = some (.cells Z 27 (0, 0)) by rw [hw0]; exact Ah _ (by simp))
 obtain ⟨HBL0, HW0, HV0, HK0⟩ := l4h hb0 hw0 (hv.below hb0) (hk.below hb0)
 cases hchk : EntS.A9 (Bc r ep ix pv e s)
 ·skip
  rw [hchk] at hT
  rw [if_neg (by simp), ← hZ]
  have HT := lh hT
  clear hT hchk hr he hs hp hb0 hv hk hw0 hZ hpi hps
  go_enter func53, ntmps53
  go_wp2_with (first | (rw [HLIT.out, ← HW0.out]; refine wpList_load_row rfl _ _ rfl w.heap.size rfl _ p (0, 0) _ HX0.out underlying51 rfl HI.out ?_) | fail)
  refine (HT.out w0).mono ?_
  rintro e' w1 ⟨rfl, hb⟩
  have HBL1 := tbB HBL0 hb
  have HZ1 := kpB hb HZ0
  clear hb
  unfold Ci
  go_wp2_with (first | (refine AC rfl _ _ _ rfl (w.heap.size + 1) Z rfl (by rw [← HLIT.out]; rfl) _ _ HZ1.out HZS.out rfl HZO.out ?_) | fail)
  intro wf hwf
  go_wp2
  refine bodyPost_ret (v := .tuple #[.agg Z, .int .i64 2]) (WireT.AV rfl _ _ (w.heap.size + 1) 27 Z (0, 0) _ rfl (by rw [hwf.out]; exact AR HZ1.out) underlying27 rfl HZS.out rfl) rfl ⟨rfl, by rw [hwf.out]; exact AQ HBL1.out (by omega) _⟩
 ·skip
  rw [hchk] at hT
  rw [if_pos rfl] at hT ⊢
  have hR := EntS.BV.1 hchk
  have hlen := ent_len hR hp.len
  obtain ⟨t, ht⟩ := nXe (EntS.text (Bc r ep ix pv e s))
  rw [← ht] at hT hlen ⊢
  obtain ⟨R, hRe⟩ := nXe ((sumH t).A)
  have HRS : Hid ((Tryz.prog.info? 27).map (·.size) = some R.size) := lh (by rw [hRe]; exact H32.info _)
  have HRN : Hid (Z.size = R.size) := lh (by rw [hRe, H32.size]; exact HZN.out)
  have HRO : Hid (R.all (·.oneCell') = true) := lh (by rw [hRe]; exact H32.one _)
  obtain ⟨Tb, hTb⟩ := nXe (bsOf t)
  rw [← hTb] at hT
  have hS := fun w => Gc w Tb (by rw [hTb, AY]; omega)
  have hRR : (byV (ShaS.sum (bl Tb))).toArray = R := by rw [hTb, AU, hRe, sumH_A]
  rw [hRR] at hS
  rw [← hRe]
  obtain ⟨HT, HS⟩ := l2h hT hS
  clear hT hS hRR hRe hTb ht hlen hR hchk hr he hs hp hb0 hv hk hw0 hZ hpi hps
  go_enter func53, ntmps53
  go_wp2_with (first | (rw [HLIT.out, ← HW0.out]; refine wpList_load_row rfl _ _ rfl w.heap.size rfl _ p (0, 0) _ HX0.out underlying51 rfl HI.out ?_) | fail)
  refine (HT.out w0).mono ?_
  rintro e' w1 ⟨rfl, hb⟩
  have HBL1 := tbB HBL0 hb
  have HZ1 := kpB hb HZ0
  have HK1 := lh (HK0.out.below hb)
  clear hb
  unfold Ci
  go_wp2_with fail
  refine (HS.out w1).mono ?_
  rintro e' w2 ⟨rfl, hb⟩
  have HBL2 := tbB HBL1 hb
  have HZ2 := kpB hb HZ1
  clear hb
  go_wp2_with (first | (refine AC rfl _ _ _ rfl (w.heap.size + 1) R rfl rfl _ _ HZ2.out HRS.out HRN.out HRO.out ?_) | fail)
  intro wf hwf
  go_wp2
  refine bodyPost_ret (v := .tuple #[.agg R, .int .i64 0]) (WireT.AV rfl _ _ (w.heap.size + 1) 27 R (0, 0) _ rfl (by rw [hwf.out]; exact AR HZ2.out) underlying27 rfl HRS.out rfl) rfl ⟨rfl, by rw [hwf.out]; exact AQ HBL2.out (by omega) _⟩
end Jv
namespace JM
open Go Go.RowKit OctetS OctP OctG Iq
open OctQ (Gv)
def JF (pre : List (List UInt8)) (q : Nat) (g : List (List UInt8) × Nat × Int) : List (List UInt8) × Nat × Int := if g.2.2 = 0 then (pre ++ g.1, q + g.2.1, 0) else g
theorem KQ (n : Nat) (s : List UInt8) (pre : List (List UInt8)) (q : Nat) (h : (Ab (s.drop q)).2.2 = 0) :
 JF pre q (Bq (n + 1) (s.drop q)) = JF (pre ++ [(Ab (s.drop q)).1]) (q + (Ab (s.drop q)).2.1) (Bq n (s.drop (q + (Ab (s.drop q)).2.1))) := by
 rw [Bq, if_neg (by simp [h]), List.drop_drop]
 unfold JF
 by_cases h2 : (Bq n (s.drop (q + (Ab (s.drop q)).2.1))).2.2 = 0
 ·have h4 : ¬ (Bq n (s.drop (q + (Ab (s.drop q)).2.1))).2.2 ≠ 0 := by simp [h2]
  rw [if_neg h4]
  simp only [h2, if_true, List.append_assoc, List.singleton_append]
  rw [Nat.add_assoc]
 ·rw [if_pos h2]
  simp only [h2, if_false]
  rcases Iw n (s.drop (q + (Ab (s.drop q)).2.1)) with h3 | ⟨y, h3, _⟩
  ·exact absurd h3 h2
  ·rw [h3]
theorem KP (n : Nat) (s : List UInt8) (pre : List (List UInt8)) (q : Nat) (h : (Ab (s.drop q)).2.2 ≠ 0) :
 JF pre q (Bq (n + 1) (s.drop q)) = ([], 0, (Ab (s.drop q)).2.2) := by
 rw [Bq, if_pos h]
 unfold JF
 exact if_neg h
theorem Bb (w : World) (s : ByteArray) (hs : s.size ≤ maxLen) {n u : Nat} {y : Int} (hg : Aa (bl s) = (n, u, y)) :
 Calls Tryz.prog 37 #[.string s] w fun e w' => e = .returned (.tuple #[.int .u64 n, .int .i64 u, .int .i64 y]) ∧ Below w.heap.size w w' := by
 have := JN.FN w s hs
 rw [hg] at this
 exact this
theorem Cr (w : World) (s : ByteArray) (hs : s.size ≤ maxLen) (h : Aa (bl s) = (0, 0, 5) ∨ Aa (bl s) = (0, 0, 6) ∨ ∃ n u, Aa (bl s) = (n, u, 0) ∧ 256 < n) :
 Calls Tryz.prog 59 #[.string s] w (ET w (Az (bl s))) := by
 rcases h with hg | hg | ⟨n, u, hg, hn⟩
 ·have hfin : Az (bl s) = ([], 0, 5) := by
   unfold Az
   rw [hg]
   simp
  rw [hfin]
  have Hg := lh hg
  clear hg hfin
  go_enter func59, ntmps59
  go_wp2_with fail
  refine (Bb _ s hs Hg.out).mono ?_
  rintro e w' ⟨rfl, hb⟩
  have HB := lh hb
  clear hb
  go_wp2
  go_ret3
  exact ⟨_, rfl, Cf.nil _ _, HB.out⟩
 ·have hfin : Az (bl s) = ([], 0, 6) := by
   unfold Az
   rw [hg]
   simp
  rw [hfin]
  have Hg := lh hg
  clear hg hfin
  go_enter func59, ntmps59
  go_wp2_with fail
  refine (Bb _ s hs Hg.out).mono ?_
  rintro e w' ⟨rfl, hb⟩
  have HB := lh hb
  clear hb
  go_wp2
  go_ret3
  exact ⟨_, rfl, Cf.nil _ _, HB.out⟩
 ·have hfin : Az (bl s) = ([], 0, 7) := by
   unfold Az
   rw [hg]
   simp [hn]
  rw [hfin]
  have Hg := lh hg
  clear hg hfin
  go_enter func59, ntmps59
  go_wp2_with fail
  refine (Bb _ s hs Hg.out).mono ?_
  rintro e w' ⟨rfl, hb⟩
  have HB := lh hb
  clear hb
  go_wp2
  go_ret3
  exact ⟨_, rfl, Cf.nil _ _, HB.out⟩
theorem Ff (w : World) (s : ByteArray) (hs : s.size ≤ maxLen) (n u : Nat) (hg : Aa (bl s) = (n, u, 0)) (hn : n ≤ 256) :
 Calls Tryz.prog 59 #[.string s] w (ET w (Az (bl s))) := by
 have hG := JN.FN w s hs
 rw [hg] at hG
 unfold JN.Kh at hG
 simp only at hG
 obtain ⟨hu1, hu7, hul, _, hmax⟩ := Cx hg
 rw [AP] at hul
 unfold maxLen at hs
 have hfin : Az (bl s) = JF [] u (Bq n ((bl s).drop u)) := by
  unfold Az JF
  rw [hg]
  simp only
  rw [if_neg (by simp), if_neg (by omega)]
  by_cases h : (Bq n ((bl s).drop u)).2.2 = 0
  ·simp [h]
  ·rw [if_pos h, if_neg h]
   rcases Iw n ((bl s).drop u) with h3 | ⟨y, h3, _⟩
   ·exact absurd h3 h
   ·rw [h3]
 rw [hfin]
 obtain ⟨HG, Hfin⟩ := l2h hG hfin
 clear hG hfin hg
 go_enter func59, ntmps59
 go_wp2_with fail
 refine HG.out.mono ?_
 rintro e w1 ⟨rfl, hb⟩
 have HB := lh hb
 clear hb
 go_wp2
 go_loopw [6, 8, 9] (fun x y i wr => ∃ (pre : List (List UInt8)) (q k : Nat) (vo : Value), x = .int .i64 q ∧ y = vo ∧ i = .int .u64 k ∧ k ≤ n ∧ q ≤ s.size ∧ pre.length = k ∧ Cf w wr vo pre ∧ Below w.heap.size w wr ∧ JF [] u (Bq n ((bl s).drop u)) = JF pre q (Bq (n - k) ((bl s).drop q))) (fun _ _ i _ => n - (intOf i).toNat)
 case atStart => exact ⟨[], u, 0, _, rfl, rfl, rfl, by omega, by omega, rfl, Cf.nil _ _, HB.out, rfl⟩
 case round =>
  obtain ⟨pre, q, k, vo, rfl, rfl, rfl, hk, hq, rfl, hl, hb, heq⟩ := hrel
  obtain ⟨a0, c0, rfl, hn0, hc0⟩ := (Sl.ofOwn hl).form
  obtain ⟨HL, HB2, Heq⟩ := l3h hl hb heq
  clear hl hb heq
  by_cases hlt : pre.length < n
  ·have hx : bl (s.extract q s.size) = (bl s).drop q := by
        rw [Aj, List.take_of_length_le (by rw [List.length_drop, AP]; omega)]
   have hxs : (s.extract q s.size).size = s.size - q := by rw [← AP, hx, List.length_drop, AP]
   have hT := J4.G9 wr (s.extract q s.size) (by rw [hxs]; unfold maxLen; omega)
   rw [hx] at hT
   obtain ⟨t, m, y, hg⟩ : ∃ t m y, Ab ((bl s).drop q) = (t, m, y) := ⟨_, _, _, rfl⟩
   rw [hg] at hT
   unfold J4.textV at hT
   simp only at hT
   obtain ⟨j, hj⟩ : ∃ j, n - pre.length = j + 1 := ⟨n - pre.length - 1, by omega⟩
   by_cases hy : y = 0
   ·subst hy
    obtain ⟨u1, u2, _, u4, u5, u6⟩ := Gz hg
    rw [List.length_drop, AP] at u2
    have hstep := KQ j (bl s) pre q (by rw [hg])
    rw [hg] at hstep
    simp only at hstep
    rw [← hj] at hstep
    obtain ⟨Hstep, HT, Hj⟩ := l3h hstep hT hj
    clear hstep hT hg hx hj
    go_wp2_with fail
    refine HT.out.mono ?_
    rintro e w2 ⟨rfl, hb⟩
    have HL2 := lh (GR (S := fun _ => False) HL.out (Ext.of_below hb) (fun _ _ h => h))
    have HB3 := tbB HB2 hb
    clear hb
    obtain ⟨T, hT⟩ := nXe (bsOf t)
    rw [← hT]
    have HTT := lh hT
    clear hT
    go_wp2_with (at_builtin; go_must (refine Jj _ rfl _ _ _ _ rfl Gv w.heap.size (.slice a0 pre.length c0) pre.length (strV (pre.map bsOf)) rfl ?own (.slice (some ⟨w2.heap.size, 0, none⟩) 1 1) 1 [.string T] rfl ?src (pre.length + 1) rfl (strV ((pre ++ [t]).map bsOf)) ?hz ?h63 ?hby ?hba ?go))
    case own => exact GR (S := fun _ => False) HL2.out ((Ext.refl _ _).alloc _) (fun _ _ h => h)
    case src => exact Src.ofSlice _ underlying41 _ _ _ _ rfl (by simpa using cell_one_new w2 (.string T) 9) (by simp [Value.oneCell'])
    case hz => rw [HTT.out]; simp [strV]
    case h63 => unfold maxLen; omega
    case hby => omega
    case hba => have := HB3.out.size; simp; omega
    case go =>
     intro a' c' w3 hown hgrow hat
     have HO := lh hown
     have HB4 := lh ((HB3.out.alloc HB3.out.size _).grown hgrow (by have := HB3.out.size; simp; omega) (fun k hk => by
      rcases HL2.out.2 with ⟨h, _⟩ | ⟨g, cap, cur, h, hb, _⟩ <;> (rw [h] at hk; simp [Value.ownBlock] at hk <;> omega)))
     clear hown hgrow hat
     go_wp2
     go_roundw
     case rel =>
      refine ⟨pre ++ [t], q + m, pre.length + 1, _, by go_num, rfl, by go_num, by omega, by omega, by simp, ?_, HB4.out, ?_⟩
      ·unfold Cf
       rw [List.length_append, List.map_append]
       exact HO.out
      ·rw [Heq.out, Hstep.out, show n - (pre.length + 1) = j by have := Hj.out; omega]
     case measure => simp [intOf]; omega
   ·have hstop := KP j (bl s) pre q (by rw [hg]; exact hy)
    rw [hg] at hstop
    simp only at hstop
    rw [← hj] at hstop
    have Lt := lh hstop
    have hyb : (y != 0) = true := by simp [hy]
    obtain ⟨HT, Hj⟩ := l2h hT hj
    clear hstop hT hg hx hj
    go_wp2_with fail
    refine HT.out.mono ?_
    rintro e w2 ⟨rfl, hb⟩
    have HB3 := tbB HB2 hb
    clear hb
    go_wp2
    go_ret3
    rw [Heq.out, Lt.out]
    exact ⟨_, rfl, Cf.nil _ _, HB3.out⟩
  ·obtain rfl : n = pre.length := by omega
   have hc : JF pre q (Bq (pre.length - pre.length) ((bl s).drop q)) = (pre, q, 0) := by
        rw [Nat.sub_self]
        simp [JF, Bq]
   have Hc := lh hc
   clear hc
   go_wp2
   go_ret3
   rw [Heq.out, Hc.out]
   exact ⟨_, rfl, HL.out, HB2.out⟩
theorem He (w : World) (s : ByteArray) (hs : s.size ≤ maxLen) : Calls Tryz.prog 59 #[.string s] w (ET w (Az (bl s))) := by
 rcases EL (bl s) with h0 | h | h
 ·obtain ⟨n, u, y, hg⟩ : ∃ n u y, Aa (bl s) = (n, u, y) := ⟨_, _, _, rfl⟩
  rw [hg] at h0
  simp only at h0
  subst h0
  by_cases hn : n ≤ 256
  ·exact Ff w s hs n u hg hn
  ·exact Cr w s hs (.inr (.inr ⟨n, u, hg, by omega⟩))
 ·exact Cr w s hs (.inl h)
 ·exact Cr w s hs (.inr (.inl h))
end JM
namespace Im
open Go Go.RowKit OctetS OctP OctG
theorem CJ (w : World) (s : ByteArray) (hs : s.size ≤ maxLen) : Calls Tryz.prog 36 #[.string s] w (OctA.BN w (all (bl s))) := by
 have hg := JM.He w s hs
 unfold maxLen at hs
 obtain ⟨l, u, y, hy⟩ : ∃ l u y, Az (bl s) = (l, u, y) := ⟨_, _, _, rfl⟩
 unfold ET at hg
 rw [hy] at hg
 by_cases h0 : y = 0
 ·subst h0
  have hu := (G5 hy).2.1
  rw [AP] at hu
  by_cases hlt : u < s.size
  ·have hub : ((u : Int) != (s.size : Int)) = true := by simp; omega
   have hfin : all (bl s) = ([], 6) := by
        unfold all
        rw [hy]
        simp [AP, hlt]
   rw [hfin]
   have Hg := lh hg
   clear hg hfin hy
   go_enter func36, ntmps36
   go_wp2_with fail
   refine Hg.out.mono ?_
   rintro e w' ⟨v, rfl, hl, hb⟩
   obtain ⟨HL, HB⟩ := l2h hl hb
   clear hl hb
   go_wp2
   go_ret2
   exact ⟨_, rfl, Cf.nil _ _, HB.out⟩
  ·have hub : ((u : Int) != (s.size : Int)) = false := by simp; omega
   have hfin : all (bl s) = (l, 0) := by
        unfold all
        rw [hy]
        simp [AP, hlt]
   rw [hfin]
   have Hg := lh hg
   clear hg hfin hy
   go_enter func36, ntmps36
   go_wp2_with fail
   refine Hg.out.mono ?_
   rintro e w' ⟨v, rfl, hl, hb⟩
   obtain ⟨HL, HB⟩ := l2h hl hb
   clear hl hb
   go_wp2
   go_ret2
   exact ⟨_, rfl, HL.out, HB.out⟩
 ·have hfin : all (bl s) = ([], y) := by
   unfold all
   rw [hy]
   simp [h0]
  rw [hfin]
  have hyb : (y != 0) = true := by simp [h0]
  have Hg := lh hg
  clear hg hfin hy
  go_enter func36, ntmps36
  go_wp2_with fail
  refine Hg.out.mono ?_
  rintro e w' ⟨v, rfl, hl, hb⟩
  obtain ⟨HL, HB⟩ := l2h hl hb
  clear hl hb
  go_wp2
  go_ret2
  exact ⟨_, rfl, Cf.nil _ _, HB.out⟩
end Im
end Go.Proofs.YtadofbbpfgmclaaGreatDoor
