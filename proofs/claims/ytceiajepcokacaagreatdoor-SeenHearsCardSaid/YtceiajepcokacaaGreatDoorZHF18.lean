/-
  WHAT IS PROVED: contracts and plain laws. Condition: each names its own.
-/
import Derived.Test.YtceiajepcokacaaGreatDoorS0
import Derived.Test.YtceiajepcokacaaGreatDoorZHF12
import Derived.Test.YtceiajepcokacaaGreatDoorZHF17
import Derived.Laws.Cover3
set_option linter.unusedVariables false
set_option linter.unusedSimpArgs false
set_option maxRecDepth 100000
set_option maxHeartbeats 4000000
namespace Go.Proofs.YtceiajepcokacaaGreatDoor
open Go.Proofs.Tryz
namespace BkF
open Go Go.RowKit Go.Shelf Steps RowsX Lift KeyS KeyA TreeA ShaA BookA BookB BookD BkR BkC
theorem Ny (sv at' : Int) : ∀ (L : List Gr') (k : Nat), (EE sv at' L k = -1 ∧ L.find? (Bo · sv at') = none) ∨ ∃ (j : Nat) (g : Gr'), EE sv at' L k = ((k + j : Nat) : Int) ∧ L[j]? = some g ∧ L.find? (Bo · sv at') = some g
 | [], k => .inl ⟨rfl, rfl⟩
 | g :: r, k => by
   cases h : Bo g sv at'
   ·rw [EE, h, if_neg (by simp), List.find?_cons_of_neg (by simp [h])]
    rcases Ny sv at' r (k + 1) with h1 | ⟨j, x, h1, h2, h3⟩
    ·exact .inl h1
    ·exact .inr ⟨j + 1, x, by rw [h1]; congr 1; omega, h2, h3⟩
   ·rw [EE, h, if_pos rfl, List.find?_cons_of_pos (by simp [h])]
    exact .inr ⟨0, g, by simp, rfl, rfl⟩
def IW (L : List Gr') (sv at' : Int) : Int := if C9 L = true then (match L.find? (Bo · sv at') with | some _ => 0 | none => 3) else 2
def findG (L : List Gr') (sv at' : Int) : Gr' := if C9 L = true then ((L.find? (Bo · sv at')).getD FY) else FY
def A7 (L : List Gr') (sv at' : Int) (text sig : List UInt8) : Int := if C9 L = true then (match L.find? (Bo · sv at') with | some g => verify g.rt.l g.hi.toNat text sig | none => 3) else 2
theorem OW : ∀ (L : List Gr') (p : Option Gr'), okF p L = true → ∀ g ∈ L, g.Right
 | [], _, _, _, h => by cases h
 | x :: r, p, h, g, hg => by
   have h2 : EL x = true ∧ okF (some x) r = true := by
     cases p with
     | none => simp only [okF, Bool.and_eq_true] at h; exact h
     | some q => simp only [okF, Bool.and_eq_true] at h; exact ⟨h.1, h.2.2⟩
   rcases List.mem_cons.1 hg with rfl | hm
   ·exact QU.1 h2.1
   ·exact OW r _ h2.2 g hm
theorem Gm {L : List Gr'} (h : C9 L = true) {g : Gr'} (hg : g ∈ L) : g.Right := by
 unfold C9 at h
 simp only [Bool.and_eq_true] at h
 exact OW L none h.2 g hg
theorem IY {L : List Gr'} (h : C9 L = true) : L.length ≤ 256 := by
 unfold C9 at h
 simp only [Bool.and_eq_true, decide_eq_true_eq] at h
 exact h.1
theorem Vp (w : World) (v : Value) (L : List Gr') (sv at' : Int) (hv : Sl w v 36 L.length (L.flatMap Gr'.cs)) : Calls Tryz.prog 46 #[v, .int .i64 sv, .int .i64 at'] w (RB (.tuple #[.agg (findG L sv at').A, .int .i64 (IW L sv at')]) w) := by
 obtain ⟨a, cap, rfl, hcap, hm⟩ := hv.form
 have Hrow := lh (fun (k : Nat) (g : Gr') (hx : L[k]? = some g) => BU grF (by omega) hv hx)
 obtain ⟨Z, hZ⟩ := nXe (FY.A)
 have HLIT : Hid (zq3 Z) := lh (by rw [hZ]; unfold zq3; kernel_rfl)
 have HZN : Hid (Z.size = 36) := lh (by rw [hZ]; exact DL _)
 have HZS : Hid ((Tryz.prog.info? 65).map (·.size) = some Z.size) := lh (by rw [hZ]; exact DN _)
 have HZO : Hid (Z.all (·.oneCell') = true) := lh (by rw [hZ]; kernel_rfl)
 obtain ⟨w0, hw0⟩ := nXe (((w.alloc (.cells #[.int .i64 sv] 3)).alloc (.cells #[.int .i64 at'] 2)).alloc (.cells Z 65))
 have hb0 : Below w.heap.size w w0 := by rw [hw0]; exact (bAx.alloc (by simp) _).alloc (by simp; omega) _
 have h1 : w0.heap[w.heap.size]? = some (.cells #[.int .i64 sv] 3 (0, 0)) := by rw [hw0]; exact Ak (Ak (AL _ _) _) _
 have h2 : w0.heap[w.heap.size + 1]? = some (.cells #[.int .i64 at'] 2 (0, 0)) := by rw [hw0]; exact Ak (Ad _ (by simp)) _
 have h3 : w0.heap[w.heap.size + 2]? = some (.cells Z 65 (0, 0)) := by rw [hw0]; exact Ad _ (by simp)
 have hv0 := Sl.below hv hb0
 obtain ⟨HC, HB0, HX0, HW0⟩ := l4h (Dw w0 _ L hv0) hb0 h3 hw0
 unfold findG IW
 cases hbk : C9 L
 ·skip
  rw [hbk] at HC
  rw [if_neg (by simp)] at HC
  rw [if_neg (by simp), if_neg (by simp), ← hZ]
  clear hv0 h1 h2 h3 hw0 hb0 hv hcap hm hbk hZ
  go_enter func46, ntmps46
  go_wp2_with fail
  rw [HLIT.out, ← HW0.out]
  refine HC.out.mono ?_
  rintro e w1 ⟨rfl, hb⟩
  have HB1 := tbB HB0 hb
  have HX1 := kpB hb HX0
  clear hb
  go_wp2_with (first | (refine AC rfl _ _ _ rfl (w.heap.size + 2) Z rfl (by rw [← HLIT.out]; rfl) _ _ HX1.out HZS.out rfl HZO.out ?_) | fail)
  intro wf hwf
  go_wp2
  refine bodyPost_ret (v := .tuple #[.agg Z, .int .i64 2]) (WireT.AU rfl _ _ (w.heap.size + 2) 65 Z (0, 0) _ rfl (by rw [hwf.out]; exact AR HX1.out) underlying65 rfl HZS.out rfl) rfl ⟨rfl, by rw [hwf.out]; exact AQ HB1.out (by omega) _⟩
 ·skip
  rw [hbk] at HC
  rw [if_pos rfl] at HC
  rw [if_pos rfl, if_pos rfl]
  have hlen := IY hbk
  have HI := lh (fun w' (hb : Below w0.heap.size w0 w') => IR w' _ L w.heap.size (w.heap.size + 1) sv at' (Sl.below hv0 hb) (by omega) ((hb.block _ (AJ h1)).trans h1) ((hb.block _ (AJ h2)).trans h2))
  have hff := Ny sv at' L 0
  obtain ⟨n, hn⟩ := nXe (L.length)
  have Hn := lh hn
  rw [← hn] at HC HI hlen hcap ⊢
  rcases hff with ⟨hf1, hf2⟩ | ⟨j, g, hf1, hf2, hf3⟩
  ·skip
   rw [hf1] at HI
   rw [hf2]
   show Calls _ _ _ _ (RB (.tuple #[.agg FY.A, .int .i64 3]) w)
   rw [← hZ]
   clear hf1 hf2 hv0 h1 h2 h3 hw0 hb0 hv hm hbk hZ hn
   go_enter func46, ntmps46
   go_wp2_with fail
   rw [HLIT.out, ← HW0.out]
   refine HC.out.mono ?_
   rintro e w1 ⟨rfl, hb⟩
   have HB1 := tbB HB0 hb
   have HX1 := kpB hb HX0
   have HI1 := lh (HI.out w1 hb)
   clear hb
   go_wp2_with fail
   refine HI1.out.mono ?_
   rintro e w2 ⟨rfl, hb⟩
   have HB2 := tbB HB1 hb
   have HX2 := kpB hb HX1
   clear hb
   go_wp2_with (first | (refine AC rfl _ _ _ rfl (w.heap.size + 2) Z rfl (by rw [← HLIT.out]; rfl) _ _ HX2.out HZS.out rfl HZO.out ?_) | fail)
   intro wf hwf
   go_wp2
   refine bodyPost_ret (v := .tuple #[.agg Z, .int .i64 3]) (WireT.AU rfl _ _ (w.heap.size + 2) 65 Z (0, 0) _ rfl (by rw [hwf.out]; exact AR HX2.out) underlying65 rfl HZS.out rfl) rfl ⟨rfl, by rw [hwf.out]; exact AQ HB2.out (by omega) _⟩
  ·skip
   rw [Nat.zero_add] at hf1
   rw [hf1] at HI
   rw [hf3]
   show Calls _ _ _ _ (RB (.tuple #[.agg g.A, .int .i64 0]) w)
   obtain ⟨b, bo, rfl, hblt, hcc⟩ := Hrow.out j g hf2
   have hjn : j < n := by rw [hn]; exact (List.getElem?_eq_some_iff.1 hf2).1
   obtain ⟨C, hC⟩ := nXe (g.A)
   rw [← hC]
   have HCS := lh (show (Tryz.prog.info? 65).map (·.size) = some C.size by rw [hC]; exact DN g)
   have HCN := lh (show Z.size = C.size by rw [hC, DL]; exact HZN.out)
   have HCO := lh (show C.all (·.oneCell') = true by
        rw [hC, Array.all_eq_true_iff_forall_mem]
        intro u hu
        exact grF.one g u (by simpa [Gr'.A] using hu))
   have Hcc := lh (show ∀ (j' : Nat) (u : Value), C.toList[j']? = some u → w.cell? ⟨b, bo + j * 36 + j', none⟩ = some u from fun j' u h => hcc j' u (by rw [hC] at h; exact h))
   have bL := lh hblt
   clear hf1 hf2 hf3 hv0 h1 h2 h3 hw0 hb0 hv hm hbk hZ hn hC hcc hblt
   go_enter func46, ntmps46
   go_wp2_with fail
   rw [HLIT.out, ← HW0.out]
   refine HC.out.mono ?_
   rintro e w1 ⟨rfl, hb⟩
   have HB1 := tbB HB0 hb
   have HX1 := kpB hb HX0
   have HI1 := lh (HI.out w1 hb)
   clear hb
   go_wp2_with fail
   refine HI1.out.mono ?_
   rintro e w2 ⟨rfl, hb⟩
   have HB2 := tbB HB1 hb
   have HX2 := kpB hb HX1
   clear hb
   have Hc2 := lh (show ∀ (j' : Nat) (u : Value), C.toList[j']? = some u → w2.cell? ⟨b, bo + j * 36 + j', none⟩ = some u from fun j' u h => (HB2.out.cell (p := ⟨b, bo + j * 36 + j', none⟩) bL.out).trans (Hcc.out j' u h))
   go_wp2_with (first | (refine Ah rfl _ _ rfl b (bo + j * 36) rfl C Hc2.out underlying65 rfl HCS.out ?_) | (refine AC rfl _ _ _ rfl (w.heap.size + 2) C rfl rfl _ _ HX2.out HCS.out HCN.out HCO.out ?_) | fail)
   intro wf hwf
   go_wp2
   refine bodyPost_ret (v := .tuple #[.agg C, .int .i64 0]) (WireT.AU rfl _ _ (w.heap.size + 2) 65 C (0, 0) _ rfl (by rw [hwf.out]; exact AR HX2.out) underlying65 rfl HCS.out rfl) rfl ⟨rfl, by rw [hwf.out]; exact AQ HB2.out (by omega) _⟩
theorem E9 (w : World) (v : Value) (L : List Gr') (sv at' : Int) (text sig : ByteArray) (hv : Sl w v 36 L.length (L.flatMap Gr'.cs)) (ht : text.size ≤ 140737488355328) (hs : sig.size ≤ maxLen) (hk : Au w) :
 Calls Tryz.prog 24 #[v, .int .i64 sv, .int .i64 at', .string text, .string sig] w (RB (.int .i64 (A7 L sv at' (bl text) (bl sig))) w) := by
 have hF := Vp w v L sv at' hv
 unfold findG IW at hF
 unfold A7
 cases hbk : C9 L
 ·rw [hbk] at hF
  rw [if_neg (by simp), if_neg (by simp)] at hF
  rw [if_neg (by simp)]
  obtain ⟨C, hC⟩ := nXe (FY.A)
  rw [← hC] at hF
  have HCS := lh (show (Tryz.prog.info? 65).map (·.size) = some C.size by rw [hC]; exact DN _)
  have HCN := lh (show 36 = C.size by rw [hC]; exact (DL _).symm)
  have HCO := lh (show C.all (·.oneCell') = true by rw [hC]; kernel_rfl)
  have HF := lh hF
  clear hF hC hv hbk
  go_enter func24, ntmps24
  go_wp2_with fail
  refine HF.out.mono ?_
  rintro e w1 ⟨rfl, hb⟩
  have HB1 := lh hb
  clear hb
  go_wp2_with (first | (refine AC rfl _ _ _ rfl w1.heap.size C rfl rfl _ _ (AL _ _) HCS.out (by rw [← HCN.out]; rfl) HCO.out ?_) | fail)
  intro u1 hu1
  have HB2 := lh (show Below w.heap.size w u1 by rw [hu1.out]; exact AQ (HB1.out.alloc HB1.out.size _) HB1.out.size _)
  clear hu1
  go_wp2
  go_ret
  exact ⟨rfl, HB2.out⟩
 ·rw [hbk] at hF
  rw [if_pos rfl, if_pos rfl] at hF
  rw [if_pos rfl]
  cases hfd : L.find? (Bo · sv at') with
  | none =>
    rw [hfd] at hF
    replace hF : Calls Tryz.prog 46 #[v, .int .i64 sv, .int .i64 at'] w (RB (.tuple #[.agg FY.A, .int .i64 3]) w) := hF
    show Calls _ _ _ _ (RB (.int .i64 3) w)
    obtain ⟨C, hC⟩ := nXe (FY.A)
    rw [← hC] at hF
    have HCS := lh (show (Tryz.prog.info? 65).map (·.size) = some C.size by rw [hC]; exact DN _)
    have HCN := lh (show 36 = C.size by rw [hC]; exact (DL _).symm)
    have HCO := lh (show C.all (·.oneCell') = true by rw [hC]; kernel_rfl)
    have HF := lh hF
    clear hF hC hv hbk hfd
    go_enter func24, ntmps24
    go_wp2_with fail
    refine HF.out.mono ?_
    rintro e w1 ⟨rfl, hb⟩
    have HB1 := lh hb
    clear hb
    go_wp2_with (first | (refine AC rfl _ _ _ rfl w1.heap.size C rfl rfl _ _ (AL _ _) HCS.out (by rw [← HCN.out]; rfl) HCO.out ?_) | fail)
    intro u1 hu1
    have HB2 := lh (show Below w.heap.size w u1 by rw [hu1.out]; exact AQ (HB1.out.alloc HB1.out.size _) HB1.out.size _)
    clear hu1
    go_wp2
    go_ret
    exact ⟨rfl, HB2.out⟩
  | some g =>
    rw [hfd] at hF
    replace hF : Calls Tryz.prog 46 #[v, .int .i64 sv, .int .i64 at'] w (RB (.tuple #[.agg g.A, .int .i64 0]) w) := hF
    show Calls _ _ _ _ (RB (.int .i64 (verify g.rt.l g.hi.toNat (bl text) (bl sig))) w)
    have hg := Gm hbk (List.mem_of_find?_eq_some hfd)
    obtain ⟨n, hnn⟩ := nXe (g.hi.toNat)
    have hn : g.hi = (n : Int) := by have := hg.h0; omega
    rw [← hnn]
    clear hnn
    have h7 : n ≤ 7 := by have := hg.h1; omega
    have hV := fun w hk => PkV.E9 w g.rt n text sig h7 ht hs hk
    obtain ⟨res, hres⟩ : ∃ r : Int, r = verify g.rt.l n (bl text) (bl sig) := ⟨_, rfl⟩
    rw [← hres] at hV ⊢
    obtain ⟨C, hC⟩ := nXe (g.A)
    obtain ⟨R, hR⟩ := nXe (g.rt.A)
    rw [← hC] at hF
    rw [← hR] at hV
    have c3 : C[3]? = some (.int .i64 (n : Int)) := by rw [hC, ← hn]; exact g.c3
    have HR4 := lh (show ∀ (j : Nat) (u : Value), R.toList[j]? = some u → C[4 + j]? = some u from fun j u h => by
        rw [hC]
        rw [hR] at h
        unfold Gr'.A Gr'.cs
        rw [List.getElem?_toArray, List.getElem?_append_right (by simp), ← h]
        simp [H32.A])
    have HRS := lh (show (Tryz.prog.info? 44).map (·.size) = some R.size by rw [hR]; exact H32.info _)
    have HCS := lh (show (Tryz.prog.info? 65).map (·.size) = some C.size by rw [hC]; exact DN _)
    have HCN := lh (show 36 = C.size by rw [hC]; exact (DL _).symm)
    have HCO := lh (show C.all (·.oneCell') = true by
        rw [hC, Array.all_eq_true_iff_forall_mem]
        intro u hu
        exact grF.one g u (by simpa [Gr'.A] using hu))
    obtain ⟨HF, HV, HK⟩ := l3h hF hV hk
    clear hF hV hk hC hR hv hfd hbk hres hs ht hn hg
    go_enter func24, ntmps24
    go_wp2_with fail
    refine HF.out.mono ?_
    rintro e w1 ⟨rfl, hb⟩
    have HB1 := lh hb
    clear hb
    go_wp2_with (first | (refine AC rfl _ _ _ rfl w1.heap.size C rfl rfl _ _ (AL _ _) HCS.out (by rw [← HCN.out]; rfl) HCO.out ?_) | fail)
    intro u1 hu1
    have HB2 := lh (show Below w.heap.size w u1 by rw [hu1.out]; exact AQ (HB1.out.alloc HB1.out.size _) HB1.out.size _)
    have HX2 := lh (show u1.heap[w1.heap.size]? = some (.cells C 65 (0, 0)) by rw [hu1.out]; exact AR (AL _ _))
    clear hu1
    have hc3 : u1.cell? ⟨w1.heap.size, 3, none⟩ = some (.int .i64 (n : Int)) := by rw [AO HX2.out]; exact c3
    have Hc4 := lh (show ∀ (j : Nat) (u : Value), R.toList[j]? = some u → u1.cell? ⟨w1.heap.size, 4 + j, none⟩ = some u from fun j u h => by rw [AO HX2.out]; exact HR4.out j u h)
    go_wp2_with (first | (refine Ah rfl _ _ rfl w1.heap.size 4 rfl R Hc4.out underlying44 rfl HRS.out ?_) | fail)
    refine (HV.out u1 (HK.out.below HB2.out)).mono ?_
    rintro e w3 ⟨rfl, hb⟩
    have HB3 := tbB HB2 hb
    clear hb
    go_wp2
    go_ret
    exact ⟨rfl, HB3.out⟩
end BkF
namespace PfS
open OctetS IdentS ShaS EntS WireS WireT BookA BkF
def ofE (e : Ent) : Hd := ⟨e.room, e.ep, e.ix, ShaS.sum (EntS.text e), []⟩
def says (s : List UInt8) : Option Hd := match WireS.read s with
 | some e => some (ofE e)
 | none => Cc s
theorem G9 {s : List UInt8} {x : Hd} (h : says s = some x) : HdS.Right x ∧ x.sum.length = 32 ∧ x.sig = [] := by
 unfold says at h
 cases hx : WireS.read s with
 | some e =>
   rw [hx] at h
   obtain ⟨hR, hp, hs, ht⟩ := EntB.IE hx
   obtain rfl := Option.some.inj h
   exact ⟨⟨hR.room, hR.ep0, hR.ep1, hR.ix0, hR.ix1, by simp [ofE]⟩, Bb _, rfl⟩
 | none =>
   rw [hx] at h
   obtain ⟨hR, hp, hs, _⟩ := HdS.IE h
   exact ⟨hR, hp, hs⟩
end PfS
namespace PfA
open Go Go.RowKit Go.Shelf OctetS IdentS EntS OctP OctQ OctG IdentP EntP EventC ShaA Steps KeyA TreeA WireS WireT BookA BkF PfS
theorem hd_says (s : List UInt8) : ∃ (F : Array Value) (y : Int) (r : ByteArray) (ep ix : Int) (pv : List UInt8) (g : ByteArray), HdP F r ep ix pv g ∧ hdV (says s) = .tuple #[.agg F, .int .i64 y] ∧ F.all (·.oneCell') = true := by
 cases hx : says s with
 | none => exact ⟨hdZ, 6, ⟨#[]⟩, 0, 0, Cg, ⟨#[]⟩, ⟨rfl, rfl⟩, rfl, Av _ _ _ _ _⟩
 | some x => exact ⟨_, 0, bsOf x.room, x.ep, x.ix, x.sum, bsOf x.sig, ⟨rfl, (G9 hx).2.1⟩, rfl, Av _ _ _ _ _⟩
theorem F8 (w : World) (s : ByteArray) (hs : s.size ≤ 140737488351232) (hv : Am w) (hk : Au w) : Calls Tryz.prog 11 #[.string s] w (RB (hdV (says (bl s))) w) := by
 obtain ⟨F, y, r, ep, ix, pv, g, hFP, hF, hFo⟩ := hd_says (bl s)
 rw [hF]
 have HFS := lh (show (Tryz.prog.info? 46).map (·.size) = some F.size by rw [hFP.size]; kernel_rfl)
 have HFN := lh (show 36 = F.size from hFP.size.symm)
 have HFO := lh hFo
 obtain ⟨Z, hZ⟩ := nXe (zl2)
 have HLIT : Hid (zq2 Z) := lh hZ.symm
 have HZN : Hid (Z.size = 36) := lh (by rw [hZ]; rfl)
 obtain ⟨w0, hw0⟩ := nXe (w.alloc (.cells Z 46))
 have hb0 : Below w.heap.size w w0 := by rw [hw0]; exact bAx
 have HX0 := lh (show w0.heap[w.heap.size]? = some (.cells Z 46 (0, 0)) by rw [hw0]; exact AL _ _)
 obtain ⟨HBL0, HW0, HV, HK⟩ := l4h hb0 hw0 hv hk
 cases hr : WireS.read (bl s) with
 | none =>
   obtain ⟨E, hE⟩ := nXe (entZ)
   have hEn : E.size = 37 := by rw [hE]; rfl
   have hEo : E.all (·.oneCell') = true := by rw [hE]; exact Ba _ _ _ _ _ _
   have hR : ∀ w, Am w → Calls Tryz.prog 26 #[.string s] w (RB (.tuple #[.agg E, .int .i64 6]) w) := fun w hv => by
    have := WireB.EQ w s hs hv
    rw [hr] at this
    rw [hE]
    exact this
   have hN : ∀ w, Am w → Calls Tryz.prog 27 #[.string s] w (RB (.tuple #[.agg F, .int .i64 y]) w) := fun w hv => by
    have := WireC.EQ w s hs hv
    rw [show Cc (bl s) = says (bl s) by unfold says; rw [hr], hF] at this
    exact this
   clear hE
   have HES := lh (show (Tryz.prog.info? 81).map (·.size) = some E.size by rw [hEn]; kernel_rfl)
   have HEN := lh (show 37 = E.size from hEn.symm)
   obtain ⟨HEO, HR, HN⟩ := l3h hEo hR hN
   clear hR hN hEn hEo hFP hF hFo hZ hw0 hb0 hs hv hk hr
   go_enter func11, ntmps11
   go_wp2_with fail
   rw [HLIT.out, ← HW0.out]
   refine (HR.out w0 (HV.out.below HBL0.out)).mono ?_
   rintro e' w1 ⟨rfl, hb⟩
   have HX1 := kpB hb HX0
   have HBL1 := tbB HBL0 hb
   clear hb
   go_wp2_with (first | (refine AC rfl _ _ _ rfl w1.heap.size E rfl rfl _ _ (AL _ _) HES.out (by rw [← HEN.out]; rfl) HEO.out ?_) | fail)
   intro u hu
   obtain ⟨w2, hw2⟩ := nXe (u)
   rw [← hw2] at hu ⊢
   clear hw2
   have hb : Below w1.heap.size w1 w2 := by rw [hu.out]; exact AQ bAx nR _
   have HE2 := lh (show w2.heap[w1.heap.size]? = some (.cells E 81 (0, 0)) by rw [hu.out]; exact AR (AL _ _))
   obtain ⟨BE, hBE⟩ := nXe (w1.heap.size)
   rw [← hBE] at HE2 ⊢
   have HX2 := kpB hb HX1
   have HBL2 := tbB HBL1 hb
   clear hb hu hBE
   go_wp2_with fail
   refine (HN.out w2 (HV.out.below HBL2.out)).mono ?_
   rintro e' w3 ⟨rfl, hb⟩
   have HX3 := kpB hb HX2
   have HBL3 := tbB HBL2 hb
   clear hb
   go_wp2_with (first | (refine AC rfl _ _ _ rfl w.heap.size F rfl rfl _ _ HX3.out HFS.out (by rw [HZN.out]; exact HFN.out) HFO.out ?_) | fail)
   intro wf hwf
   go_wp2
   refine bodyPost_ret (v := .tuple #[.agg F, .int .i64 y]) (WireT.AU rfl _ _ w.heap.size 46 F (0, 0) _ rfl (by rw [hwf.out]; exact AR HX3.out) underlying46 rfl HFS.out rfl) rfl ⟨rfl, by rw [hwf.out]; exact AQ HBL3.out nR _⟩
 | some e =>
   obtain ⟨hRt, hpl, hsg, htx⟩ := EntB.IE hr
   obtain ⟨E, hE⟩ := nXe (entA (bsOf e.room) e.ep e.ix e.prev (bsOf e.ev) (bsOf e.sig))
   have hEP : EntP E (bsOf e.room) e.ep e.ix e.prev (bsOf e.ev) (bsOf e.sig) := ⟨hE, hpl⟩
   have hEn : E.size = 37 := hEP.size
   have hEo : E.all (·.oneCell') = true := by rw [hE]; exact Ba _ _ _ _ _ _
   have hent : Bp (bsOf e.room) e.ep e.ix e.prev (bsOf e.ev) (bsOf e.sig) = e := by
    unfold Bp
    rw [AV, AV, AV]
   have hchk : EntS.BD e = true := EntS.Bw.2 hRt
   have hsy : says (bl s) = some (ofE e) := by unfold says; rw [hr]
   rw [hsy] at hF
   have hy : y = 0 ∧ F = HdT.ofA (bsOf e.room) e.ep e.ix e := by
    have h1 : hdV (some (ofE e)) = .tuple #[.agg (HdT.ofA (bsOf e.room) e.ep e.ix e), .int .i64 0] := by
        unfold HdT.ofA
        rw [if_pos hchk]
        show Value.tuple #[.agg (hdA (bsOf e.room) e.ep e.ix (ShaS.sum (EntS.text e)) (bsOf [])), .int .i64 0] = _
        rw [show (EntX.sumE e).l = ShaS.sum (EntS.text e) by unfold EntX.sumE; first | rfl | (rw [if_pos hchk]; rfl)]
        rfl
    rw [h1] at hF
    injection hF with hF
    have h2 := congrArg (·[0]?) hF
    have h3 := congrArg (·[1]?) hF
    simp at h2 h3
    exact ⟨h3.symm, h2.symm⟩
   obtain ⟨rfl, hyF⟩ := hy
   have hroom := IdentS.DV hRt.room
   have hev := hRt.ev
   have hsig := hRt.sig
   have hR : ∀ w, Am w → Calls Tryz.prog 26 #[.string s] w (RB (.tuple #[.agg E, .int .i64 0]) w) := fun w hv => by
    have := WireB.EQ w s hs hv
    rw [hr] at this
    rw [hE]
    exact this
   have hN : ∀ w, Am w → Au w → Calls Tryz.prog 28 #[.agg E] w (RB (.tuple #[.agg F, .int .i64 0]) w) := fun w hv hk => by
    have := HdT.ak w E (bsOf e.room) e.ep e.ix e.prev (bsOf e.ev) (bsOf e.sig) hEP hv hk (by rw [AY]; omega) (by rw [AY]; unfold maxLen; omega) (by rw [AY]; unfold maxLen; omega)
    rw [hent, hchk, ← hyF] at this
    exact this
   clear hE hEP hent hchk hsy hyF hroom hev hsig hRt hpl hsg htx
   have HES := lh (show (Tryz.prog.info? 81).map (·.size) = some E.size by rw [hEn]; kernel_rfl)
   have HEN := lh (show 37 = E.size from hEn.symm)
   obtain ⟨HEO, HR, HN⟩ := l3h hEo hR hN
   clear hR hN hEn hEo hFP hF hFo hZ hw0 hb0 hs hv hk hr
   go_enter func11, ntmps11
   go_wp2_with fail
   rw [HLIT.out, ← HW0.out]
   refine (HR.out w0 (HV.out.below HBL0.out)).mono ?_
   rintro e' w1 ⟨rfl, hb⟩
   have HX1 := kpB hb HX0
   have HBL1 := tbB HBL0 hb
   clear hb
   go_wp2_with (first | (refine AC rfl _ _ _ rfl w1.heap.size E rfl rfl _ _ (AL _ _) HES.out (by rw [← HEN.out]; rfl) HEO.out ?_) | fail)
   intro u hu
   obtain ⟨w2, hw2⟩ := nXe (u)
   rw [← hw2] at hu ⊢
   clear hw2
   have hb : Below w1.heap.size w1 w2 := by rw [hu.out]; exact AQ bAx nR _
   have HE2 := lh (show w2.heap[w1.heap.size]? = some (.cells E 81 (0, 0)) by rw [hu.out]; exact AR (AL _ _))
   obtain ⟨BE, hBE⟩ := nXe (w1.heap.size)
   rw [← hBE] at HE2 ⊢
   have HX2 := kpB hb HX1
   have HBL2 := tbB HBL1 hb
   clear hb hu hBE
   go_wp2_with (first | (refine wpList_load_row rfl _ _ rfl BE rfl _ E (0, 0) _ HE2.out underlying81 rfl HES.out ?_) | fail)
   refine (HN.out w2 (HV.out.below HBL2.out) (HK.out.below HBL2.out)).mono ?_
   rintro e' w3 ⟨rfl, hb⟩
   have HX3 := kpB hb HX2
   have HBL3 := tbB HBL2 hb
   clear hb
   go_wp2_with (first | (refine AC rfl _ _ _ rfl w.heap.size F rfl rfl _ _ HX3.out HFS.out (by rw [HZN.out]; exact HFN.out) HFO.out ?_) | fail)
   intro wf hwf
   go_wp2
   refine bodyPost_ret (v := .tuple #[.agg F, .int .i64 0]) (WireT.AU rfl _ _ w.heap.size 46 F (0, 0) _ rfl (by rw [hwf.out]; exact AR HX3.out) underlying46 rfl HFS.out rfl) rfl ⟨rfl, by rw [hwf.out]; exact AQ HBL3.out nR _⟩
end PfA
namespace SnS
open Go OctetS ShaS EntS WireS WireT BookA BkF PfS SnT
def Ey (text sig : ByteArray) : Bool := decide (8192 < text.size) || decide (8192 < sig.size)
def CE (B : List Gr') (L : List Sn) (sv : Int) (text sig : ByteArray) : Out :=
 if Ey text sig then ⟨L, pfZ, false, 7⟩ else match says (bl text) with
 | none => ⟨L, pfZ, false, 6⟩
 | some h => if A7 B sv h.ix (bl text) (bl sig) = 0 then DI L sv h text sig else ⟨L, pfZ, false, A7 B sv h.ix (bl text) (bl sig)⟩
theorem long_no {text sig : ByteArray} (h : Ey text sig = false) : text.size ≤ 8192 ∧ sig.size ≤ 8192 := by
 unfold Ey at h
 simp at h
 omega
theorem hear_len (B : List Gr') (L : List Sn) (sv : Int) (text sig : ByteArray) : (CE B L sv text sig).l.length ≤ L.length + 1 := by
 unfold CE
 split
 ·simp
 ·split
  ·simp
  ·split
   ·exact Tf _ _ _ _ _
   ·simp
end SnS
namespace SnW
open Go Go.RowKit Go.ChangeMaps OctetS IdentS ShaS EntS OctG IdentP ShaA KeyA WireS WireT BookA BkF PfS PfA Steps SnK SnT SnM SnF SnG SnS
theorem wf_says {s : List UInt8} {h : Hd} {sv : Int} (hs : says s = some h) (hsv : InI sv) : WfH sv h := by
 obtain ⟨hR, hl, _⟩ := G9 hs
 have h1 := hR.ep0
 have h2 := hR.ep1
 have h3 := hR.ix0
 have h4 := hR.ix1
 refine ⟨hsv, ⟨by omega, by omega⟩, ⟨by omega, by omega⟩, ?_, hl⟩
 rw [AY]
 have := DV hR.room
 unfold maxLen
 omega
theorem Qk (sm : List UInt8) (text sig : ByteArray) (C Y : Array Value) (hl : sm.length = 32) (hC : C = (byV sm).toArray) (hY : Y = Dx sm text sig) : Tryz.prog.built 79 [(0, .agg C), (1, .string text), (2, .string sig)] = some Y := by
 have hY2 : Y = (C.toList ++ [.string text, .string sig] : List Value).toArray := by
  rw [hY, hC]
  rfl
 obtain ⟨c0, c1, c2, c3, c4, c5, c6, c7, c8, c9, c10, c11, c12, c13, c14, c15, c16, c17, c18, c19, c20, c21, c22, c23, c24, c25, c26, c27, c28, c29, c30, c31, hc⟩ := HdT.cells32 C (by rw [hC]; simp [AZ, hl])
 rw [hY2, hc]
 clear hY2 hc hC hY hl Y C
 change _ = _
 kernel_rfl
end SnW
namespace SnH
open SnW
open Go Go.RowKit Go.ChangeMaps OctetS IdentS ShaS EntS OctG IdentP ShaA KeyA WireS WireT BookA BkF PfS PfA Steps SnK SnT SnM SnF SnG SnS
theorem Te (L : List Sn) (sv : Int) (h : Hd) (text sig : ByteArray) : ∃ n a b c d, (DI L sv h text sig).p = pfA n a b c d := by
 unfold DI
 split
 ·split
  ·exact ⟨_, _, _, _, _, rfl⟩
  ·exact ⟨_, _, _, _, _, rfl⟩
 ·split
  ·exact ⟨_, _, _, _, _, rfl⟩
  ·exact ⟨_, _, _, _, _, rfl⟩
theorem FW (w : World) (S m : Nat) (bv : Value) (B : List Gr') (L : List Sn) (sv : Int) (text sig : ByteArray) (hs : SnAt w S m bv L) (hB : Sl w bv 36 B.length (B.flatMap Gr'.cs)) (hsv : InI sv) (ht : text.size ≤ maxLen) (hg : sig.size ≤ maxLen) (hL : L.length ≤ 1000) (hv : Am w) (hk : Au w) :
 Calls Tryz.prog 9 #[.pointer (some ⟨S, 0, none⟩), .int .i64 sv, .string text, .string sig] w fun e w' => e = .returned (.tuple #[.agg (CE B L sv text sig).p, .bool (CE B L sv text sig).is, .int .i64 (CE B L sv text sig).y]) ∧ SnAt w' S m bv (CE B L sv text sig).l ∧ Ext (fun k => k = m) w w' := by
 obtain ⟨O, hO⟩ := nXe (CE B L sv text sig)
 rw [← hO]
 have hne := hs.ne
 have lS := AJ hs.blk
 have lm := AJ hs.mp
 obtain ⟨HS, HBV, HV, HK⟩ := l4h hs hB hv hk
 unfold CE at hO
 obtain ⟨w0, hw0⟩ := nXe (w.alloc (.cells #[.int .i64 0, .string ⟨#[]⟩, .string ⟨#[]⟩, .string ⟨#[]⟩, .string ⟨#[]⟩] 37))
 have hb0 : Below w.heap.size w w0 := by rw [hw0]; exact Bl.new (Below.refl _ _) _
 have hz0 : w0.heap[w.heap.size]? = some (.cells #[.int .i64 0, .string ⟨#[]⟩, .string ⟨#[]⟩, .string ⟨#[]⟩, .string ⟨#[]⟩] 37 (0, 0)) := by rw [hw0]; exact AL _ _
 obtain ⟨HW0, HB0, HZ0⟩ := l3h hw0 hb0 hz0
 have hs0 : w0.heap.size = w.heap.size + 1 := by rw [hw0]; simp
 clear hs hB hv hk hw0 hb0
 cases hlong : Ey text sig
 ·rw [hlong] at hO
  simp only [Bool.false_eq_true, if_false] at hO
  have hlo := long_no hlong
  have dmax : decide ((8192 : Int) < max (text.size : Int) (sig.size : Int)) = false := dF (by omega)
  have HSay := lh (F8 w0 text (by unfold maxLen at ht; omega) (HV.out.below HB0.out) (HK.out.below HB0.out))
  cases hx : says (bl text) with
  | none =>
    rw [hx] at hO HSay
    unfold hdV at HSay
    simp only at hO
    have HO := lh hO
    obtain ⟨F, hF⟩ := nXe (hdZ)
    have hFn : F.size = 36 := by rw [hF]; rfl
    have HFS := lh (show (Tryz.prog.info? 46).map (·.size) = some F.size by rw [hFn]; kernel_rfl)
    have HFN := lh hFn
    have HFO := lh (show F.all (·.oneCell') = true by rw [hF]; exact Av _ _ _ _ _)
    simp only at HSay
    rw [← hF] at HSay
    clear hO hF hFn hz0 hlong
    go_enter func9, ntmps9
    go_wp2_with fail
    rw [← HW0.out]
    refine HSay.out.mono ?_
    rintro e' w1 ⟨rfl, hb⟩
    have HBL1 := tbB HB0 hb
    have HZ1 := kpB hb HZ0
    have z1' := hb.size
    clear hb
    go_wp2_with (first | (refine AC rfl _ _ _ rfl w1.heap.size F rfl rfl _ _ (AL _ _) HFS.out (by rw [HFN.out]; rfl) HFO.out ?_) | fail)
    intro u hu
    obtain ⟨w2, hw2⟩ := nXe (u)
    rw [← hw2] at hu ⊢
    clear hw2
    have hb : Below w1.heap.size w1 w2 := by rw [hu.out]; exact AQ bAx nR _
    have hf2 : w2.heap[w1.heap.size]? = some (.cells F 46 (0, 0)) := by rw [hu.out]; exact AR (AL _ _)
    obtain ⟨BF, hBF⟩ := nXe (w1.heap.size)
    rw [← hBF] at hf2 ⊢
    have HF2 := lh hf2
    have HZ2 := kpB hb HZ1
    have HBL2 := tbB HBL1 hb
    have z2' := hb.size
    have hBW : w.heap.size + 1 ≤ BF := by omega
    clear hb hu hf2 hBF HZ1
    obtain ⟨z0, z1⟩ := AA HZ2.out
    go_wp2
    change bodyPost _ _ _ _ _ (setP w2 w.heap.size (.int .i64 0) (.string ⟨#[]⟩) (.string ⟨#[]⟩) (.string ⟨#[]⟩) (.string ⟨#[]⟩))
    obtain ⟨wF, hwF⟩ := nXe (setP w2 w.heap.size (.int .i64 0) (.string ⟨#[]⟩) (.string ⟨#[]⟩) (.string ⟨#[]⟩) (.string ⟨#[]⟩))
    rw [← hwF]
    have hF : wF.heap[w.heap.size]? = some (.cells #[.int .i64 0, .string ⟨#[]⟩, .string ⟨#[]⟩, .string ⟨#[]⟩, .string ⟨#[]⟩] 37 (0, 0)) := by rw [hwF]; exact Cj HZ2.out _ _ _ _ _
    have HEF := lh (show Ext (fun k => k = w.heap.size) w2 wF by rw [hwF]; exact Bi (S := fun k => k = w.heap.size) (Ext.refl _ _) (.inl rfl) _ _ _ _ _)
    obtain ⟨cF, fF⟩ := AA hF
    clear hwF hF
    refine bodyPost_ret (v := .tuple #[.agg #[.int .i64 0, .string ⟨#[]⟩, .string ⟨#[]⟩, .string ⟨#[]⟩, .string ⟨#[]⟩], .bool false, .int .i64 6]) (by simp [results, Tryz.results9, go_sem, cF, fF]; done) rfl ?_
    have hE2 := Ext.of_below (S := fun _ => False) (HBL2.out)
    have hE3 := hE2.step HEF.out (fun k hk e => by omega)
    rw [HO.out]
    exact ⟨rfl, SnAt.ext HS.out hE3 (fun e => e) (fun e => e), hE3.mono (fun k _ h => h.elim)⟩
  | some x =>
    rw [hx] at hO HSay
    unfold hdV at HSay
    simp only at hO HSay
    have hwf := wf_says (sv := sv) hx hsv
    have HWF := lh hwf
    obtain ⟨y, hy⟩ := nXe (A7 B sv x.ix (bl text) (bl sig))
    rw [← hy] at hO
    have HO := lh hO
    have hver := fun W (hW : Below w.heap.size w W) => BkF.E9 W bv B sv x.ix text sig (Sl.below HBV.out hW) (by unfold maxLen at ht; omega) hg (HK.out.below hW)
    rw [← hy] at hver
    have HVER := lh hver
    have hP : HdP (hdA (bsOf x.room) x.ep x.ix x.sum (bsOf x.sig)) (bsOf x.room) x.ep x.ix x.sum (bsOf x.sig) := ⟨rfl, hwf.sum⟩
    obtain ⟨F, hF⟩ := nXe (hdA (bsOf x.room) x.ep x.ix x.sum (bsOf x.sig))
    rw [← hF] at hP HSay
    have hFn := hP.size
    have HFS := lh (show (Tryz.prog.info? 46).map (·.size) = some F.size by rw [hFn]; kernel_rfl)
    have HFN := lh hFn
    have HFO := lh (show F.all (·.oneCell') = true by rw [hF]; exact Av _ _ _ _ _)
    have HP := lh hP
    clear hO hF hFn hz0 hlong hver hy hwf hP hx
    go_enter func9, ntmps9
    go_wp2_with fail
    rw [← HW0.out]
    refine HSay.out.mono ?_
    rintro e' w1 ⟨rfl, hb⟩
    have HBL1 := tbB HB0 hb
    have HZ1 := kpB hb HZ0
    have z1' := hb.size
    clear hb
    go_wp2_with (first | (refine AC rfl _ _ _ rfl w1.heap.size F rfl rfl _ _ (AL _ _) HFS.out (by rw [HFN.out]; rfl) HFO.out ?_) | fail)
    intro u hu
    obtain ⟨w2, hw2⟩ := nXe (u)
    rw [← hw2] at hu ⊢
    clear hw2
    have hb : Below w1.heap.size w1 w2 := by rw [hu.out]; exact AQ bAx nR _
    have hf2 : w2.heap[w1.heap.size]? = some (.cells F 46 (0, 0)) := by rw [hu.out]; exact AR (AL _ _)
    obtain ⟨BF, hBF⟩ := nXe (w1.heap.size)
    rw [← hBF] at hf2 ⊢
    have HF2 := lh hf2
    have HZ2 := kpB hb HZ1
    have HBL2 := tbB HBL1 hb
    have z2' := hb.size
    have hBW : w.heap.size + 1 ≤ BF := by omega
    clear hb hu hf2 hBF HZ1
    have p2 : w2.cell? ⟨BF, 2, none⟩ = some (.int .i64 x.ix) := (AO HF2.out).trans HP.out.c2
    have hs2 : w2.heap[S]? = some (.cells #[bv, .map (some m)] 73 (0, 0)) := (HBL2.out.block _ lS).trans HS.out.blk
    obtain ⟨bs, bn, bc, rfl⟩ : ∃ a n c, bv = .slice a n c := by obtain ⟨a, c, h, _⟩ := HBV.out.form; exact ⟨a, _, c, h⟩
    have fw := lh (Bl.drew HBL2.out)
    go_wp2_with fail
    refine wp_region_noPanic ?_
    refine wp_region_held (S := (fun W => W.heap[S]? = some (.cells #[.slice bs bn bc, .map (some m)] 73 (0, 0)) ∧ W.cell? ⟨BF, 2, none⟩ = some (.int .i64 x.ix))) (by kernel_rfl) ?_
    change wpAnyH _ _ _ _ _ _ _ _ (World.drew w2)
    have hS0 : (w2.drew).heap[S]? = some (.cells #[.slice bs bn bc, .map (some m)] 73 (0, 0)) ∧ (w2.drew).cell? ⟨BF, 2, none⟩ = some (.int .i64 x.ix) := ⟨hs2, p2⟩
    refine tkJ 0 ?_ ?_ hS0 ?_
    rotate_left
    ·intro wq hSw
     obtain ⟨q0, q1⟩ := hSw
     obtain ⟨qc0, qf0⟩ := AA q0
     go_simp
     rfl
    simp only [sq]
    refine tkJ 1 ?_ ?_ hS0 ?_
    rotate_left
    ·intro wq hSw
     obtain ⟨q0, q1⟩ := hSw
     obtain ⟨qc0, qf0⟩ := AA q0
     go_simp
     rfl
    simp only [sq]
    refine tkJ 2 ?_ ?_ hS0 ?_
    rotate_left
    ·intro wq hSw
     obtain ⟨q0, q1⟩ := hSw
     obtain ⟨qc0, qf0⟩ := AA q0
     go_simp
     rfl
    simp only [sq]
    refine tkJ 3 ?_ ?_ hS0 ?_
    rotate_left
    ·intro wq hSw
     obtain ⟨q0, q1⟩ := hSw
     obtain ⟨qc0, qf0⟩ := AA q0
     go_simp
     rfl
    simp only [sq]
    refine tkJ 4 ?_ ?_ hS0 ?_
    rotate_left
    ·intro wq hSw
     obtain ⟨q0, q1⟩ := hSw
     obtain ⟨qc0, qf0⟩ := AA q0
     go_simp
     rfl
    simp only [sq]
    refine tkJ 5 ?_ ?_ hS0 ?_
    rotate_left
    ·intro wq hSw
     obtain ⟨q0, q1⟩ := hSw
     obtain ⟨qc0, qf0⟩ := AA q0
     go_simp
     rfl
    simp only [sq]
    refine tkJ 6 ?_ ?_ hS0 ?_
    rotate_left
    ·intro wq hSw
     obtain ⟨q0, q1⟩ := hSw
     obtain ⟨qc0, qf0⟩ := AA q0
     go_simp
     rfl
    simp only [sq]
    refine tkJ 7 ?_ ?_ hS0 ?_
    rotate_left
    ·intro wq hSw
     obtain ⟨q0, q1⟩ := hSw
     obtain ⟨qc0, qf0⟩ := AA q0
     go_simp
     rfl
    simp only [sq]
    refine tkJ 8 ?_ ?_ hS0 ?_
    rotate_left
    ·intro wq hSw
     obtain ⟨q0, q1⟩ := hSw
     obtain ⟨qc0, qf0⟩ := AA q0
     go_simp
     rfl
    simp only [sq]
    refine aOne (r := 9) ?_
    refine BR rfl (by rfl) (by go_simp; first | rfl | exact ⟨⟨rfl, rfl⟩, rfl⟩ | exact ⟨rfl, rfl⟩) ?_
    refine (HVER.out w2.drew (Bl.drew HBL2.out)).mono ?_
    rintro e w3c ⟨rfl, NG⟩
    have Qt := lh (((HBL2.out).drew).trans (NG.mono ((HBL2.out).drew).size))
    have HZ3 := kpB NG HZ2
    have HF3 := kpB NG HF2
    have z3' := NG.size
    have p1_0 : (w3c).heap[S]? = some (.cells #[.slice bs bn bc, .map (some m)] 73 (0, 0)) := (NG.block _ (AJ hs2)).trans hs2
    have p1_1 : (w3c).cell? ⟨BF, 2, none⟩ = some (.int .i64 x.ix) := AB NG p2
    have hS1 : (w3c).heap[S]? = some (.cells #[.slice bs bn bc, .map (some m)] 73 (0, 0)) ∧ (w3c).cell? ⟨BF, 2, none⟩ = some (.int .i64 x.ix) := ⟨p1_0, p1_1⟩
    clear NG
    refine ⟨_, rfl, ?_, ?_⟩
    ·exact hS1
    simp only [sq]
    refine tkJ 10 ?_ ?_ hS1 ?_
    rotate_left
    ·intro wq hSw
     obtain ⟨q0, q1⟩ := hSw
     obtain ⟨qc0, qf0⟩ := AA q0
     go_simp
     rfl
    simp only [sq]
    refine wpAnyH_done (by kernel_rfl) (NoPanic.normal ?_) _
    obtain ⟨z0, z1⟩ := AA HZ3.out
    by_cases hy : y = 0
    ·subst hy
     rw [if_pos rfl] at HO
     have hNT := U2 w3c S m (.slice bs bn bc) L sv x text sig (SnAt.below HS.out Qt.out) HWF.out hL
     obtain ⟨N, hN⟩ := nXe (DI L sv x text sig)
     obtain ⟨n, a, b, c, d, hp⟩ : ∃ n a b c d, N.p = pfA n a b c d := by rw [hN]; exact Te L sv x text sig
     obtain ⟨D, hD⟩ := nXe (Dx x.sum text sig)
     obtain ⟨M, hM⟩ : ∃ M : Array Value, M = (byV x.sum).toArray := ⟨_, rfl⟩
     have HDb := lh (Qk x.sum text sig M D HWF.out.sum hM hD)
     have HMS := lh (show (Tryz.prog.info? 44).map (·.size) = some M.size by rw [show M.size = 32 by rw [hM]; simp [AZ, HWF.out.sum]]; kernel_rfl)
     have HMc := lh (show ∀ (j : Nat) (u : Value), M.toList[j]? = some u → w3c.cell? ⟨BF, 3 + j, none⟩ = some u from fun j u hu => by rw [hM] at hu; exact (AO HF3.out).trans (HP.out.cp j u hu))
     rw [← hN, ← hD, hp] at hNT
     rw [← hN] at HO
     unfold Eo pfA at hNT
     have k0 : w3c.cell? ⟨BF, 0, none⟩ = some (.string (bsOf x.room)) := (AO HF3.out).trans HP.out.c0
     have k1 : w3c.cell? ⟨BF, 1, none⟩ = some (.int .i64 x.ep) := (AO HF3.out).trans HP.out.c1
     have k2 : w3c.cell? ⟨BF, 2, none⟩ = some (.int .i64 x.ix) := (AO HF3.out).trans HP.out.c2
     obtain ⟨rm, hrm⟩ := nXe (bsOf x.room)
     rw [← hrm] at hNT k0
     obtain ⟨HNT, Hp⟩ := l2h hNT hp
     clear hNT hD hM hrm hN hp z0 z1
     go_wp2_with (first | (refine Lift.Ah rfl _ _ rfl BF 3 rfl M HMc.out underlying44 rfl HMS.out ?_) | (refine EntQ.CF rfl 79 _ rfl D (by first | exact HDb.out | (go_simp; exact HDb.out)) ?_) | fail)
     refine HNT.out.mono ?_
     rintro e' w4 ⟨rfl, hs4, hE4⟩
     obtain ⟨HS4, HE4⟩ := l2h hs4 hE4
     have HZ4 := lh (hE4.Ai HZ3.out (fun e => by omega))
     obtain ⟨z0, z1⟩ := AA HZ4.out
     have z4' := hE4.size
     clear hs4 hE4 k0 k1 k2
     go_wp2
     change bodyPost _ _ _ _ _ (setP w4 w.heap.size (.int .i64 n) (.string a) (.string b) (.string c) (.string d))
     obtain ⟨wF, hwF⟩ := nXe (setP w4 w.heap.size (.int .i64 n) (.string a) (.string b) (.string c) (.string d))
     rw [← hwF]
     have hF : wF.heap[w.heap.size]? = some (.cells #[.int .i64 n, .string a, .string b, .string c, .string d] 37 (0, 0)) := by rw [hwF]; exact Cj HZ4.out _ _ _ _ _
     have HEF := lh (show Ext (fun k => k = w.heap.size) w4 wF by rw [hwF]; exact Bi (S := fun k => k = w.heap.size) (Ext.refl _ _) (.inl rfl) _ _ _ _ _)
     obtain ⟨cF, fF⟩ := AA hF
     clear hwF hF
     refine bodyPost_ret (v := .tuple #[.agg #[.int .i64 n, .string a, .string b, .string c, .string d], .bool N.is, .int .i64 N.y]) (by simp [results, Tryz.results9, go_sem, cF, fF]; done) rfl ?_
     have hE5 := ((Ext.of_below (S := fun k => k = m) Qt.out).trans HE4.out).step HEF.out (fun k hk e => by omega)
     rw [HO.out, Hp.out]
     exact ⟨rfl, SnAt.ext HS4.out HEF.out (fun e => by omega) (fun e => by omega), hE5⟩
    ·rw [if_neg hy] at HO
     have t1 : (y != 0) = true := by simpa using hy
     go_wp2
     change bodyPost _ _ _ _ _ (setP w3c w.heap.size (.int .i64 0) (.string ⟨#[]⟩) (.string ⟨#[]⟩) (.string ⟨#[]⟩) (.string ⟨#[]⟩))
     obtain ⟨wF, hwF⟩ := nXe (setP w3c w.heap.size (.int .i64 0) (.string ⟨#[]⟩) (.string ⟨#[]⟩) (.string ⟨#[]⟩) (.string ⟨#[]⟩))
     rw [← hwF]
     have hF : wF.heap[w.heap.size]? = some (.cells #[.int .i64 0, .string ⟨#[]⟩, .string ⟨#[]⟩, .string ⟨#[]⟩, .string ⟨#[]⟩] 37 (0, 0)) := by rw [hwF]; exact Cj HZ3.out _ _ _ _ _
     have HEF := lh (show Ext (fun k => k = w.heap.size) w3c wF by rw [hwF]; exact Bi (S := fun k => k = w.heap.size) (Ext.refl _ _) (.inl rfl) _ _ _ _ _)
     obtain ⟨cF, fF⟩ := AA hF
     clear hwF hF
     refine bodyPost_ret (v := .tuple #[.agg #[.int .i64 0, .string ⟨#[]⟩, .string ⟨#[]⟩, .string ⟨#[]⟩, .string ⟨#[]⟩], .bool false, .int .i64 y]) (by simp [results, Tryz.results9, go_sem, cF, fF]; done) rfl ?_
     have hE2 := Ext.of_below (S := fun _ => False) (Qt.out)
     have hE3 := hE2.step HEF.out (fun k hk e => by omega)
     rw [HO.out]
     exact ⟨rfl, SnAt.ext HS.out hE3 (fun e => e) (fun e => e), hE3.mono (fun k _ h => h.elim)⟩
 ·rw [hlong] at hO
  simp only [if_true] at hO
  have HO := lh hO
  have dmax : decide ((8192 : Int) < max (text.size : Int) (sig.size : Int)) = true := dT (by unfold Ey at hlong; simp at hlong; omega)
  clear hO hlong
  obtain ⟨z0, z1⟩ := AA hz0
  go_enter func9, ntmps9
  go_wp2
  rw [← HW0.out]
  refine bodyPost_ret (v := .tuple #[.agg #[.int .i64 0, .string ⟨#[]⟩, .string ⟨#[]⟩, .string ⟨#[]⟩, .string ⟨#[]⟩], .bool false, .int .i64 7]) (by simp [results, Tryz.results9, go_sem, z0, z1]; done) rfl ?_
  have hE3 := Ext.of_below (S := fun _ => False) HB0.out
  rw [HO.out]
  exact ⟨rfl, SnAt.ext HS.out hE3 (fun e => e) (fun e => e), hE3.mono (fun k _ h => h.elim)⟩
end SnH
namespace SnN
open Go Go.RowKit Go.ChangeMaps OctetS OctG ShaS EntS WireS WireT BookA RowsX Steps BkC SnK SnT SnM SnF
attribute [-go_sem] Builtin.append_
theorem tyG : BN Tryz.prog 22 65 36 64 (.agg #[.int .i64 0, .int .i64 0, .int .i64 0, .int .i64 0, .int .u8 0, .int .u8 0, .int .u8 0, .int .u8 0, .int .u8 0, .int .u8 0, .int .u8 0, .int .u8 0, .int .u8 0, .int .u8 0, .int .u8 0, .int .u8 0, .int .u8 0, .int .u8 0, .int .u8 0, .int .u8 0, .int .u8 0, .int .u8 0, .int .u8 0, .int .u8 0, .int .u8 0, .int .u8 0, .int .u8 0, .int .u8 0, .int .u8 0, .int .u8 0, .int .u8 0, .int .u8 0, .int .u8 0, .int .u8 0, .int .u8 0, .int .u8 0]) := BN.mk' (by kernel_rfl) (by kernel_rfl) rfl (by omega)
theorem UI (w : World) (a : Option Addr) (l c : Nat) : (binOp .eql 22 (.slice a l c) (.slice none 0 0)).run Tryz.prog w = .ok (.bool a.isNone) w := by
 have h : Tryz.prog.underlying 22 = some (.slice 65) := by kernel_rfl
 have h2 := run_equal_slice_nil (P := Tryz.prog) w 22 65 a l c h
 simp [binOp, h2, Result.andThen]
theorem UY (w : World) (v : Value) (B : List Gr') (hB : Sl w v 36 B.length (B.flatMap Gr'.cs)) (hl : B.length ≤ maxLen) (hb : B.length * 64 ≤ 140737488355328) :
 Calls Tryz.prog 20 #[v] w fun e w' => ∃ v', e = .returned v' ∧ Ow w' w.heap.size 65 36 v' B.length (B.flatMap Gr'.cs) ∧ Below w.heap.size w w' := by
 rcases hB.2 with ⟨rfl, h0⟩ | ⟨a, cap, rfl, h1, h2, h3⟩
 ·have hx : B.flatMap Gr'.cs = [] := List.eq_nil_of_length_eq_zero (by have := hB.1; rw [h0] at this; simpa using this)
  have hnil := UI w none 0 0
  go_enter func20, ntmps20
  go_wp2
  go_ret
  refine ⟨_, rfl, ?_, Below.refl _ _⟩
  rw [hx, h0]
  exact Ow.nil _ _ _ _
 ·have HB := lh hB
  have hnil := UI w (some a) B.length cap
  clear hB h3
  go_enter func20, ntmps20
  go_wp2_with (at_builtin; go_must (refine GU tyG grF HB.out rfl _ _ rfl rfl rfl hl hb ?go))
  case go =>
  intro v2 w2 hA
  have HA := lh hA
  clear hA
  go_wp2
  go_ret
  exact ⟨_, rfl, HA.out.own, HA.out.bel⟩
theorem New_ok (w : World) (v : Value) (B : List Gr') (hB : Sl w v 36 B.length (B.flatMap Gr'.cs)) (hk : C9 B = true) (hl : B.length ≤ 256) :
 Calls Tryz.prog 6 #[v] w fun e w' => ∃ S m bv, e = .returned (.tuple #[.pointer (some ⟨S, 0, none⟩), .int .i64 0]) ∧ SnAt w' S m bv [] ∧ Ow w' w.heap.size 65 36 bv B.length (B.flatMap Gr'.cs) ∧ (∀ k, bv.ownBlock = some k → k ≠ m ∧ k ≠ S) ∧ w.heap.size ≤ S ∧ w.heap.size ≤ m ∧ Below w.heap.size w w' := by
 have hC := BkC.Dw w v B hB
 rw [if_pos hk] at hC
 obtain ⟨HC, HB⟩ := l2h hC hB
 clear hC hB
 go_enter func6, ntmps6
 go_wp2_with fail
 refine HC.out.mono ?_
 rintro e w1 ⟨rfl, hb1⟩
 have HB1 := lh hb1
 clear hb1
 have hCl := UY w1 v B (Sl.below HB.out HB1.out) (by unfold maxLen; omega) (by omega)
 have HCl := lh hCl
 clear hCl
 go_wp2_with fail
 refine HCl.out.mono ?_
 rintro e w2 ⟨v', rfl, ho, hb2⟩
 obtain ⟨a', c', rfl, _, _⟩ := ho.form
 have hmm := @run_makeMap Tryz.prog
 have z1 := HB1.out.size
 have z2 := hb2.size
 have hlt := ho.lt
 have HO := lh ho
 have HB2 := tbB HB1 hb2
 clear ho hb2
 go_wp2
 go_ret2
 refine ⟨w2.heap.size + 1, w2.heap.size, _, rfl, ⟨Ad _ (by simp), Ak (AL _ _) _, fun x hx => by simp at hx, List.Pairwise.nil⟩, ?_, ?_, by omega, by omega, Bl.new (Bl.new HB2.out _) _⟩
 ·exact ((HO.out.ext (Ext.ofB bAx) (fun _ _ h => h)).ext (Ext.ofB bAx) (fun _ _ h => h)).rebase (fun k hk => by have := (hlt k hk).1; omega)
 ·exact fun k hk => by have := (hlt k hk).2; omega
theorem New_no (w : World) (v : Value) (B : List Gr') (hB : Sl w v 36 B.length (B.flatMap Gr'.cs)) (hk : C9 B = false) :
 Calls Tryz.prog 6 #[v] w fun e w' => e = .returned (.tuple #[.pointer none, .int .i64 2]) ∧ Below w.heap.size w w' := by
 have hC := BkC.Dw w v B hB
 rw [if_neg (by simp [hk])] at hC
 have HC := lh hC
 clear hC hB
 go_enter func6, ntmps6
 go_wp2_with fail
 refine HC.out.mono ?_
 rintro e w1 ⟨rfl, hb1⟩
 go_wp2
 go_ret2
 exact ⟨rfl, hb1⟩
end SnN
namespace SnV
open OctetS IdentS ShaS KeyS EntS WireS WireT BookA BkC BkF PfS EntK EntL TreeA SnT SnS SnF
open NSha (bN)
set_option maxRecDepth 100000
def o32 : List UInt8 := 1 :: List.replicate 31 0
def h1 (s : List UInt8) : Hd := ⟨rm, 0, 5, z32, s⟩
def h2 (s : List UInt8) : Hd := ⟨rm, 0, 5, o32, s⟩
def t1 : List UInt8 := HdS.text (h1 [])
def t2 : List UInt8 := HdS.text (h2 [])
def g1 : List UInt8 := Dq [115] 1 0 t1
def g2 : List UInt8 := Dq [115] 1 1 t2
theorem Vw (s : List UInt8) : HdS.text (h1 s) = t1 := rfl
theorem Vv (s : List UInt8) : HdS.text (h2 s) = t2 := rfl
theorem UA : g1.length = 1121 := FE (by decide) _
theorem T9 : g2.length = 1121 := FE (by decide) _
theorem RA {s : List UInt8} (h : s.length ≤ 8192) : HdS.Right (h1 s) := ⟨room0, by show (0 : Int) ≤ 0; omega, by show (0 : Int) ≤ 4096; omega, by show (0 : Int) ≤ 5; omega, by show (5 : Int) ≤ 4096; omega, h⟩
theorem Q9 {s : List UInt8} (h : s.length ≤ 8192) : HdS.Right (h2 s) := ⟨room0, by show (0 : Int) ≤ 0; omega, by show (0 : Int) ≤ 4096; omega, by show (0 : Int) ≤ 5; omega, by show (5 : Int) ≤ 4096; omega, h⟩
theorem Wn : t1.length ≤ 8192 := by decide +kernel
theorem Wm : t2.length ≤ 8192 := by decide +kernel
theorem TF : says t1 = some (h1 []) := by
 unfold says
 rw [show WireS.read t1 = none by decide +kernel]
 exact HdS.OP (RA (by decide)) rfl
theorem TE : says t2 = some (h2 []) := by
 unfold says
 rw [show WireS.read t2 = none by decide +kernel]
 exact HdS.OP (Q9 (by decide)) rfl
theorem Wp : says [120] = none := by decide +kernel
theorem sums : z32 ≠ o32 := by decide
theorem Nb : C9 [gr] = true := by decide
theorem UG : [gr].find? (Bo · 2 5) = some gr := by rw [List.find?_cons, show Bo gr 2 5 = true from R7 5 (by decide) (by decide)]
theorem Xp : [gr].find? (Bo · 1 5) = none := by rw [List.find?_cons, show Bo gr 1 5 = false from UD 5]; rfl
theorem Q7 : gr.rt.l = rootOf [115] 1 := KeyK.Ot _ _
theorem Vr : A7 [gr] 2 5 t1 g1 = 0 := by
 unfold A7
 rw [if_pos Nb, UG]
 show verify gr.rt.l 1 t1 g1 = 0
 rw [Q7]
 exact Ng (by decide) (by decide) _ _
theorem YJ : A7 [gr] 2 5 t2 g2 = 0 := by
 unfold A7
 rw [if_pos Nb, UG]
 show verify gr.rt.l 1 t2 g2 = 0
 rw [Q7]
 exact Ng (by decide) (by decide) _ _
theorem We (t s : List UInt8) : A7 [gr] 1 5 t s = 3 := by
 unfold A7
 rw [if_pos Nb, Xp]
def T1 : ByteArray := bsOf t1
def T2 : ByteArray := bsOf t2
def G1 : ByteArray := bsOf g1
def G2 : ByteArray := bsOf g2
theorem Xz : T1.size ≤ 8192 := by unfold T1; rw [AY]; exact Wn
theorem Xy : T2.size ≤ 8192 := by unfold T2; rw [AY]; exact Wm
theorem Z8 : G1.size = 1121 := by unfold G1; rw [AY]; exact UA
theorem Z7 : G2.size = 1121 := by unfold G2; rw [AY]; exact T9
def L1 : List Sn := [⟨2, h1 [], T1, G1⟩]
theorem Tj : Ey T1 G1 = false := by unfold Ey; have := Xz; have := Z8; simp; omega
theorem Ti : Ey T2 G2 = false := by unfold Ey; have := Xy; have := Z7; simp; omega
theorem O5 : first L1 2 (h1 []) = some ⟨2, h1 [], T1, G1⟩ := by
 unfold first L1
 rw [List.find?_cons, show atB 2 (h1 []) ⟨2, h1 [], T1, G1⟩ = true from F6.2 ⟨rfl, rfl, rfl, rfl⟩]
theorem VS : first L1 2 (h2 []) = some ⟨2, h1 [], T1, G1⟩ := by
 unfold first L1
 rw [List.find?_cons, show atB 2 (h2 []) ⟨2, h1 [], T1, G1⟩ = true from F6.2 ⟨rfl, rfl, rfl, rfl⟩]
theorem VT : first [] 2 (h1 []) = none := rfl
theorem XW : CE [gr] [] 2 T1 G1 = ⟨L1, pfZ, false, 0⟩ := by
 unfold CE
 rw [Tj, show bl T1 = t1 from AV _, show bl G1 = g1 from AV _, TF]
 simp only [Bool.false_eq_true, if_false]
 rw [show A7 [gr] 2 (h1 []).ix t1 g1 = 0 from Vr, if_pos rfl]
 unfold DI
 rw [VT]
 rfl
theorem XV : CE [gr] L1 2 T1 G1 = ⟨L1, pfZ, false, 0⟩ := by
 unfold CE
 rw [Tj, show bl T1 = t1 from AV _, show bl G1 = g1 from AV _, TF]
 simp only [Bool.false_eq_true, if_false]
 rw [show A7 [gr] 2 (h1 []).ix t1 g1 = 0 from Vr, if_pos rfl]
 unfold DI
 rw [O5]
 simp only [if_true]
theorem XU : CE [gr] L1 2 T2 G2 = ⟨L1, pfA 2 T1 G1 T2 G2, true, 0⟩ := by
 unfold CE
 rw [Ti, show bl T2 = t2 from AV _, show bl G2 = g2 from AV _, TE]
 simp only [Bool.false_eq_true, if_false]
 rw [show A7 [gr] 2 (h2 []).ix t2 g2 = 0 from YJ, if_pos rfl]
 unfold DI
 rw [VS]
 simp only
 rw [if_neg (show ¬ (h1 []).sum = (h2 []).sum from sums)]
theorem XT : CE [gr] L1 1 T2 G2 = ⟨L1, pfZ, false, 3⟩ := by
 unfold CE
 rw [Ti, show bl T2 = t2 from AV _, show bl G2 = g2 from AV _, TE]
 simp only [Bool.false_eq_true, if_false]
 rw [show A7 [gr] 1 (h2 []).ix t2 g2 = 3 from We _ _, if_neg (by decide)]
theorem XR : CE [gr] L1 2 ⟨#[120]⟩ ⟨#[]⟩ = ⟨L1, pfZ, false, 6⟩ := by
 unfold CE
 rw [show Ey ⟨#[120]⟩ ⟨#[]⟩ = false from by decide, show bl ⟨#[120]⟩ = [120] from rfl, Wp]
 simp only [Bool.false_eq_true, if_false]
theorem Y3 : gotT L1 2 (h1 []) = T1 := by unfold gotT; rw [O5]
end SnV
end Go.Proofs.YtceiajepcokacaaGreatDoor
