/-
  WHAT IS PROVED: contracts of functions, and plain laws. Condition: what each theorem names.
-/
import Derived.Test.YtadofbbpfgmclaaGreatDoorS0
import Derived.Test.YtadofbbpfgmclaaGreatDoorZTBH12
import Derived.Test.YtadofbbpfgmclaaGreatDoorZTBH16
set_option linter.unusedVariables false
set_option linter.unusedSimpArgs false
set_option maxRecDepth 100000
set_option maxHeartbeats 4000000
namespace Go.Proofs.YtadofbbpfgmclaaGreatDoor
open Go.Proofs.Tryz
namespace BkF
open Go Go.RowKit Go.Shelf Steps RowsX Lift KeyS KeyA TreeA ShaA BookA BookB BookD BkR BkC
theorem first_find (sv at' : Int) : ∀ (L : List Gr') (k : Nat), (EQ sv at' L k = -1 ∧ L.find? (Bt · sv at') = none) ∨ ∃ (j : Nat) (g : Gr'), EQ sv at' L k = ((k + j : Nat) : Int) ∧ L[j]? = some g ∧ L.find? (Bt · sv at') = some g
 | [], k => .inl ⟨rfl, rfl⟩
 | g :: r, k => by
   cases h : Bt g sv at'
   ·rw [EQ, h, if_neg (by simp), List.find?_cons_of_neg (by simp [h])]
    rcases first_find sv at' r (k + 1) with h1 | ⟨j, x, h1, h2, h3⟩
    ·exact .inl h1
    ·exact .inr ⟨j + 1, x, by rw [h1]; congr 1; omega, h2, h3⟩
   ·rw [EQ, h, if_pos rfl, List.find?_cons_of_pos (by simp [h])]
    exact .inr ⟨0, g, by simp, rfl, rfl⟩
def Ib (L : List Gr') (sv at' : Int) : Int := if EE L = true then (match L.find? (Bt · sv at') with | some _ => 0 | none => 3) else 2
def findG (L : List Gr') (sv at' : Int) : Gr' := if EE L = true then ((L.find? (Bt · sv at')).getD Fg) else Fg
def BF (L : List Gr') (sv at' : Int) (text sig : List UInt8) : Int := if EE L = true then (match L.find? (Bt · sv at') with | some g => verify g.rt.l g.hi.toNat text sig | none => 3) else 2
theorem okF_right : ∀ (L : List Gr') (p : Option Gr'), okF p L = true → ∀ g ∈ L, g.Right
 | [], _, _, _, h => by cases h
 | x :: r, p, h, g, hg => by
   have h2 : D6 x = true ∧ okF (some x) r = true := by
     cases p with
     | none => simp only [okF, Bool.and_eq_true] at h; exact h
     | some q => simp only [okF, Bool.and_eq_true] at h; exact ⟨h.1, h.2.2⟩
   rcases List.mem_cons.1 hg with rfl | hm
   ·exact rightB_iff.1 h2.1
   ·exact okF_right r _ h2.2 g hm
theorem book_right {L : List Gr'} (h : EE L = true) {g : Gr'} (hg : g ∈ L) : g.Right := by
 unfold EE at h
 simp only [Bool.and_eq_true] at h
 exact okF_right L none h.2 g hg
theorem book_len {L : List Gr'} (h : EE L = true) : L.length ≤ 256 := by
 unfold EE at h
 simp only [Bool.and_eq_true, decide_eq_true_eq] at h
 exact h.1
theorem Find_ok (w : World) (v : Value) (L : List Gr') (sv at' : Int) (hv : Sl w v 36 L.length (L.flatMap Gr'.cs)) : Calls Tryz.prog 60 #[v, .int .i64 sv, .int .i64 at'] w (RB (.tuple #[.agg (findG L sv at').A, .int .i64 (Ib L sv at')]) w) := by
 obtain ⟨a, cap, rfl, hcap, hm⟩ := hv.form
 have Hrow := lh (fun (k : Nat) (g : Gr') (hx : L[k]? = some g) => Bo grF (by omega) hv hx)
 obtain ⟨Z, hZ⟩ := nXe (Fg.A)
 have HLIT : Hid (zq3 Z) := lh (by rw [hZ]; unfold zq3; kernel_rfl)
 have HZN : Hid (Z.size = 36) := lh (by rw [hZ]; exact DX _)
 have HZS : Hid ((Tryz.prog.info? 47).map (·.size) = some Z.size) := lh (by rw [hZ]; exact DY _)
 have HZO : Hid (Z.all (·.oneCell') = true) := lh (by rw [hZ]; kernel_rfl)
 obtain ⟨w0, hw0⟩ := nXe (((w.alloc (.cells #[.int .i64 sv] 3)).alloc (.cells #[.int .i64 at'] 2)).alloc (.cells Z 47))
 have hb0 : Below w.heap.size w w0 := by rw [hw0]; exact (bAx.alloc (by simp) _).alloc (by simp; omega) _
 have h1 : w0.heap[w.heap.size]? = some (.cells #[.int .i64 sv] 3 (0, 0)) := by rw [hw0]; exact Ao (Ao (AL _ _) _) _
 have h2 : w0.heap[w.heap.size + 1]? = some (.cells #[.int .i64 at'] 2 (0, 0)) := by rw [hw0]; exact Ao (Ah _ (by simp)) _
 have h3 : w0.heap[w.heap.size + 2]? = some (.cells Z 47 (0, 0)) := by rw [hw0]; exact Ah _ (by simp)
 have hv0 := Sl.below hv hb0
 obtain ⟨HC, HB0, HX0, HW0⟩ := l4h (Es w0 _ L hv0) hb0 h3 hw0
 unfold findG Ib
 cases hbk : EE L
 ·skip
  rw [hbk] at HC
  rw [if_neg (by simp)] at HC
  rw [if_neg (by simp), if_neg (by simp), ← hZ]
  clear hv0 h1 h2 h3 hw0 hb0 hv hcap hm hbk hZ
  go_enter func60, ntmps60
  go_wp2_with fail
  rw [HLIT.out, ← HW0.out]
  refine HC.out.mono ?_
  rintro e w1 ⟨rfl, hb⟩
  have HB1 := tbB HB0 hb
  have HX1 := kpB hb HX0
  clear hb
  go_wp2_with (first | (refine AC rfl _ _ _ rfl (w.heap.size + 2) Z rfl (by rw [← HLIT.out]; rfl) _ _ HX1.out HZS.out rfl HZO.out ?_) | fail)
  intro wf hwf
  go_wp2
  refine bodyPost_ret (v := .tuple #[.agg Z, .int .i64 2]) (WireT.AV rfl _ _ (w.heap.size + 2) 47 Z (0, 0) _ rfl (by rw [hwf.out]; exact AR HX1.out) underlying47 rfl HZS.out rfl) rfl ⟨rfl, by rw [hwf.out]; exact AQ HB1.out (by omega) _⟩
 ·skip
  rw [hbk] at HC
  rw [if_pos rfl] at HC
  rw [if_pos rfl, if_pos rfl]
  have hlen := book_len hbk
  have HI := lh (fun w' (hb : Below w0.heap.size w0 w') => Ia w' _ L w.heap.size (w.heap.size + 1) sv at' (Sl.below hv0 hb) (by omega) ((hb.block _ (AB h1)).trans h1) ((hb.block _ (AB h2)).trans h2))
  have hff := first_find sv at' L 0
  obtain ⟨n, hn⟩ := nXe (L.length)
  have Hn := lh hn
  rw [← hn] at HC HI hlen hcap ⊢
  rcases hff with ⟨hf1, hf2⟩ | ⟨j, g, hf1, hf2, hf3⟩
  ·skip
   rw [hf1] at HI
   rw [hf2]
   show Calls _ _ _ _ (RB (.tuple #[.agg Fg.A, .int .i64 3]) w)
   rw [← hZ]
   clear hf1 hf2 hv0 h1 h2 h3 hw0 hb0 hv hm hbk hZ hn
   go_enter func60, ntmps60
   go_wp2_with fail
   rw [HLIT.out, ← HW0.out]
   refine HC.out.mono ?_
   rintro e w1 ⟨rfl, hb⟩
   have HB1 := tbB HB0 hb
   have HX1 := kpB hb HX0
   have HI1 := lh (HI.out w1 hb)
   clear hb
   go_wp2_with fail
   refine HI1.out.mono ?_
   rintro e w2 ⟨rfl, hb⟩
   have HB2 := tbB HB1 hb
   have HX2 := kpB hb HX1
   clear hb
   go_wp2_with (first | (refine AC rfl _ _ _ rfl (w.heap.size + 2) Z rfl (by rw [← HLIT.out]; rfl) _ _ HX2.out HZS.out rfl HZO.out ?_) | fail)
   intro wf hwf
   go_wp2
   refine bodyPost_ret (v := .tuple #[.agg Z, .int .i64 3]) (WireT.AV rfl _ _ (w.heap.size + 2) 47 Z (0, 0) _ rfl (by rw [hwf.out]; exact AR HX2.out) underlying47 rfl HZS.out rfl) rfl ⟨rfl, by rw [hwf.out]; exact AQ HB2.out (by omega) _⟩
  ·skip
   rw [Nat.zero_add] at hf1
   rw [hf1] at HI
   rw [hf3]
   show Calls _ _ _ _ (RB (.tuple #[.agg g.A, .int .i64 0]) w)
   obtain ⟨b, bo, rfl, hblt, hcc⟩ := Hrow.out j g hf2
   have hjn : j < n := by rw [hn]; exact (List.getElem?_eq_some_iff.1 hf2).1
   obtain ⟨C, hC⟩ := nXe (g.A)
   rw [← hC]
   have HCS := lh (show (Tryz.prog.info? 47).map (·.size) = some C.size by rw [hC]; exact DY g)
   have HCN := lh (show Z.size = C.size by rw [hC, DX]; exact HZN.out)
   have HCO := lh (show C.all (·.oneCell') = true by
        rw [hC, Array.all_eq_true_iff_forall_mem]
        intro u hu
        exact grF.one g u (by simpa [Gr'.A] using hu))
   have Hcc := lh (show ∀ (j' : Nat) (u : Value), C.toList[j']? = some u → w.cell? ⟨b, bo + j * 36 + j', none⟩ = some u from fun j' u h => hcc j' u (by rw [hC] at h; exact h))
   have Hblt := lh hblt
   clear hf1 hf2 hf3 hv0 h1 h2 h3 hw0 hb0 hv hm hbk hZ hn hC hcc hblt
   go_enter func60, ntmps60
   go_wp2_with fail
   rw [HLIT.out, ← HW0.out]
   refine HC.out.mono ?_
   rintro e w1 ⟨rfl, hb⟩
   have HB1 := tbB HB0 hb
   have HX1 := kpB hb HX0
   have HI1 := lh (HI.out w1 hb)
   clear hb
   go_wp2_with fail
   refine HI1.out.mono ?_
   rintro e w2 ⟨rfl, hb⟩
   have HB2 := tbB HB1 hb
   have HX2 := kpB hb HX1
   clear hb
   have Hc2 := lh (show ∀ (j' : Nat) (u : Value), C.toList[j']? = some u → w2.cell? ⟨b, bo + j * 36 + j', none⟩ = some u from fun j' u h => (HB2.out.cell (p := ⟨b, bo + j * 36 + j', none⟩) Hblt.out).trans (Hcc.out j' u h))
   go_wp2_with (first | (refine Af rfl _ _ rfl b (bo + j * 36) rfl C Hc2.out underlying47 rfl HCS.out ?_) | (refine AC rfl _ _ _ rfl (w.heap.size + 2) C rfl rfl _ _ HX2.out HCS.out HCN.out HCO.out ?_) | fail)
   intro wf hwf
   go_wp2
   refine bodyPost_ret (v := .tuple #[.agg C, .int .i64 0]) (WireT.AV rfl _ _ (w.heap.size + 2) 47 C (0, 0) _ rfl (by rw [hwf.out]; exact AR HX2.out) underlying47 rfl HCS.out rfl) rfl ⟨rfl, by rw [hwf.out]; exact AQ HB2.out (by omega) _⟩
theorem Ga (w : World) (v : Value) (L : List Gr') (sv at' : Int) (text sig : ByteArray) (hv : Sl w v 36 L.length (L.flatMap Gr'.cs)) (ht : text.size ≤ 140737488355328) (hs : sig.size ≤ maxLen) (hk : Al w) :
 Calls Tryz.prog 38 #[v, .int .i64 sv, .int .i64 at', .string text, .string sig] w (RB (.int .i64 (BF L sv at' (bl text) (bl sig))) w) := by
 have hF := Find_ok w v L sv at' hv
 unfold findG Ib at hF
 unfold BF
 cases hbk : EE L
 ·rw [hbk] at hF
  rw [if_neg (by simp), if_neg (by simp)] at hF
  rw [if_neg (by simp)]
  obtain ⟨C, hC⟩ := nXe (Fg.A)
  rw [← hC] at hF
  have HCS := lh (show (Tryz.prog.info? 47).map (·.size) = some C.size by rw [hC]; exact DY _)
  have HCN := lh (show 36 = C.size by rw [hC]; exact (DX _).symm)
  have HCO := lh (show C.all (·.oneCell') = true by rw [hC]; kernel_rfl)
  have HF := lh hF
  clear hF hC hv hbk
  go_enter func38, ntmps38
  go_wp2_with fail
  refine HF.out.mono ?_
  rintro e w1 ⟨rfl, hb⟩
  have HB1 := lh hb
  clear hb
  go_wp2_with (first | (refine AC rfl _ _ _ rfl w1.heap.size C rfl rfl _ _ (AL _ _) HCS.out (by rw [← HCN.out]; rfl) HCO.out ?_) | fail)
  intro u1 hu1
  have HB2 := lh (show Below w.heap.size w u1 by rw [hu1.out]; exact AQ (HB1.out.alloc HB1.out.size _) HB1.out.size _)
  clear hu1
  go_wp2
  go_ret
  exact ⟨rfl, HB2.out⟩
 ·rw [hbk] at hF
  rw [if_pos rfl, if_pos rfl] at hF
  rw [if_pos rfl]
  cases hfd : L.find? (Bt · sv at') with
  | none =>
    rw [hfd] at hF
    replace hF : Calls Tryz.prog 60 #[v, .int .i64 sv, .int .i64 at'] w (RB (.tuple #[.agg Fg.A, .int .i64 3]) w) := hF
    show Calls _ _ _ _ (RB (.int .i64 3) w)
    obtain ⟨C, hC⟩ := nXe (Fg.A)
    rw [← hC] at hF
    have HCS := lh (show (Tryz.prog.info? 47).map (·.size) = some C.size by rw [hC]; exact DY _)
    have HCN := lh (show 36 = C.size by rw [hC]; exact (DX _).symm)
    have HCO := lh (show C.all (·.oneCell') = true by rw [hC]; kernel_rfl)
    have HF := lh hF
    clear hF hC hv hbk hfd
    go_enter func38, ntmps38
    go_wp2_with fail
    refine HF.out.mono ?_
    rintro e w1 ⟨rfl, hb⟩
    have HB1 := lh hb
    clear hb
    go_wp2_with (first | (refine AC rfl _ _ _ rfl w1.heap.size C rfl rfl _ _ (AL _ _) HCS.out (by rw [← HCN.out]; rfl) HCO.out ?_) | fail)
    intro u1 hu1
    have HB2 := lh (show Below w.heap.size w u1 by rw [hu1.out]; exact AQ (HB1.out.alloc HB1.out.size _) HB1.out.size _)
    clear hu1
    go_wp2
    go_ret
    exact ⟨rfl, HB2.out⟩
  | some g =>
    rw [hfd] at hF
    replace hF : Calls Tryz.prog 60 #[v, .int .i64 sv, .int .i64 at'] w (RB (.tuple #[.agg g.A, .int .i64 0]) w) := hF
    show Calls _ _ _ _ (RB (.int .i64 (verify g.rt.l g.hi.toNat (bl text) (bl sig))) w)
    have hg := book_right hbk (List.mem_of_find?_eq_some hfd)
    obtain ⟨n, hnn⟩ := nXe (g.hi.toNat)
    have hn : g.hi = (n : Int) := by have := hg.h0; omega
    rw [← hnn]
    clear hnn
    have h7 : n ≤ 7 := by have := hg.h1; omega
    have hV := fun w hk => PkV.Ga w g.rt n text sig h7 ht hs hk
    obtain ⟨res, hres⟩ : ∃ r : Int, r = verify g.rt.l n (bl text) (bl sig) := ⟨_, rfl⟩
    rw [← hres] at hV ⊢
    obtain ⟨C, hC⟩ := nXe (g.A)
    obtain ⟨R, hR⟩ := nXe (g.rt.A)
    rw [← hC] at hF
    rw [← hR] at hV
    have c3 : C[3]? = some (.int .i64 (n : Int)) := by rw [hC, ← hn]; exact g.c3
    have HR4 := lh (show ∀ (j : Nat) (u : Value), R.toList[j]? = some u → C[4 + j]? = some u from fun j u h => by
        rw [hC]
        rw [hR] at h
        unfold Gr'.A Gr'.cs
        rw [List.getElem?_toArray, List.getElem?_append_right (by simp), ← h]
        simp [H32.A])
    have HRS := lh (show (Tryz.prog.info? 27).map (·.size) = some R.size by rw [hR]; exact H32.info _)
    have HCS := lh (show (Tryz.prog.info? 47).map (·.size) = some C.size by rw [hC]; exact DY _)
    have HCN := lh (show 36 = C.size by rw [hC]; exact (DX _).symm)
    have HCO := lh (show C.all (·.oneCell') = true by
        rw [hC, Array.all_eq_true_iff_forall_mem]
        intro u hu
        exact grF.one g u (by simpa [Gr'.A] using hu))
    obtain ⟨HF, HV, HK⟩ := l3h hF hV hk
    clear hF hV hk hC hR hv hfd hbk hres hs ht hn hg
    go_enter func38, ntmps38
    go_wp2_with fail
    refine HF.out.mono ?_
    rintro e w1 ⟨rfl, hb⟩
    have HB1 := lh hb
    clear hb
    go_wp2_with (first | (refine AC rfl _ _ _ rfl w1.heap.size C rfl rfl _ _ (AL _ _) HCS.out (by rw [← HCN.out]; rfl) HCO.out ?_) | fail)
    intro u1 hu1
    have HB2 := lh (show Below w.heap.size w u1 by rw [hu1.out]; exact AQ (HB1.out.alloc HB1.out.size _) HB1.out.size _)
    have HX2 := lh (show u1.heap[w1.heap.size]? = some (.cells C 47 (0, 0)) by rw [hu1.out]; exact AR (AL _ _))
    clear hu1
    have hc3 : u1.cell? ⟨w1.heap.size, 3, none⟩ = some (.int .i64 (n : Int)) := by rw [AO HX2.out]; exact c3
    have Hc4 := lh (show ∀ (j : Nat) (u : Value), R.toList[j]? = some u → u1.cell? ⟨w1.heap.size, 4 + j, none⟩ = some u from fun j u h => by rw [AO HX2.out]; exact HR4.out j u h)
    go_wp2_with (first | (refine Af rfl _ _ rfl w1.heap.size 4 rfl R Hc4.out underlying27 rfl HRS.out ?_) | fail)
    refine (HV.out u1 (HK.out.below HB2.out)).mono ?_
    rintro e w3 ⟨rfl, hb⟩
    have HB3 := tbB HB2 hb
    clear hb
    go_wp2
    go_ret
    exact ⟨rfl, HB3.out⟩
end BkF
namespace PfS
open OctetS IdentS ShaS EntS WireS WireT BookA BkF
def ofE (e : Ent) : Hd := ⟨e.room, e.ep, e.ix, ShaS.sum (EntS.text e), []⟩
def says (s : List UInt8) : Option Hd := match WireS.read s with
 | some e => some (ofE e)
 | none => Cn s
theorem GM {s : List UInt8} {x : Hd} (h : says s = some x) : HdS.Right x ∧ x.sum.length = 32 ∧ x.sig = [] := by
 unfold says at h
 cases hx : WireS.read s with
 | some e =>
   rw [hx] at h
   obtain ⟨hR, hp, hs, ht⟩ := EntB.IM hx
   obtain rfl := Option.some.inj h
   exact ⟨⟨hR.room, hR.ep0, hR.ep1, hR.ix0, hR.ix1, by simp [ofE]⟩, Bf _, rfl⟩
 | none =>
   rw [hx] at h
   obtain ⟨hR, hp, hs, _⟩ := HdS.IM h
   exact ⟨hR, hp, hs⟩
def longB (s : List UInt8) : Bool := decide (s.length ≤ 8192)
def Ct (p : Pf) : Bool := decide (0 ≤ p.server) && (decide (p.server ≤ 63) && (longB p.a && (longB p.sigA && (longB p.b && longB p.sigB))))
theorem CX {p : Pf} : Ct p = true ↔ 0 ≤ p.server ∧ p.server ≤ 63 ∧ p.a.length ≤ 8192 ∧ p.sigA.length ≤ 8192 ∧ p.b.length ≤ 8192 ∧ p.sigB.length ≤ 8192 := by
 simp [Ct, longB]
def twoW (L : List Gr') (p : Pf) (x y : Hd) : Int :=
 if x.room = y.room ∧ x.ep = y.ep ∧ x.ix = y.ix then
    (if x.sum = y.sum then 4 else if BF L p.server x.ix p.a p.sigA = 0 then BF L p.server x.ix p.b p.sigB else BF L p.server x.ix p.a p.sigA)
 else 13
def Bg (L : List Gr') (p : Pf) : Int := if Ct p = true then (match says p.a, says p.b with | some x, some y => twoW L p x y | _, _ => 6) else 2
theorem BV {L : List Gr'} {p : Pf} : Bg L p = 0 ↔ Ct p = true ∧ ∃ x y, says p.a = some x ∧ says p.b = some y ∧ (x.room = y.room ∧ x.ep = y.ep ∧ x.ix = y.ix) ∧ x.sum ≠ y.sum ∧ BF L p.server x.ix p.a p.sigA = 0 ∧ BF L p.server x.ix p.b p.sigB = 0 := by
 unfold Bg
 constructor
 ·intro h
  split at h
  ·rename_i hr
   refine ⟨hr, ?_⟩
   cases hx : says p.a with
   | none => rw [hx] at h; simp at h
   | some x =>
     cases hy : says p.b with
     | none => rw [hx, hy] at h; simp at h
     | some y =>
       rw [hx, hy] at h
       simp only [twoW] at h
       split at h
       ·rename_i hp
        split at h
        ·cases h
        ·rename_i hs
         split at h
         ·rename_i hv
          exact ⟨x, y, rfl, rfl, hp, hs, hv, h⟩
         ·rename_i hv
          exact absurd h hv
       ·cases h
  ·cases h
 ·rintro ⟨hr, x, y, hx, hy, hp, hs, hv, hv2⟩
  rw [if_pos hr, hx, hy]
  simp only [twoW]
  rw [if_pos hp, if_neg hs, if_pos hv, hv2]
def Dp (p : Pf) : List (List UInt8) := [num p.server.toNat, p.a, p.sigA, p.b, p.sigB]
def EB (p : Pf) : List UInt8 := OctetS.list (Dp p)
theorem Ef {p : Pf} (h : Ct p = true) : fits (Dp p) = true := by
 obtain ⟨h0, h1, h2, h3, h4, h5⟩ := CX.1 h
 rw [Ca]
 refine ⟨by simp [Dp], fun t ht => ?_⟩
 have hn := num_server h0 h1
 simp only [Dp, List.mem_cons, List.not_mem_nil, or_false] at ht
 rcases ht with rfl | rfl | rfl | rfl | rfl <;> omega
theorem parse_bytes {p : Pf} (h : Ct p = true) : Cj (EB p) = some p := by
 obtain ⟨h0, h1, _⟩ := CX.1 h
 unfold Cj EB
 rw [Ie (Ef h)]
 simp only [if_true, Dp, D9]
 rw [E9 (by unfold Av; omega) (by omega)]
 have h2 : ((p.server.toNat : Nat) : Int) = p.server := by omega
 show some (⟨((p.server.toNat : Nat) : Int), p.a, p.sigA, p.b, p.sigB⟩ : Pf) = some p
 rw [h2]
end PfS
namespace PfA
open Go Go.RowKit Go.Shelf OctetS IdentS EntS OctP OctQ OctG IdentP EntP EventC ShaA Steps KeyA TreeA WireS WireT BookA BkF PfS
def pfOf (n : Int) (a x b y : ByteArray) : Pf := ⟨n, bl a, bl x, bl b, bl y⟩
theorem right_of (n : Int) (a x b y : ByteArray) : Ct (pfOf n a x b y) = (decide (0 ≤ n) && (decide (n ≤ 63) && (decide (a.size ≤ 8192) && (decide (x.size ≤ 8192) && (decide (b.size ≤ 8192) && decide (y.size ≤ 8192)))))) := by
 show (decide (0 ≤ n) && (decide (n ≤ 63) && (decide ((bl a).length ≤ 8192) && (decide ((bl x).length ≤ 8192) && (decide ((bl b).length ≤ 8192) && decide ((bl y).length ≤ 8192)))))) = _
 rw [AP, AP, AP, AP]
theorem hd_says (s : List UInt8) : ∃ (F : Array Value) (y : Int) (r : ByteArray) (ep ix : Int) (pv : List UInt8) (g : ByteArray), HdP F r ep ix pv g ∧ hdV (says s) = .tuple #[.agg F, .int .i64 y] ∧ F.all (·.oneCell') = true := by
 cases hx : says s with
 | none => exact ⟨hdZ, 6, ⟨#[]⟩, 0, 0, Cc, ⟨#[]⟩, ⟨rfl, rfl⟩, rfl, BI _ _ _ _ _⟩
 | some x => exact ⟨_, 0, bsOf x.room, x.ep, x.ix, x.sum, bsOf x.sig, ⟨rfl, (GM hx).2.1⟩, rfl, BI _ _ _ _ _⟩
theorem G8 (w : World) (s : ByteArray) (hs : s.size ≤ 140737488351232) (hv : Ag w) (hk : Al w) : Calls Tryz.prog 7 #[.string s] w (RB (hdV (says (bl s))) w) := by
 obtain ⟨F, y, r, ep, ix, pv, g, hFP, hF, hFo⟩ := hd_says (bl s)
 rw [hF]
 have HFS := lh (show (Tryz.prog.info? 29).map (·.size) = some F.size by rw [hFP.size]; kernel_rfl)
 have HFN := lh (show 36 = F.size from hFP.size.symm)
 have HFO := lh hFo
 obtain ⟨Z, hZ⟩ := nXe (zl2)
 have HLIT : Hid (zq2 Z) := lh hZ.symm
 have HZN : Hid (Z.size = 36) := lh (by rw [hZ]; rfl)
 obtain ⟨w0, hw0⟩ := nXe (w.alloc (.cells Z 29))
 have hb0 : Below w.heap.size w w0 := by rw [hw0]; exact bAx
 have HX0 := lh (show w0.heap[w.heap.size]? = some (.cells Z 29 (0, 0)) by rw [hw0]; exact AL _ _)
 obtain ⟨HBL0, HW0, HV, HK⟩ := l4h hb0 hw0 hv hk
 cases hr : WireS.read (bl s) with
 | none =>
   obtain ⟨E, hE⟩ := nXe (entZ)
   have hEn : E.size = 37 := by rw [hE]; rfl
   have hEo : E.all (·.oneCell') = true := by rw [hE]; exact BM _ _ _ _ _ _
   have hR : ∀ w, Ag w → Calls Tryz.prog 22 #[.string s] w (RB (.tuple #[.agg E, .int .i64 6]) w) := fun w hv => by
    have := WireB.Eb w s hs hv
    rw [hr] at this
    rw [hE]
    exact this
   have hN : ∀ w, Ag w → Calls Tryz.prog 23 #[.string s] w (RB (.tuple #[.agg F, .int .i64 y]) w) := fun w hv => by
    have := WireC.Eb w s hs hv
    rw [show Cn (bl s) = says (bl s) by unfold says; rw [hr], hF] at this
    exact this
   clear hE
   have HES := lh (show (Tryz.prog.info? 51).map (·.size) = some E.size by rw [hEn]; kernel_rfl)
   have HEN := lh (show 37 = E.size from hEn.symm)
   obtain ⟨HEO, HR, HN⟩ := l3h hEo hR hN
   clear hR hN hEn hEo hFP hF hFo hZ hw0 hb0 hs hv hk hr
   go_enter func7, ntmps7
   go_wp2_with fail
   rw [HLIT.out, ← HW0.out]
   refine (HR.out w0 (HV.out.below HBL0.out)).mono ?_
   rintro e' w1 ⟨rfl, hb⟩
   have HX1 := kpB hb HX0
   have HBL1 := tbB HBL0 hb
   clear hb
   go_wp2_with (first | (refine AC rfl _ _ _ rfl w1.heap.size E rfl rfl _ _ (AL _ _) HES.out (by rw [← HEN.out]; rfl) HEO.out ?_) | fail)
   intro u hu
   obtain ⟨w2, hw2⟩ := nXe (u)
   rw [← hw2] at hu ⊢
   clear hw2
   have hb : Below w1.heap.size w1 w2 := by rw [hu.out]; exact AQ bAx nR _
   have HE2 := lh (show w2.heap[w1.heap.size]? = some (.cells E 51 (0, 0)) by rw [hu.out]; exact AR (AL _ _))
   obtain ⟨BE, hBE⟩ := nXe (w1.heap.size)
   rw [← hBE] at HE2 ⊢
   have HX2 := kpB hb HX1
   have HBL2 := tbB HBL1 hb
   clear hb hu hBE
   go_wp2_with fail
   refine (HN.out w2 (HV.out.below HBL2.out)).mono ?_
   rintro e' w3 ⟨rfl, hb⟩
   have HX3 := kpB hb HX2
   have HBL3 := tbB HBL2 hb
   clear hb
   go_wp2_with (first | (refine AC rfl _ _ _ rfl w.heap.size F rfl rfl _ _ HX3.out HFS.out (by rw [HZN.out]; exact HFN.out) HFO.out ?_) | fail)
   intro wf hwf
   go_wp2
   refine bodyPost_ret (v := .tuple #[.agg F, .int .i64 y]) (WireT.AV rfl _ _ w.heap.size 29 F (0, 0) _ rfl (by rw [hwf.out]; exact AR HX3.out) underlying29 rfl HFS.out rfl) rfl ⟨rfl, by rw [hwf.out]; exact AQ HBL3.out nR _⟩
 | some e =>
   obtain ⟨hRt, hpl, hsg, htx⟩ := EntB.IM hr
   obtain ⟨E, hE⟩ := nXe (entA (bsOf e.room) e.ep e.ix e.prev (bsOf e.ev) (bsOf e.sig))
   have hEP : EntP E (bsOf e.room) e.ep e.ix e.prev (bsOf e.ev) (bsOf e.sig) := ⟨hE, hpl⟩
   have hEn : E.size = 37 := hEP.size
   have hEo : E.all (·.oneCell') = true := by rw [hE]; exact BM _ _ _ _ _ _
   have hent : Bc (bsOf e.room) e.ep e.ix e.prev (bsOf e.ev) (bsOf e.sig) = e := by
    unfold Bc
    rw [AU, AU, AU]
   have hchk : EntS.A9 e = true := EntS.BV.2 hRt
   have hsy : says (bl s) = some (ofE e) := by unfold says; rw [hr]
   rw [hsy] at hF
   have hy : y = 0 ∧ F = HdT.ofA (bsOf e.room) e.ep e.ix e := by
    have h1 : hdV (some (ofE e)) = .tuple #[.agg (HdT.ofA (bsOf e.room) e.ep e.ix e), .int .i64 0] := by
        unfold HdT.ofA
        rw [if_pos hchk]
        show Value.tuple #[.agg (hdA (bsOf e.room) e.ep e.ix (ShaS.sum (EntS.text e)) (bsOf [])), .int .i64 0] = _
        rw [show (EntX.sumE e).l = ShaS.sum (EntS.text e) by unfold EntX.sumE; first | rfl | (rw [if_pos hchk]; rfl)]
        rfl
    rw [h1] at hF
    injection hF with hF
    have h2 := congrArg (·[0]?) hF
    have h3 := congrArg (·[1]?) hF
    simp at h2 h3
    exact ⟨h3.symm, h2.symm⟩
   obtain ⟨rfl, hyF⟩ := hy
   have hroom := IdentS.Du hRt.room
   have hev := hRt.ev
   have hsig := hRt.sig
   have hR : ∀ w, Ag w → Calls Tryz.prog 22 #[.string s] w (RB (.tuple #[.agg E, .int .i64 0]) w) := fun w hv => by
    have := WireB.Eb w s hs hv
    rw [hr] at this
    rw [hE]
    exact this
   have hN : ∀ w, Ag w → Al w → Calls Tryz.prog 24 #[.agg E] w (RB (.tuple #[.agg F, .int .i64 0]) w) := fun w hv hk => by
    have := HdT.P_Of w E (bsOf e.room) e.ep e.ix e.prev (bsOf e.ev) (bsOf e.sig) hEP hv hk (by rw [AY]; omega) (by rw [AY]; unfold maxLen; omega) (by rw [AY]; unfold maxLen; omega)
    rw [hent, hchk, ← hyF] at this
    exact this
   clear hE hEP hent hchk hsy hyF hroom hev hsig hRt hpl hsg htx
   have HES := lh (show (Tryz.prog.info? 51).map (·.size) = some E.size by rw [hEn]; kernel_rfl)
   have HEN := lh (show 37 = E.size from hEn.symm)
   obtain ⟨HEO, HR, HN⟩ := l3h hEo hR hN
   clear hR hN hEn hEo hFP hF hFo hZ hw0 hb0 hs hv hk hr
   go_enter func7, ntmps7
   go_wp2_with fail
   rw [HLIT.out, ← HW0.out]
   refine (HR.out w0 (HV.out.below HBL0.out)).mono ?_
   rintro e' w1 ⟨rfl, hb⟩
   have HX1 := kpB hb HX0
   have HBL1 := tbB HBL0 hb
   clear hb
   go_wp2_with (first | (refine AC rfl _ _ _ rfl w1.heap.size E rfl rfl _ _ (AL _ _) HES.out (by rw [← HEN.out]; rfl) HEO.out ?_) | fail)
   intro u hu
   obtain ⟨w2, hw2⟩ := nXe (u)
   rw [← hw2] at hu ⊢
   clear hw2
   have hb : Below w1.heap.size w1 w2 := by rw [hu.out]; exact AQ bAx nR _
   have HE2 := lh (show w2.heap[w1.heap.size]? = some (.cells E 51 (0, 0)) by rw [hu.out]; exact AR (AL _ _))
   obtain ⟨BE, hBE⟩ := nXe (w1.heap.size)
   rw [← hBE] at HE2 ⊢
   have HX2 := kpB hb HX1
   have HBL2 := tbB HBL1 hb
   clear hb hu hBE
   go_wp2_with (first | (refine wpList_load_row rfl _ _ rfl BE rfl _ E (0, 0) _ HE2.out underlying51 rfl HES.out ?_) | fail)
   refine (HN.out w2 (HV.out.below HBL2.out) (HK.out.below HBL2.out)).mono ?_
   rintro e' w3 ⟨rfl, hb⟩
   have HX3 := kpB hb HX2
   have HBL3 := tbB HBL2 hb
   clear hb
   go_wp2_with (first | (refine AC rfl _ _ _ rfl w.heap.size F rfl rfl _ _ HX3.out HFS.out (by rw [HZN.out]; exact HFN.out) HFO.out ?_) | fail)
   intro wf hwf
   go_wp2
   refine bodyPost_ret (v := .tuple #[.agg F, .int .i64 0]) (WireT.AV rfl _ _ w.heap.size 29 F (0, 0) _ rfl (by rw [hwf.out]; exact AR HX3.out) underlying29 rfl HFS.out rfl) rfl ⟨rfl, by rw [hwf.out]; exact AQ HBL3.out nR _⟩
theorem P_right (w : World) (p : Array Value) (n : Int) (a x b y : ByteArray) (hp : p = pfA n a x b y) (ha : a.size ≤ 140737488351232) (hx : x.size ≤ maxLen) (hb' : b.size ≤ maxLen) (hy : y.size ≤ maxLen) :
 Calls Tryz.prog 28 #[.agg p] w (RB (.bool (Ct (pfOf n a x b y))) w) := by
 rw [right_of]
 have p0 : p[0]? = some (.int .i64 n) := by rw [hp]; rfl
 have p1 : p[1]? = some (.string a) := by rw [hp]; rfl
 have p2 : p[2]? = some (.string x) := by rw [hp]; rfl
 have p3 : p[3]? = some (.string b) := by rw [hp]; rfl
 have p4 : p[4]? = some (.string y) := by rw [hp]; rfl
 have HpS := lh (show (Tryz.prog.info? 24).map (·.size) = some p.size by rw [hp]; kernel_rfl)
 obtain ⟨w0, hw0⟩ := nXe (w.alloc (.cells p 24))
 have hb0 : Below w.heap.size w w0 := by rw [hw0]; exact bAx
 have hx0 : w0.heap[w.heap.size]? = some (.cells p 24 (0, 0)) := by rw [hw0]; exact AL _ _
 obtain ⟨HX0, HBL0, HW0⟩ := l3h hx0 hb0 hw0
 unfold maxLen at hx hb' hy
 have hxe : (w.alloc (.cells p 24)).heap[w.heap.size]? = some (.cells p 24 (0, 0)) := AL _ _
 have c0 : (w.alloc (.cells p 24)).cell? ⟨w.heap.size, 0, none⟩ = some (.int .i64 n) := (AO hxe).trans p0
 have c1 : (w.alloc (.cells p 24)).cell? ⟨w.heap.size, 1, none⟩ = some (.string a) := (AO hxe).trans p1
 have c2 : (w.alloc (.cells p 24)).cell? ⟨w.heap.size, 2, none⟩ = some (.string x) := (AO hxe).trans p2
 have c3 : (w.alloc (.cells p 24)).cell? ⟨w.heap.size, 3, none⟩ = some (.string b) := (AO hxe).trans p3
 have c4 : (w.alloc (.cells p 24)).cell? ⟨w.heap.size, 4, none⟩ = some (.string y) := (AO hxe).trans p4
 have hbe : Below w.heap.size w (w.alloc (.cells p 24)) := bAx
 have HBE := lh hbe
 clear hxe hbe HX0 HBL0 HW0 p1 p2 p3 p4
 obtain ⟨M, hM⟩ : ∃ M : Int, M = max (max (max (a.size : Int) x.size) b.size) y.size := ⟨_, rfl⟩
 have hMle : decide (M ≤ 8192) = (decide (a.size ≤ 8192) && (decide (x.size ≤ 8192) && (decide (b.size ≤ 8192) && decide (y.size ≤ 8192)))) := by
  rw [hM, Bool.eq_iff_iff]
  simp only [Bool.and_eq_true, decide_eq_true_eq]
  omega
 rw [← hMle]
 have hmax : (if (y.size : Int) > (if (b.size : Int) > (if (x.size : Int) > (a.size : Int) then (x.size : Int) else (a.size : Int)) then (b.size : Int) else (if (x.size : Int) > (a.size : Int) then (x.size : Int) else (a.size : Int))) then (y.size : Int) else (if (b.size : Int) > (if (x.size : Int) > (a.size : Int) then (x.size : Int) else (a.size : Int)) then (b.size : Int) else (if (x.size : Int) > (a.size : Int) then (x.size : Int) else (a.size : Int)))) = M := by
  rw [hM]
  repeat' split
  all_goals omega
 have hrun : (Builtin.max_ #[3, 3, 3, 3] 3 #[.int .i64 (a.size : Int), .int .i64 (x.size : Int), .int .i64 (b.size : Int), .int .i64 (y.size : Int)]).run Tryz.prog (w.alloc (.cells p 24)) = .ok (.int .i64 M) (w.alloc (.cells p 24)) := by
  rw [← hmax]
  first | rfl | kernel_rfl
 have Hmax := lh hrun
 clear hrun
 clear hp hx0 hb0 hw0 hMle hmax hM
 by_cases h0 : 0 ≤ n
 ·rw [dT h0, Bool.true_and]
  have d0 : decide (0 ≤ n) = true := dT h0
  by_cases h1 : n ≤ 63
  ·rw [dT h1, Bool.true_and]
   have d1 : decide (n ≤ 63) = true := dT h1
   go_enter func28, ntmps28
   go_wp2
   rw [Hmax.out]
   go_wp2
   go_ret
   exact ⟨rfl, HBE.out⟩
  ·rw [dF h1, Bool.false_and]
   have d1 : decide (n ≤ 63) = false := dF h1
   go_enter func28, ntmps28
   go_wp2
   rw [Hmax.out]
   go_wp2
   go_ret
   exact ⟨rfl, HBE.out⟩
 ·rw [dF h0, Bool.false_and]
  have d0 : decide (0 ≤ n) = false := dF h0
  go_enter func28, ntmps28
  go_wp2
  rw [Hmax.out]
  go_wp2
  go_ret
  exact ⟨rfl, HBE.out⟩
theorem Ik (w : World) (p : Array Value) (n : Int) (a x b y : ByteArray) (hp : p = pfA n a x b y) (ha : a.size ≤ 140737488351232) (hx : x.size ≤ maxLen) (hb' : b.size ≤ maxLen) (hy : y.size ≤ maxLen) :
 Calls Tryz.prog 9 #[.agg p] w (RB (.tuple #[.string (bsOf (if Ct (pfOf n a x b y) = true then EB (pfOf n a x b y) else [])), .int .i64 (if Ct (pfOf n a x b y) = true then 0 else 2)]) w) := by
 have hR := fun w => P_right w p n a x b y hp ha hx hb' hy
 have p0 : p[0]? = some (.int .i64 n) := by rw [hp]; rfl
 have p1 : p[1]? = some (.string a) := by rw [hp]; rfl
 have p2 : p[2]? = some (.string x) := by rw [hp]; rfl
 have p3 : p[3]? = some (.string b) := by rw [hp]; rfl
 have p4 : p[4]? = some (.string y) := by rw [hp]; rfl
 have HpS := lh (show (Tryz.prog.info? 24).map (·.size) = some p.size by rw [hp]; kernel_rfl)
 obtain ⟨w0, hw0⟩ := nXe (w.alloc (.cells p 24))
 have hb0 : Below w.heap.size w w0 := by rw [hw0]; exact bAx
 have hx0 : w0.heap[w.heap.size]? = some (.cells p 24 (0, 0)) := by rw [hw0]; exact AL _ _
 obtain ⟨HX0, HBL0, HW0⟩ := l3h hx0 hb0 hw0
 unfold maxLen at hx hb' hy
 cases hc : Ct (pfOf n a x b y)
 ·rw [hc] at hR
  simp only [Bool.false_eq_true, if_false]
  have HR := lh hR
  clear hR hc hp hb0 hw0
  go_enter func9, ntmps9
  go_wp2_with (first | (rw [← HW0.out]; refine wpList_load_row rfl _ _ rfl w.heap.size rfl _ p (0, 0) _ HX0.out underlying24 rfl HpS.out ?_) | fail)
  refine (HR.out w0).mono ?_
  rintro e' w1 ⟨rfl, hb⟩
  have HBL1 := tbB HBL0 hb
  clear hb
  go_wp2
  go_ret2
  exact ⟨rfl, HBL1.out⟩
 ·rw [hc] at hR
  simp only [if_true]
  have hfit := Ef hc
  obtain ⟨h0, h1, _⟩ := CX.1 hc
  obtain ⟨m, rfl⟩ : ∃ m : Nat, n = m := ⟨n.toNat, by simp only [pfOf] at h0; omega⟩
  simp only [pfOf] at h1
  have hparts : Dp (pfOf m a x b y) = [bsOf (num m), a, x, b, y].map bl := by
   simp [Dp, pfOf, AU]
  unfold EB
  rw [hparts] at hfit ⊢
  have hL := fun w v h => OctQ.Gd w v [bsOf (num m), a, x, b, y] h hfit
  have hN := fun w => OctP.EW w m (by unfold Av; omega)
  obtain ⟨out, hout⟩ := nXe (bsOf (OctetS.list ([bsOf (num m), a, x, b, y].map bl)))
  obtain ⟨n1, hn1⟩ := nXe (bsOf (num m))
  rw [← hn1] at hN
  rw [← hout]
  rw [← hout, ← hn1] at hL
  obtain ⟨HR, HN, HL⟩ := l3h hR hN hL
  have hu64 : IntKind.u64.wrap (m : Int) = (m : Int) := by rw [IntKind.wrap_u64]; omega
  clear hR hN hL hn1 hout hparts hfit hc hp hb0 hw0 h0
  go_enter func9, ntmps9
  go_wp2_with (first | (rw [← HW0.out]; refine wpList_load_row rfl _ _ rfl w.heap.size rfl _ p (0, 0) _ HX0.out underlying24 rfl HpS.out ?_) | fail)
  refine (HR.out w0).mono ?_
  rintro e' w1 ⟨rfl, hb⟩
  have hx1 := (hb.block _ (AB hx0)).trans hx0
  have HBL1 := tbB HBL0 hb
  clear hb
  have c0 : w1.cell? ⟨w.heap.size, 0, none⟩ = some (.int .i64 (m : Int)) := (AO hx1).trans p0
  go_wp2_with fail
  refine (HN.out w1).mono ?_
  rintro e' w2 ⟨rfl, hb⟩
  have hx2 := (hb.block _ (AB hx1)).trans hx1
  have HBL2 := tbB HBL1 hb
  clear hb c0
  have c1 : w2.cell? ⟨w.heap.size, 1, none⟩ = some (.string a) := (AO hx2).trans p1
  have c2 : w2.cell? ⟨w.heap.size, 2, none⟩ = some (.string x) := (AO hx2).trans p2
  have c3 : w2.cell? ⟨w.heap.size, 3, none⟩ = some (.string b) := (AO hx2).trans p3
  have c4 : w2.cell? ⟨w.heap.size, 4, none⟩ = some (.string y) := (AO hx2).trans p4
  go_wp2_with fail
  refine (HL.out _ _ (EventB.Dz (n := 5) (AL _ _) rfl (by simp [maxLen]))).mono ?_
  rintro e' w3 ⟨rfl, hb⟩
  have HBL3 := lh (HBL2.out.trans ((((Below.refl _ w2).alloc nR _).trans (hb.mono (by simp))).mono HBL2.out.size))
  clear hb
  go_wp2
  go_ret2
  exact ⟨rfl, HBL3.out⟩
end PfA
namespace EqHd
open Go Go.RowKit ShaB EqHash EqEnt WireT OctP
theorem ext_sum (r : ByteArray) (ep ix : Int) (pv : List UInt8) (s : ByteArray) (hp : pv.length = 32) : (hdA r ep ix pv s).extract 3 35 = pB 32 pv := by
 rw [← pB_of hp]
 unfold hdA
 have h1 : (byV pv).length = 32 := by rw [Ae, hp]
 rw [List.extract_toArray]
 congr 1
 rw [List.extract_eq_take_drop]
 simp [h1]
theorem fieldsHd (d : Nat) (r1 r2 s1 s2 : ByteArray) (a1 a2 b1 b2 : Int) (p1 p2 : List UInt8) (h1 : p1.length = 32) (h2 : p2.length = 32) (w : World) :
 (Op.eqFields (d + 2) (hdA r1 a1 b1 p1 s1) (hdA r2 a2 b2 p2 s2) [⟨"Room", 9, 0, false, "", "", 0⟩, ⟨"Epoch", 3, 1, false, "", "", 16⟩, ⟨"Index", 3, 2, false, "", "", 24⟩, ⟨"Sum", 27, 3, false, "", "", 32⟩, ⟨"Sig", 9, 35, false, "", "", 64⟩]).run Tryz.prog w =
 .ok (r1.toList == r2.toList && (a1 == a2 && (b1 == b2 && (hEq p1 p2 && s1.toList == s2.toList)))) w := by
 have u3 : Tryz.prog.underlying 3 = some (.int .i64) := by kernel_rfl
 have u9 : Tryz.prog.underlying 9 = some .string := by kernel_rfl
 have k3 : Tryz.prog.plainKey 3 = true := by kernel_rfl
 have k9 : Tryz.prog.plainKey 9 = true := by kernel_rfl
 have E1 : HdP (hdA r1 a1 b1 p1 s1) r1 a1 b1 p1 s1 := ⟨rfl, h1⟩
 have E2 : HdP (hdA r2 a2 b2 p2 s2) r2 a2 b2 p2 s2 := ⟨rfl, h2⟩
 have x1 := ext_sum r1 a1 b1 p1 s1 h1
 have x2 := ext_sum r2 a2 b2 p2 s2 h2
 obtain ⟨A, hA⟩ := nXe (hdA r1 a1 b1 p1 s1)
 obtain ⟨B, hB⟩ := nXe (hdA r2 a2 b2 p2 s2)
 rw [← hA] at E1 x1 ⊢
 rw [← hB] at E2 x2 ⊢
 have q0 := run_part_plain w k9 (off := 0) E1.c0
 have q0' := run_part_plain w k9 (off := 0) E2.c0
 have q1 := run_part_plain w k3 (off := 1) E1.c1
 have q1' := run_part_plain w k3 (off := 1) E2.c1
 have q2 := run_part_plain w k3 (off := 2) E1.c2
 have q2' := run_part_plain w k3 (off := 2) E2.c2
 have q3 := part_hash w A 3
 have q3' := part_hash w B 3
 have q5 := run_part_plain w k9 (off := 35) E1.c35
 have q5' := run_part_plain w k9 (off := 35) E2.c35
 rw [x1] at q3
 rw [x2] at q3'
 have z0 := run_equalIn_string (P := Tryz.prog) w (d + 1) 9 r1 r2 u9
 have z1 := run_equalIn_int (P := Tryz.prog) w (d + 1) 3 .i64 .i64 a1 a2 u3
 have z2 := run_equalIn_int (P := Tryz.prog) w (d + 1) 3 .i64 .i64 b1 b2 u3
 have z3 := eqHashD d p1 p2 w
 have z5 := run_equalIn_string (P := Tryz.prog) w (d + 1) 9 s1 s2 u9
 have h := F7 (f := ⟨"Room", 9, 0, false, "", "", 0⟩) (by decide) q0 q0' z0 (F7 (f := ⟨"Epoch", 3, 1, false, "", "", 16⟩) (by decide) q1 q1' z1 (F7 (f := ⟨"Index", 3, 2, false, "", "", 24⟩) (by decide) q2 q2' z2
  (F7 (f := ⟨"Sum", 27, 3, false, "", "", 32⟩) (by decide) q3 q3' z3 (F7 (f := ⟨"Sig", 9, 35, false, "", "", 64⟩) (by decide) q5 q5' z5 eqF_nil))))
 rw [Bool.and_true] at h
 exact h
theorem eqHd (r1 r2 s1 s2 : ByteArray) (a1 a2 b1 b2 : Int) (p1 p2 : List UInt8) (h1 : p1.length = 32) (h2 : p2.length = 32) (w : World) : (Op.equalIn 10000 29 (.agg (hdA r1 a1 b1 p1 s1)) (.agg (hdA r2 a2 b2 p2 s2))).run Tryz.prog w =
 .ok (r1.toList == r2.toList && (a1 == a2 && (b1 == b2 && (hEq p1 p2 && s1.toList == s2.toList)))) w := by
 have hS : Tryz.prog.underlying 29 = some (.struct (Tryz.prog.fieldsOf 29)) := by kernel_rfl
 have hF : (Tryz.prog.fieldsOf 29).toList = [⟨"Room", 9, 0, false, "", "", 0⟩, ⟨"Epoch", 3, 1, false, "", "", 16⟩, ⟨"Index", 3, 2, false, "", "", 24⟩, ⟨"Sum", 27, 3, false, "", "", 32⟩, ⟨"Sig", 9, 35, false, "", "", 64⟩] := by kernel_rfl
 have hp : Tryz.prog.stoodInHeld 29 = false := by kernel_rfl
 have h := fieldsHd 9997 r1 r2 s1 s2 a1 a2 b1 b2 p1 p2 h1 h2 w
 rw [← hF] at h
 rw [show (10000 : Nat) = 9999 + 1 from rfl, run_equalIn_agg w 9999 29 _ _ hS hp]
 exact h
theorem guardHd : Go.Program.eqGuardType Tryz.prog Tryz.prog.depth 29 = false := by kernel_rfl
end EqHd
namespace PfC
open Go Go.RowKit Go.Shelf OctetS IdentS EntS OctP OctQ OctG IdentP EntP EventC ShaA Steps KeyA TreeA WireS WireT BookA BkF Lift PfS PfA
attribute [-go_sem] run_equalIn_agg
theorem IE (s : List UInt8) : ∃ (F : Array Value) (y : Int), hdV (says s) = .tuple #[.agg F, .int .i64 y] ∧ F.size = 36 ∧ F.all (·.oneCell') = true ∧ ((y = 6 ∧ says s = none) ∨ (y = 0 ∧ ∃ x, says s = some x ∧ F = hdA (bsOf x.room) x.ep x.ix x.sum ⟨#[]⟩ ∧ x.sum.length = 32 ∧ x.sig = [])) := by
 cases hx : says s with
 | none => exact ⟨hdZ, 6, rfl, rfl, BI _ _ _ _ _, .inl ⟨rfl, rfl⟩⟩
 | some x =>
   obtain ⟨_, hl, hsg⟩ := GM hx
   refine ⟨_, 0, rfl, DL hl, BI _ _ _ _ _, .inr ⟨rfl, x, rfl, ?_, hl, hsg⟩⟩
   rw [hsg]
   rfl
theorem room_eq (a b : List UInt8) : ((bsOf a).toList == (bsOf b).toList) = decide (a = b) := by
 by_cases h : a = b
 ·subst h
  simp
 ·rw [dF h]
  refine EH fun e => h ?_
  have := congrArg bl e
  rwa [AU, AU] at this
theorem hd_eq (r1 r2 : List UInt8) (a1 a2 b1 b2 : Int) (p1 p2 : List UInt8) (h1 : p1.length = 32) (h2 : p2.length = 32) (w : World) : (Op.equalIn 10000 29 (.agg (hdA (bsOf r1) a1 b1 p1 ⟨#[]⟩)) (.agg (hdA (bsOf r2) a2 b2 p2 ⟨#[]⟩))).run Tryz.prog w = .ok (decide (r1 = r2 ∧ a1 = a2 ∧ b1 = b2 ∧ p1 = p2)) w := by
 rw [EqHd.eqHd _ _ _ _ _ _ _ _ _ _ h1 h2, room_eq]
 have h : EqHash.hEq p1 p2 = decide (p1 = p2) := by
  rw [Bool.eq_iff_iff, EqHash.hEq_iff h1 h2]
  simp
 rw [h]
 congr 1
 rw [Bool.eq_iff_iff]
 simp
theorem hd_eq1 (r1 r2 : List UInt8) (a1 a2 b1 b2 : Int) (p1 : List UInt8) (h1 : p1.length = 32) (w : World) : (Op.equalIn 10000 29 (.agg (hdA (bsOf r1) a1 b1 p1 ⟨#[]⟩)) (.agg (hdA (bsOf r2) a2 b2 p1 ⟨#[]⟩))).run Tryz.prog w = .ok (decide (r1 = r2 ∧ a1 = a2 ∧ b1 = b2)) w := by
 rw [hd_eq _ _ _ _ _ _ _ _ h1 h1]
 congr 1
 rw [Bool.eq_iff_iff]
 simp
theorem hd_setsum {w : World} {g : Nat} {r : ByteArray} {ep ix : Int} {z pv : List UInt8} {s : ByteArray} {t : TypeId} (hz : z.length = 32) (hp : pv.length = 32) (h : w.heap[g]? = some (.cells (hdA r ep ix z s) t (0, 0))) :
 (w.setCells g 3 (byV pv)).heap[g]? = some (.cells (hdA r ep ix pv s) t (0, 0)) := by
 obtain ⟨cs, h1, h2, h3, h4, h5⟩ := DK (byV pv) 3 w _ h
 rw [h1]
 congr 2
 have hl : (byV pv).length = 32 := by rw [Ae, hp]
 have hP : HdP (hdA r ep ix pv s) r ep ix pv s := ⟨rfl, hp⟩
 have hZ : HdP (hdA r ep ix z s) r ep ix z s := ⟨rfl, hz⟩
 refine Array.ext_getElem? fun j => ?_
 rcases Nat.lt_or_ge j 3 with hj | hj
 ·rw [h3 j hj]
  match j, hj with
  | 0, _ => rw [hP.c0, hZ.c0]
  | 1, _ => rw [hP.c1, hZ.c1]
  | 2, _ => rw [hP.c2, hZ.c2]
 ·obtain ⟨k, rfl⟩ : ∃ k, j = 3 + k := ⟨j - 3, by omega⟩
  rcases Nat.lt_or_ge k 32 with hk | hk
  ·rw [h4 (by rw [hl, hZ.size]; omega) k (by omega)]
   obtain ⟨u, hu⟩ : ∃ u, (byV pv)[k]? = some u := ⟨_, List.getElem?_eq_getElem (by omega)⟩
   rw [hP.cp k u hu, hu]
  ·rw [h5 _ (by rw [hl]; omega)]
   rcases Nat.lt_or_ge k 33 with hk2 | hk2
   ·obtain rfl : k = 32 := by omega
    rw [show 3 + 32 = 35 from rfl, hP.c35, hZ.c35]
   ·rw [Array.getElem?_eq_none (by rw [hZ.size]; omega), Array.getElem?_eq_none (by rw [hP.size]; omega)]
theorem Ew (w : World) (p : Array Value) (n : Int) (a x b y : ByteArray) (hp : p = pfA n a x b y) (ha : a.size ≤ 140737488351232) (hx : x.size ≤ maxLen) (hb' : b.size ≤ maxLen) (hy : y.size ≤ maxLen) (v : Value) (L : List Gr') (hL : Sl w v 36 L.length (L.flatMap Gr'.cs)) (hv : Ag w) (hk : Al w) :
 Calls Tryz.prog 13 #[v, .agg p] w (RB (.int .i64 (Bg L (pfOf n a x b y))) w) := by
 have hR := fun w => P_right w p n a x b y hp ha hx hb' hy
 have p0 : p[0]? = some (.int .i64 n) := by rw [hp]; rfl
 have p1 : p[1]? = some (.string a) := by rw [hp]; rfl
 have p2 : p[2]? = some (.string x) := by rw [hp]; rfl
 have p3 : p[3]? = some (.string b) := by rw [hp]; rfl
 have p4 : p[4]? = some (.string y) := by rw [hp]; rfl
 have HpS := lh (show (Tryz.prog.info? 24).map (·.size) = some p.size by rw [hp]; kernel_rfl)
 obtain ⟨w0, hw0⟩ := nXe (w.alloc (.cells p 24))
 have hb0 : Below w.heap.size w w0 := by rw [hw0]; exact bAx
 have hx0 : w0.heap[w.heap.size]? = some (.cells p 24 (0, 0)) := by rw [hw0]; exact AL _ _
 obtain ⟨HX0, HBL0, HW0⟩ := l3h hx0 hb0 hw0
 unfold maxLen at hx hb' hy
 cases hc : Ct (pfOf n a x b y)
 ·rw [hc] at hR
  unfold Bg
  rw [hc, if_neg (by simp)]
  have HR := lh hR
  clear hR hc hp hb0 hw0
  go_enter func13, ntmps13
  go_wp2_with (first | (rw [← HW0.out]; refine wpList_load_row rfl _ _ rfl w.heap.size rfl _ p (0, 0) _ HX0.out underlying24 rfl HpS.out ?_) | fail)
  refine (HR.out w0).mono ?_
  rintro e' w1 ⟨rfl, hb⟩
  have HBL1 := tbB HBL0 hb
  clear hb
  go_wp2
  go_ret
  exact ⟨rfl, HBL1.out⟩
 ·rw [hc] at hR
  obtain ⟨_, _, ha2, hx2, hb2, hy2⟩ := CX.1 hc
  have hchk : Bg L (pfOf n a x b y) = (match says (bl a), says (bl b) with | some h1, some h2 => twoW L (pfOf n a x b y) h1 h2 | _, _ => 6) := by
   unfold Bg
   rw [hc, if_pos rfl]
   rfl
  simp only [pfOf, AP] at ha2 hx2 hb2 hy2
  obtain ⟨F1, y1, hF1, hF1n, hF1o, hc1⟩ := IE (bl a)
  obtain ⟨F2, y2, hF2, hF2n, hF2o, hc2⟩ := IE (bl b)
  have hA := fun w hv hk => G8 w a (by omega) hv hk
  have hB := fun w hv hk => G8 w b (by omega) hv hk
  rw [hF1] at hA
  rw [hF2] at hB
  have hV1 := fun w (at' : Int) (hL : Sl w v 36 L.length (L.flatMap Gr'.cs)) (hk : Al w) => BkF.Ga w v L n at' a x hL (by omega) (by unfold maxLen; omega) hk
  have hV2 := fun w (at' : Int) (hL : Sl w v 36 L.length (L.flatMap Gr'.cs)) (hk : Al w) => BkF.Ga w v L n at' b y hL (by omega) (by unfold maxLen; omega) hk
  obtain ⟨RES, hRES⟩ := nXe (Bg L (pfOf n a x b y))
  rw [← hRES]
  have HRES := lh hRES
  clear hRES
  obtain ⟨HR, HA, HB⟩ := l3h hR hA hB
  have HF1S := lh (show (Tryz.prog.info? 29).map (·.size) = some F1.size by rw [hF1n]; kernel_rfl)
  have HF2S := lh (show (Tryz.prog.info? 29).map (·.size) = some F2.size by rw [hF2n]; kernel_rfl)
  have HF1N := lh (show 36 = F1.size from hF1n.symm)
  have HF2N := lh (show 36 = F2.size from hF2n.symm)
  obtain ⟨HF1O, HF2O, HV, HK, HSL, HV1, HV2, HCK, HC1⟩ := l9h hF1o hF2o hv hk hL hV1 hV2 hchk hc1
  have HC2 := lh hc2
  clear hR hA hB hF1 hF2 hF1n hF2n hF1o hF2o hc hp hb0 hw0 hv hk hL hV1 hV2 hchk hc1 hc2 ha hx hb' hy ha2 hx2 hb2 hy2
  go_enter func13, ntmps13
  go_wp2_with (first | (rw [← HW0.out]; refine wpList_load_row rfl _ _ rfl w.heap.size rfl _ p (0, 0) _ HX0.out underlying24 rfl HpS.out ?_) | fail)
  refine (HR.out w0).mono ?_
  rintro e' w1 ⟨rfl, hb⟩
  have HX1 := kpB hb HX0
  have HBL1 := tbB HBL0 hb
  clear hb
  have c1 : w1.cell? ⟨w.heap.size, 1, none⟩ = some (.string a) := (AO HX1.out).trans p1
  go_wp2_with fail
  refine (HA.out w1 (HV.out.below HBL1.out) (HK.out.below HBL1.out)).mono ?_
  rintro e' w2 ⟨rfl, hb⟩
  have HX2 := kpB hb HX1
  have HBL2 := tbB HBL1 hb
  clear hb c1
  go_wp2_with (first | (refine AC rfl _ _ _ rfl w2.heap.size F1 rfl rfl _ _ (AL _ _) HF1S.out (by rw [← HF1N.out]; rfl) HF1O.out ?_) | fail)
  intro u hu
  obtain ⟨w3, hw3⟩ := nXe (u)
  rw [← hw3] at hu ⊢
  clear hw3
  have hb : Below w2.heap.size w2 w3 := by rw [hu.out]; exact AQ bAx nR _
  have HY3 := lh (show w3.heap[w2.heap.size]? = some (.cells F1 29 (0, 0)) by rw [hu.out]; exact AR (AL _ _))
  obtain ⟨B1, hB1⟩ := nXe (w2.heap.size)
  rw [← hB1] at HY3 ⊢
  have HX3 := kpB hb HX2
  have HBL3 := tbB HBL2 hb
  clear hb hu hB1
  have c3 : w3.cell? ⟨w.heap.size, 3, none⟩ = some (.string b) := (AO HX3.out).trans p3
  go_wp2_with fail
  refine (HB.out w3 (HV.out.below HBL3.out) (HK.out.below HBL3.out)).mono ?_
  rintro e' w4 ⟨rfl, hb⟩
  have HX4 := kpB hb HX3
  have HY4 := kpB hb HY3
  have HBL4 := tbB HBL3 hb
  clear hb c3
  go_wp2_with (first | (refine AC rfl _ _ _ rfl w4.heap.size F2 rfl rfl _ _ (AL _ _) HF2S.out (by rw [← HF2N.out]; rfl) HF2O.out ?_) | fail)
  intro u hu
  obtain ⟨w5, hw5⟩ := nXe (u)
  rw [← hw5] at hu ⊢
  clear hw5
  have hb : Below w4.heap.size w4 w5 := by rw [hu.out]; exact AQ bAx nR _
  have HZ5 := lh (show w5.heap[w4.heap.size]? = some (.cells F2 29 (0, 0)) by rw [hu.out]; exact AR (AL _ _))
  obtain ⟨B2, hB2⟩ := nXe (w4.heap.size)
  have hB12 : B1 < B2 := by rw [hB2]; exact AB HY4.out
  have hB20 : w.heap.size ≤ B2 := by rw [hB2]; exact HBL4.out.size
  rw [← hB2] at HZ5 ⊢
  have HX5 := kpB hb HX4
  have HY5 := kpB hb HY4
  have HBL5 := tbB HBL4 hb
  clear hb hu hB2
  rcases HC1.out with ⟨rfl, hs1⟩ | ⟨rfl, h1, hs1, hF1, hl1, hg1⟩
  ·obtain rfl : RES = 6 := by rw [HRES.out, HCK.out, hs1]
   go_wp2
   go_ret
   exact ⟨rfl, HBL5.out⟩
  rcases HC2.out with ⟨rfl, hs2⟩ | ⟨rfl, h2, hs2, hF2, hl2, hg2⟩
  ·obtain rfl : RES = 6 := by rw [HRES.out, HCK.out, hs1, hs2]
   go_wp2
   go_ret
   exact ⟨rfl, HBL5.out⟩
  have hres : RES = (if h1.room = h2.room ∧ h1.ep = h2.ep ∧ h1.ix = h2.ix then (if h1.sum = h2.sum then 4 else if BF L n h1.ix (bl a) (bl x) = 0 then BF L n h1.ix (bl b) (bl y) else BF L n h1.ix (bl a) (bl x)) else 13) := by
   rw [HRES.out, HCK.out, hs1, hs2]
   rfl
  obtain ⟨r1, hr1⟩ := nXe (h1.room)
  obtain ⟨e1, he1⟩ := nXe (h1.ep)
  obtain ⟨i1, hi1⟩ := nXe (h1.ix)
  obtain ⟨s1, hs1'⟩ : ∃ r, r = h1.sum := ⟨_, rfl⟩
  obtain ⟨r2, hr2⟩ := nXe (h2.room)
  obtain ⟨e2, he2⟩ := nXe (h2.ep)
  obtain ⟨i2, hi2⟩ := nXe (h2.ix)
  obtain ⟨s2, hs2'⟩ : ∃ r, r = h2.sum := ⟨_, rfl⟩
  rw [← hr1, ← he1, ← hi1, ← hs1'] at hF1 hres
  rw [← hr2, ← he2, ← hi2, ← hs2'] at hF2 hres
  rw [← hs1'] at hl1
  rw [← hs2'] at hl2
  clear hr1 he1 hi1 hs1' hr2 he2 hi2 hs2' hs1 hs2 hg1 hg2
  have hP1 : HdP F1 (bsOf r1) e1 i1 s1 ⟨#[]⟩ := ⟨hF1, hl1⟩
  have hP2 : HdP F2 (bsOf r2) e2 i2 s2 ⟨#[]⟩ := ⟨hF2, hl2⟩
  have HVA := lh (fun w hL hk => HV1.out w i1 hL hk)
  have HVB := lh (fun w hL hk => HV2.out w i1 hL hk)
  generalize BF L n i1 (bl a) (bl x) = V1 at HVA hres
  generalize BF L n i1 (bl b) (bl y) = V2 at HVB hres
  have HRE := lh hres
  clear hres HRES HV1 HV2 HA HB HR HC1 HC2 HCK
  have hq1 := fun w => hd_eq1 r1 r2 e1 e2 i1 i2 s1 hl1 w
  have hq2 := fun w => hd_eq r1 r2 e1 e2 i1 i2 s1 s2 hl1 hl2 w
  rw [← hF1] at hq1 hq2
  rw [← hF2] at hq2
  obtain ⟨O, hO⟩ := nXe (hdA (bsOf r2) e2 i2 s1 ⟨#[]⟩)
  rw [← hO] at hq1
  obtain ⟨HQ1, HQ2⟩ := l2h hq1 hq2
  clear hq1 hq2
  have HOS := lh (show (Tryz.prog.info? 29).map (·.size) = some O.size by rw [hO, DL hl1]; kernel_rfl)
  obtain ⟨C, hC⟩ : ∃ C : Array Value, C = (byV s1).toArray := ⟨_, rfl⟩
  have hCn : C.size = 32 := by rw [hC]; simp [Ae, hl1]
  have HCS := lh (show (Tryz.prog.info? 27).map (·.size) = some C.size by rw [hCn]; kernel_rfl)
  have HCO := lh (show C.all (·.oneCell') = true by rw [hC]; simp [byV, Value.oneCell'])
  have hCc : ∀ (W : World), W.heap[B1]? = some (.cells F1 29 (0, 0)) → ∀ (j : Nat) (u : Value), C.toList[j]? = some u → W.cell? ⟨B1, 3 + j, none⟩ = some u := fun W hW j u hu => by
   rw [hC] at hu
   rw [AO hW]
   exact hP1.cp j u hu
  have HCc := lh hCc
  have hset : ∀ (W : World) (g : Nat), W.heap[g]? = some (.cells F2 29 (0, 0)) → (W.setCells g 3 C.toList).heap[g]? = some (.cells O 29 (0, 0)) := fun W g hW => by
   rw [hC, hO]
   rw [hF2] at hW
   exact hd_setsum hl2 hl1 hW
  have hth : ∀ (W : World) (g : Nat), W.heap[g]? = some (.cells F2 29 (0, 0)) → W.there g 3 C.size := fun W g hW j hj => by
   rw [hCn] at hj
   refine ⟨?_, BK hW⟩
   rw [AO hW, Array.getElem?_eq_getElem (by rw [hP2.size]; omega)]
   rfl
  obtain ⟨Hset, Hth⟩ := l2h hset hth
  have c12 : F1[2]? = some (.int .i64 i1) := hP1.c2
  have hGH := EqHd.guardHd
  clear hC hCn hCc hset hth hF1 hF2 hO hl1 hl2 hP1 hP2
  go_wp2_with (first | (refine wpList_load_row rfl _ _ rfl B2 rfl _ F2 (0, 0) _ HZ5.out underlying29 rfl HF2S.out ?_) | (refine AC rfl _ _ _ rfl w5.heap.size F2 rfl rfl _ _ (AL _ _) HF2S.out (by rw [← HF2N.out]; rfl) HF2O.out ?_) | fail)
  intro u hu
  obtain ⟨w6, hw6⟩ := nXe (u)
  rw [← hw6] at hu ⊢
  clear hw6
  have hb : Below w5.heap.size w5 w6 := by rw [hu.out]; exact AQ bAx nR _
  have HO6 := lh (show w6.heap[w5.heap.size]? = some (.cells F2 29 (0, 0)) by rw [hu.out]; exact AR (AL _ _))
  obtain ⟨B3, hB3⟩ := nXe (w5.heap.size)
  have hB23 : B2 < B3 := by rw [hB3]; exact AB HZ5.out
  rw [← hB3] at HO6 ⊢
  have HX6 := kpB hb HX5
  have HY6 := kpB hb HY5
  have HZ6 := kpB hb HZ5
  have HBL6 := tbB HBL5 hb
  clear hb hu hB3
  obtain ⟨HCc6, Hth6⟩ := l2h (HCc.out w6 HY6.out) (Hth.out w6 B3 HO6.out)
  obtain ⟨w7, hw7⟩ := nXe (w6.setCells B3 3 C.toList)
  have hE7 : Ext (fun k => k = B3) w6 w7 := by rw [hw7]; exact Ext.setMany B3 _ 3 w6
  have HO7 := lh (show w7.heap[B3]? = some (.cells O 29 (0, 0)) by rw [hw7]; exact Hset.out w6 B3 HO6.out)
  have HY7 := lh (hE7.CS HY6.out (fun h => by omega))
  have HZ7 := lh (hE7.CS HZ6.out (fun h => by omega))
  have HX7 := lh (hE7.CS HX6.out (fun h => by omega))
  have HBL7 := lh (Bl.ext HBL6.out hE7 (fun k h1 h => by omega))
  have HW7 := lh hw7
  clear hE7 hw7
  have c02 : w7.cell? ⟨B1, 2, none⟩ = some (.int .i64 i1) := (AO HY7.out).trans c12
  have hres := HRE.out
  clear HRE
  by_cases hpl : r1 = r2 ∧ e1 = e2 ∧ i1 = i2
  ·have hd1 : decide (r1 = r2 ∧ e1 = e2 ∧ i1 = i2) = true := dT hpl
   rw [if_pos hpl] at hres
   by_cases hss : s1 = s2
   ·have hd2 : decide (r1 = r2 ∧ e1 = e2 ∧ i1 = i2 ∧ s1 = s2) = true := dT ⟨hpl.1, hpl.2.1, hpl.2.2, hss⟩
    rw [if_pos hss] at hres
    subst hres
    have hq1 := HQ1.out
    have hq2 := HQ2.out
    rw [hd1] at hq1
    rw [hd2] at hq2
    clear hd1 hd2 hpl hss HQ1 HQ2
    go_wp2_with (first | (refine Af rfl _ _ rfl B1 3 rfl C HCc6.out underlying27 rfl HCS.out ?_) | (refine wpList_store_mid rfl _ _ _ rfl B3 3 C rfl rfl Hth6.out HCS.out HCO.out ?_) | (rw [← HW7.out]; refine wpList_load_row rfl _ _ rfl B1 rfl _ F1 (0, 0) _ HY7.out underlying29 rfl HF1S.out ?_) | (refine wpList_load_row rfl _ _ rfl B1 rfl _ F1 (0, 0) _ HY7.out underlying29 rfl HF1S.out ?_) | (refine wpList_load_row rfl _ _ rfl B3 rfl _ O (0, 0) _ HO7.out underlying29 rfl HOS.out ?_) | (refine wpList_load_row rfl _ _ rfl B2 rfl _ F2 (0, 0) _ HZ7.out underlying29 rfl HF2S.out ?_) | fail)
    go_ret
    exact ⟨rfl, HBL7.out⟩
   ·have hd2 : decide (r1 = r2 ∧ e1 = e2 ∧ i1 = i2 ∧ s1 = s2) = false := dF (fun h => hss h.2.2.2)
    rw [if_neg hss] at hres
    have hq1 := HQ1.out
    have hq2 := HQ2.out
    rw [hd1] at hq1
    rw [hd2] at hq2
    clear hd1 hd2 hpl hss HQ1 HQ2
    have c0 : w7.cell? ⟨w.heap.size, 0, none⟩ = some (.int .i64 n) := (AO HX7.out).trans p0
    have c1 : w7.cell? ⟨w.heap.size, 1, none⟩ = some (.string a) := (AO HX7.out).trans p1
    have c2 : w7.cell? ⟨w.heap.size, 2, none⟩ = some (.string x) := (AO HX7.out).trans p2
    have HRE := lh hres
    clear hres
    go_wp2_with (first | (refine Af rfl _ _ rfl B1 3 rfl C HCc6.out underlying27 rfl HCS.out ?_) | (refine wpList_store_mid rfl _ _ _ rfl B3 3 C rfl rfl Hth6.out HCS.out HCO.out ?_) | (rw [← HW7.out]; refine wpList_load_row rfl _ _ rfl B1 rfl _ F1 (0, 0) _ HY7.out underlying29 rfl HF1S.out ?_) | (refine wpList_load_row rfl _ _ rfl B1 rfl _ F1 (0, 0) _ HY7.out underlying29 rfl HF1S.out ?_) | (refine wpList_load_row rfl _ _ rfl B3 rfl _ O (0, 0) _ HO7.out underlying29 rfl HOS.out ?_) | (refine wpList_load_row rfl _ _ rfl B2 rfl _ F2 (0, 0) _ HZ7.out underlying29 rfl HF2S.out ?_) | fail)
    refine (HVA.out w7 (HSL.out.below HBL7.out) (HK.out.below HBL7.out)).mono ?_
    rintro e' wa ⟨rfl, hb⟩
    have HXa := kpB hb HX7
    have HBLa := lh ((HBL7.out).trans (hb.mono (HBL7.out).size))
    clear hb c0 c1 c2 c02
    have hres := HRE.out
    clear HRE
    by_cases hv0 : V1 = 0
    ·rw [if_pos hv0] at hres
     subst hv0
     subst hres
     have c0 : wa.cell? ⟨w.heap.size, 0, none⟩ = some (.int .i64 n) := (AO HXa.out).trans p0
     have c3 : wa.cell? ⟨w.heap.size, 3, none⟩ = some (.string b) := (AO HXa.out).trans p3
     have c4 : wa.cell? ⟨w.heap.size, 4, none⟩ = some (.string y) := (AO HXa.out).trans p4
     go_wp2_with fail
     refine (HVB.out wa (HSL.out.below HBLa.out) (HK.out.below HBLa.out)).mono ?_
     rintro e' wb ⟨rfl, hb⟩
     have HBLb := tbB HBLa hb
     clear hb
     go_wp2
     go_ret
     exact ⟨rfl, HBLb.out⟩
    ·rw [if_neg hv0] at hres
     have hv1 : (V1 != 0) = true := by simpa using hv0
     have hv2 : (V1 == 0) = false := by simpa using hv0
     subst hres
     go_wp2
     go_ret
     exact ⟨rfl, HBLa.out⟩
  ·have hd1 : decide (r1 = r2 ∧ e1 = e2 ∧ i1 = i2) = false := dF hpl
   rw [if_neg hpl] at hres
   subst hres
   have hq1 := HQ1.out
   rw [hd1] at hq1
   clear hd1 hpl HQ1 HQ2
   go_wp2_with (first | (refine Af rfl _ _ rfl B1 3 rfl C HCc6.out underlying27 rfl HCS.out ?_) | (refine wpList_store_mid rfl _ _ _ rfl B3 3 C rfl rfl Hth6.out HCS.out HCO.out ?_) | (rw [← HW7.out]; refine wpList_load_row rfl _ _ rfl B1 rfl _ F1 (0, 0) _ HY7.out underlying29 rfl HF1S.out ?_) | (refine wpList_load_row rfl _ _ rfl B1 rfl _ F1 (0, 0) _ HY7.out underlying29 rfl HF1S.out ?_) | (refine wpList_load_row rfl _ _ rfl B3 rfl _ O (0, 0) _ HO7.out underlying29 rfl HOS.out ?_) | fail)
   go_ret
   exact ⟨rfl, HBL7.out⟩
end PfC
namespace HdK
open OctetS IdentS EntS KeyS KeyN NSha EntK WireS WireT
set_option maxRecDepth 100000
def sm : List UInt8 := ShaS.sum T5
def TH1 : List UInt8 := OctetS.list [CY, rm, num 1, num 5, sm]
def G : List UInt8 := Di [115] 1 0 TH1
end HdK
end Go.Proofs.YtadofbbpfgmclaaGreatDoor
