/-
  WHAT IS PROVED: contracts and plain laws. Condition: each names its own.
-/
import Derived.Test.YtceiajepcokacaaGreatDoorS0
import Derived.Test.YtceiajepcokacaaGreatDoorZHF10
import Derived.Test.YtceiajepcokacaaGreatDoorZHF11
set_option linter.unusedVariables false
set_option linter.unusedSimpArgs false
set_option maxRecDepth 100000
set_option maxHeartbeats 4000000
namespace Go.Proofs.YtceiajepcokacaaGreatDoor
open Go.Proofs.Tryz hiding parts
namespace EntX
open Go Go.RowKit Go.Shelf OctetS IdentS EntS OctP OctG IdentP EntP EventC EventP ShaA Steps KeyA TreeA
theorem Sz {t : List UInt8} (h : t.length ≤ 8192) : (OctetS.text t).length ≤ 8194 := by
 unfold OctetS.text
 have := OctetS.CV h
 rw [List.length_append]
 omega
theorem Nw : ∀ (l : List (List UInt8)), (∀ t ∈ l, t.length ≤ 8192) → (l.flatMap OctetS.text).length ≤ 8194 * l.length
 | [], _ => by simp
 | t :: r, h => by
   have h1 := Sz (h t (by simp))
   have h2 := Nw r (fun x hx => h x (by simp [hx]))
   simp only [List.flatMap_cons, List.length_append, List.length_cons]
   omega
theorem ent_len {e : Ent} (h : Right e) (hp : e.prev.length = 32) : (EntS.text e).length ≤ 100000 := by
 obtain ⟨h1, h2⟩ := Cq.1 (h.fits hp)
 have h3 := Nw _ h2
 have h4 : (EntS.parts e).length = 6 := rfl
 have h5 := OctetS.CV (n := 6) (by omega)
 unfold EntS.text OctetS.list
 rw [List.length_append, h4]
 rw [h4] at h3
 omega
def sumH (t : List UInt8) : H32 := KeyJ.U3 (ShaS.sum t) (ShaS.Bb t)
theorem sumH_A (t : List UInt8) : (sumH t).A = (byV (ShaS.sum t)).toArray := by
 unfold sumH
 exact KeyJ.Tg _ _
def sumE (e : Ent) : H32 := if BD e = true then sumH (EntS.text e) else CQ
theorem Ee (w : World) (p : Array Value) (r : ByteArray) (ep ix : Int) (pv : List UInt8) (e s : ByteArray) (hp : EntP p r ep ix pv e s) (hv : Am w) (hk : Au w) (hr : r.size ≤ 140737488351232) (he : e.size ≤ maxLen) (hs : s.size ≤ maxLen) :
 Calls Tryz.prog 52 #[.agg p] w (KeyA.RB (.tuple #[.agg (sumE (Bp r ep ix pv e s)).A, .int .i64 (CW (EntS.BD (Bp r ep ix pv e s)))]) w) := by
 have hT := fun w hv => DR w p r ep ix pv e s hp hv hr he hs
 unfold EntS.textOf at hT
 unfold sumE
 have hps := hp.size
 have hpi : (Tryz.prog.info? 81).map (·.size) = some 37 := by kernel_rfl
 rw [← hps] at hpi
 have HI := lh hpi
 obtain ⟨Z, hZ⟩ := nXe (CQ.A)
 have HLIT : Hid (zq0 Z) := lh (by rw [hZ]; unfold zq0; kernel_rfl)
 have HZN : Hid (Z.size = 32) := lh (by rw [hZ]; kernel_rfl)
 have HZS : Hid ((Tryz.prog.info? 44).map (·.size) = some Z.size) := lh (by rw [hZ]; exact H32.info _)
 have HZO : Hid (Z.all (·.oneCell') = true) := lh (by rw [hZ]; exact H32.one _)
 obtain ⟨w0, hw0⟩ := nXe ((w.alloc (.cells p 81)).alloc (.cells Z 44))
 have hb0 : Below w.heap.size w w0 := by rw [hw0]; exact ((Below.refl _ w).alloc nR _).alloc (by simp) _
 have HX0 := lh (show w0.heap[w.heap.size]? = some (.cells p 81 (0, 0)) by rw [hw0]; exact Ak (AL _ _) _)
 have HZ0 := lh (show w0.heap[w.heap.size + 1]? = some (.cells Z 44 (0, 0)) by rw [hw0]; exact Ad _ (by simp))
 obtain ⟨HBL0, HW0, HV0, HK0⟩ := l4h hb0 hw0 (hv.below hb0) (hk.below hb0)
 cases hchk : EntS.BD (Bp r ep ix pv e s)
 ·skip
  rw [hchk] at hT
  rw [if_neg (by simp), ← hZ]
  have HT := lh hT
  clear hT hchk hr he hs hp hb0 hv hk hw0 hZ hpi hps
  go_enter func52, ntmps52
  go_wp2_with (first | (rw [HLIT.out, ← HW0.out]; refine wpList_load_row rfl _ _ rfl w.heap.size rfl _ p (0, 0) _ HX0.out underlying81 rfl HI.out ?_) | fail)
  refine (HT.out w0 HV0.out).mono ?_
  rintro e' w1 ⟨rfl, hb⟩
  have HBL1 := tbB HBL0 hb
  have HZ1 := kpB hb HZ0
  clear hb
  unfold CW
  go_wp2_with (first | (refine AC rfl _ _ _ rfl (w.heap.size + 1) Z rfl (by rw [← HLIT.out]; rfl) _ _ HZ1.out HZS.out rfl HZO.out ?_) | fail)
  intro wf hwf
  go_wp2
  refine bodyPost_ret (v := .tuple #[.agg Z, .int .i64 2]) (WireT.AU rfl _ _ (w.heap.size + 1) 44 Z (0, 0) _ rfl (by rw [hwf.out]; exact AR HZ1.out) underlying44 rfl HZS.out rfl) rfl ⟨rfl, by rw [hwf.out]; exact AQ HBL1.out (by omega) _⟩
 ·skip
  rw [hchk] at hT
  rw [if_pos rfl] at hT ⊢
  have hR := EntS.Bw.1 hchk
  have hlen := ent_len hR hp.len
  obtain ⟨t, ht⟩ := nXe (EntS.text (Bp r ep ix pv e s))
  rw [← ht] at hT hlen ⊢
  obtain ⟨R, hRe⟩ := nXe ((sumH t).A)
  have HRS : Hid ((Tryz.prog.info? 44).map (·.size) = some R.size) := lh (by rw [hRe]; exact H32.info _)
  have HRN : Hid (Z.size = R.size) := lh (by rw [hRe, H32.size]; exact HZN.out)
  have HRO : Hid (R.all (·.oneCell') = true) := lh (by rw [hRe]; exact H32.one _)
  obtain ⟨Tb, hTb⟩ := nXe (bsOf t)
  rw [← hTb] at hT
  have hS := fun w hk => ShaM.Ee w Tb (by rw [hTb, AY]; omega) hk
  have hRR : (byV (ShaS.sum (bl Tb))).toArray = R := by rw [hTb, AV, hRe, sumH_A]
  rw [hRR] at hS
  rw [← hRe]
  obtain ⟨HT, HS⟩ := l2h hT hS
  clear hT hS hRR hRe hTb ht hlen hR hchk hr he hs hp hb0 hv hk hw0 hZ hpi hps
  go_enter func52, ntmps52
  go_wp2_with (first | (rw [HLIT.out, ← HW0.out]; refine wpList_load_row rfl _ _ rfl w.heap.size rfl _ p (0, 0) _ HX0.out underlying81 rfl HI.out ?_) | fail)
  refine (HT.out w0 HV0.out).mono ?_
  rintro e' w1 ⟨rfl, hb⟩
  have HBL1 := tbB HBL0 hb
  have HZ1 := kpB hb HZ0
  have HK1 := lh (HK0.out.below hb)
  clear hb
  unfold CW
  go_wp2_with fail
  refine (HS.out w1 HK1.out).mono ?_
  rintro e' w2 ⟨rfl, hb⟩
  have HBL2 := tbB HBL1 hb
  have HZ2 := kpB hb HZ1
  clear hb
  go_wp2_with (first | (refine AC rfl _ _ _ rfl (w.heap.size + 1) R rfl rfl _ _ HZ2.out HRS.out HRN.out HRO.out ?_) | fail)
  intro wf hwf
  go_wp2
  refine bodyPost_ret (v := .tuple #[.agg R, .int .i64 0]) (WireT.AU rfl _ _ (w.heap.size + 1) 44 R (0, 0) _ rfl (by rw [hwf.out]; exact AR HZ2.out) underlying44 rfl HRS.out rfl) rfl ⟨rfl, by rw [hwf.out]; exact AQ HBL2.out (by omega) _⟩
end EntX
namespace EntW
open Go Go.RowKit Go.Shelf OctetS IdentS EntS OctP OctG IdentP EntP EventC EventP ShaA Steps KeyA KeyS KeyK TreeA
theorem Nr (w : World) (g : Nat) (cs : Array Value) : w.grownBy (w.setRow g cs) (some g) :=
 ⟨rfl, rfl, rfl, by simp [World.setRow], fun k _ hk => setRow_other w g k cs (fun e => hk (by rw [e]))⟩
end EntW
namespace EqEnt
open Go Go.RowKit ShaB EqHash EntP OctP
theorem pB_of {l : List UInt8} (h : l.length = 32) : (byV l).toArray = pB 32 l := by
 unfold pB
 simp [h]
end EqEnt
namespace EntK
open OctetS IdentS EntS EntB KeyS KeyN NSha
set_option maxRecDepth 100000
def z32 : List UInt8 := List.replicate 32 0
def rm : List UInt8 := [33, 104, 97, 108, 108, 58, 48]
def T5 : List UInt8 := [6, 5, 101, 110, 116, 114, 121, 7, 33, 104, 97, 108, 108, 58, 48, 1, 1, 1, 5, 32, 0, 0, 0, 0, 0, 0, 0, 0, 0, 0, 0, 0, 0, 0, 0, 0, 0, 0, 0, 0, 0, 0, 0, 0, 0, 0, 0, 0, 0, 0, 0, 0, 1, 120]
def G : List UInt8 := Dq [115] 1 0 T5
theorem room0 : DF rm = true := by decide +kernel
end EntK
namespace EntL
open Go Go.RowKit Go.Shelf OctetS IdentS EntS OctG IdentP EntP EventC ShaA Steps KeyA KeyS KeyI KeyK TreeA EntK EntB BookA
def rB : ByteArray := bsOf rm
def nB : ByteArray := bsOf []
def sS : ByteArray := ⟨#[115]⟩
theorem TH : bl sS = [115] := rfl
theorem Us : rB.size ≤ 140737488351232 := by decide +kernel
theorem YW : nB.size ≤ maxLen := by decide +kernel
theorem X4 (w : World) (hk : Au w) : Calls Tryz.prog 15 #[.agg #[.string ⟨#[115]⟩, .int .i64 1, .int .i64 0]] w fun e w' => ∃ R v, e = .returned (.tuple #[.pointer (some ⟨R, 0, none⟩), .int .i64 0]) ∧ RingAt w w' R sS 1 0 v ∧ Below w.heap.size w w' :=
 UV w sS 1 0 (by decide) (by decide) (by decide) (by decide) hk
def gr : Gr' := ⟨2, 0, 9, 1, Ht [115] 1⟩
theorem R7 (ix : Int) (h0 : 0 ≤ ix) (h9 : ix ≤ 9) : Bo gr 2 ix = true := by
 unfold Bo gr
 simp [h0, h9]
theorem UD (ix : Int) : Bo gr 1 ix = false := by
 unfold Bo gr
 simp
theorem UM (l : List UInt8) : byV l = (NSha.bN l).map fun n => .int .u8 (n : Int) := by
 unfold byV NSha.bN
 rw [List.map_map]
 rfl
def TP : Array Value := ([1, 182, 6, 211, 135, 147, 53, 5, 245, 241, 205, 252, 197, 223, 231, 32, 130, 117, 182, 46, 173, 16, 191, 101, 209, 159, 7, 102, 245, 140, 192, 251].map fun n : Nat => Value.int .u8 (n : Int)).toArray
theorem Ws : (Ht [115] 1).A = TP := by
 unfold H32.A TP
 rw [Ot, UM, KeyN.TN]
end EntL
namespace EntQ
open Go Go.RowKit Go.Shelf OctetS IdentS EntS OctG IdentP EntP EventC ShaA Steps KeyA KeyS KeyI KeyK TreeA EntK EntB BookA EntL KeyG
attribute [-go_sem] run_equalIn_agg
theorem CF {P : Program} {ops : Array Oper} {rest : List Oper} {o : Oper} {a : Act} {w : World} {Q : Exit → Act → World → Prop} (hg : o.guard = none) (t : TypeId) (parts : Array (Nat × Operand)) (ho : o.op = .build t parts) (cells : Array Value)
 (hb : P.built t (parts.map fun (i, x) => (i, a.eval x)).toList = some cells) (h : wpList P ops Q rest (a.put o.dst (.agg cells)) w) : wpList P ops Q (o :: rest) a w :=
 wpList_build hg t parts ho (by rw [hb]; rfl) (by rw [hb]; exact h)
theorem UE (Z C : Array Value) (n : Nat) (hZ : Z.size = n) (hC : C.size = n) : Array.foldl (fun (cs : Array Value) x => cs.setIfInBounds x.snd x.fst) Z C.zipIdx 0 n = C := by
 have h1 : C.zipIdx.size = n := by simp [hC]
 rw [← h1, ← Array.foldl_toList, Array.toList_zipIdx, IV C.toList 0 _ (by simp [hC, hZ])]
 simp
theorem D5 {w : World} {b n : Nat} {cs : Array Value} {t : TypeId} {fr : Nat × Nat} (h : w.heap[b]? = some (.cells cs t fr)) (hn : cs.size = n) : Sl w (.slice (some ⟨b, 0, none⟩) 1 1) n 1 cs.toList :=
 ⟨by rw [Array.length_toList, hn, Nat.one_mul], .inr ⟨⟨b, 0, none⟩, 1, rfl, Nat.le_refl _, by unfold maxLen; omega, fun j u hu => by
  rw [Addr.add_mid, Nat.zero_add, AO h, ← hu]
  simp⟩⟩
theorem FI {w0 w w' : World} {R : Nat} {s : ByteArray} {h nx : Nat} {v : Value} (hr : RingAt w0 w R s h nx v) (hb : Below w.heap.size w w') : RingAt w0 w' R s h nx v :=
 ⟨(hb.block _ (AJ hr.row)).trans hr.row, hr.lv.ext (Ext.ofB hb) (fun _ _ h => h), hr.ge, hr.sep⟩
end EntQ
namespace HdS
open OctetS IdentS ShaS EntS WireS WireT
structure Right (e : Hd) : Prop where
 room : DF e.room = true
 ep0 : 0 ≤ e.ep
 ep1 : e.ep ≤ 4096
 ix0 : 0 ≤ e.ix
 ix1 : e.ix ≤ 4096
 sig : e.sig.length ≤ 8192
theorem Bw {e : Hd} : CS e = true ↔ Right e := by
 unfold CS
 simp only [Bool.and_eq_true, OV, decide_eq_true_eq]
 exact ⟨fun ⟨a, b, c, d⟩ => ⟨a, b.1, b.2, c.1, c.2, d⟩, fun h => ⟨h.room, ⟨h.ep0, h.ep1⟩, ⟨h.ix0, h.ix1⟩, h.sig⟩⟩
def parts (e : Hd) : List (List UInt8) := [CL, e.room, num e.ep.toNat, num e.ix.toNat, e.sum]
def text (e : Hd) : List UInt8 := OctetS.list (parts e)
def textOf (e : Hd) : List UInt8 := if CS e then text e else []
theorem Right.fits {e : Hd} (h : Right e) (hp : e.sum.length = 32) : fits (parts e) = true := by
 rw [Cq]
 refine ⟨by simp [parts], fun t ht => ?_⟩
 have hr := DV h.room
 have h1 := GK h.ep0 h.ep1
 have h2 := GK h.ix0 h.ix1
 simp only [parts, List.mem_cons, List.not_mem_nil, or_false] at ht
 rcases ht with rfl | rfl | rfl | rfl | rfl
 ·simp [CL]
 ·omega
 ·omega
 ·omega
 ·omega
theorem OP {e : Hd} (h : Right e) (hp : e.sum.length = 32) : Cc (text e) = some { e with sig := [] } := by
 unfold Cc HdS.text
 rw [all_list (h.fits hp)]
 simp only [if_true, HdS.parts, EM]
 rw [OO (by unfold BC; omega) (by have := h.ep0; have := h.ep1; omega), OO (by unfold BC; omega) (by have := h.ix0; have := h.ix1; omega)]
 simp only [Option.bind_some]
 rw [if_pos ⟨hp, h.room⟩]
 have h1 : ((e.ep.toNat : Nat) : Int) = e.ep := by have := h.ep0; omega
 have h2 : ((e.ix.toNat : Nat) : Int) = e.ix := by have := h.ix0; omega
 rw [h1, h2]
theorem IE {s : List UInt8} {e : Hd} (h : Cc s = some e) : Right e ∧ e.sum.length = 32 ∧ e.sig = [] ∧ text e = s := by
 unfold Cc at h
 split at h
 ·rename_i h0
  obtain ⟨l, y, ha⟩ : ∃ l y, all s = (l, y) := ⟨_, _, rfl⟩
  rw [ha] at h h0
  simp only at h h0
  subst h0
  obtain ⟨hfit, hlist⟩ := O9 ha
  match l, h with
  | [k, r, a, b, p], h =>
    simp only [EM] at h
    split at h
    ·rename_i hk
     cases hx : small 4096 a with
     | none => rw [hx] at h; cases h
     | some x =>
       cases hy : small 4096 b with
       | none => rw [hx, hy] at h; cases h
       | some y =>
         rw [hx, hy] at h
         simp only [Option.bind_some] at h
         split at h
         ·rename_i hc
          cases h
          obtain ⟨hx1, hx2⟩ := EU hx
          obtain ⟨hy1, hy2⟩ := EU hy
          refine ⟨⟨hc.2, ?_, ?_, ?_, ?_, by simp⟩, hc.1, rfl, ?_⟩
          ·exact Int.natCast_nonneg _
          ·show (x : Int) ≤ 4096; omega
          ·exact Int.natCast_nonneg _
          ·show (y : Int) ≤ 4096; omega
          ·rw [← hlist, hk]
           unfold HdS.text
           simp only [HdS.parts, Int.toNat_natCast]
           rw [hx2, hy2]
         ·cases h
    ·cases h
  | [], h => simp [EM] at h
  | [_], h => simp [EM] at h
  | [_, _], h => simp [EM] at h
  | [_, _, _], h => simp [EM] at h
  | [_, _, _, _], h => simp [EM] at h
  | _ :: _ :: _ :: _ :: _ :: _ :: _, h => simp [EM] at h
 ·cases h
end HdS
namespace HdK
open OctetS IdentS EntS KeyS KeyN NSha EntK WireS WireT
set_option maxRecDepth 100000
def sm : List UInt8 := ShaS.sum T5
theorem Wo : sm.length = 32 := ShaS.Bb _
def hd (ep : Nat) (s : List UInt8) : Hd := ⟨rm, (ep : Int), 5, sm, s⟩
end HdK
end Go.Proofs.YtceiajepcokacaaGreatDoor
