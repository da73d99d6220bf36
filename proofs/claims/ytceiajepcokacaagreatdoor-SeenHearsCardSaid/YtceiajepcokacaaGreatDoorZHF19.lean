/-
  WHAT IS PROVED: contracts and plain laws. Condition: each names its own.
-/
import Derived.Test.YtceiajepcokacaaGreatDoorS0
import Derived.Test.YtceiajepcokacaaGreatDoorZHF18
import Derived.Deep.CutRange
set_option linter.unusedVariables false
set_option linter.unusedSimpArgs false
set_option maxRecDepth 100000
set_option maxHeartbeats 4000000
namespace Go.Proofs.YtceiajepcokacaaGreatDoor
open Go.Proofs.Tryz hiding parts
namespace SnL
open Go Go.RowKit Go.Shelf OctetS IdentS EntS OctG IdentP EntP EventC ShaA Steps KeyA KeyS KeyI KeyK TreeA EntK BookA WireS WireT KeyG EntL SnK SnT SnM SnF SnS SnH SnV
open EntQ (FI)
attribute [-go_sem] run_equalIn_agg
def hA1 (s : ByteArray) : Array Value := hdA rB 0 5 z32 s
def hA2 (s : ByteArray) : Array Value := hdA rB 0 5 o32 s
theorem hP1 (s : ByteArray) : HdP (hA1 s) rB 0 5 z32 s := ⟨rfl, rfl⟩
theorem hP2 (s : ByteArray) : HdP (hA2 s) rB 0 5 o32 s := ⟨rfl, rfl⟩
theorem XF (s : List UInt8) : hdOf rB 0 5 z32 (bsOf s) = h1 s := by
 unfold hdOf rB
 rw [AV, AV]
 rfl
theorem XE (s : List UInt8) : hdOf rB 0 5 o32 (bsOf s) = h2 s := by
 unfold hdOf rB
 rw [AV, AV]
 rfl
theorem WL {s : List UInt8} (h : s.length ≤ 8192) : CS (hdOf rB 0 5 z32 (bsOf s)) = true := by
 rw [XF]
 exact HdS.Bw.2 (RA h)
theorem WK {s : List UInt8} (h : s.length ≤ 8192) : CS (hdOf rB 0 5 o32 (bsOf s)) = true := by
 rw [XE]
 exact HdS.Bw.2 (Q9 h)
theorem aP : G1.size ≤ maxLen := by rw [Z8]; decide
theorem aO : G2.size ≤ maxLen := by rw [Z7]; decide
theorem X3 (w0 w : World) (R : Nat) (v : Value) (h : RingAt w0 w R sS 1 0 v) (hk : Au w) (hv : Am w) :
 Calls Tryz.prog 17 #[.pointer (some ⟨R, 0, none⟩), .agg (hA1 nB)] w fun e' w' => e' = .returned (.tuple #[.agg (hA1 G1), .int .i64 0]) ∧ RingAt w0 w' R sS 1 1 v ∧ Ext (fun k => k = R) w w' := by
 have h1 := HdT.UU w R sS 1 0 v _ (by decide) (by decide) (by decide) h.row h.lv.sl (fun k hk => (h.lv.lt k hk).2) hk (hA1 nB) rB 0 5 z32 nB (hP1 nB) hv Us YW (WL (s := []) (by decide))
 rw [show nB = bsOf [] from rfl, XF, Vw, TH] at h1
 refine h1.mono ?_
 rintro e w' ⟨rfl, hr, hE⟩
 exact ⟨rfl, ⟨hr, h.lv.ext hE (fun k hk => by have := h.sep k hk; omega), h.ge, h.sep⟩, hE⟩
theorem X0 (w0 w : World) (R : Nat) (v : Value) (h : RingAt w0 w R sS 1 1 v) (hk : Au w) (hv : Am w) :
 Calls Tryz.prog 17 #[.pointer (some ⟨R, 0, none⟩), .agg (hA2 nB)] w fun e' w' => e' = .returned (.tuple #[.agg (hA2 G2), .int .i64 0]) ∧ RingAt w0 w' R sS 1 2 v ∧ Ext (fun k => k = R) w w' := by
 have h1 := HdT.UU w R sS 1 1 v _ (by decide) (by decide) (by decide) h.row h.lv.sl (fun k hk => (h.lv.lt k hk).2) hk (hA2 nB) rB 0 5 o32 nB (hP2 nB) hv Us YW (WK (s := []) (by decide))
 rw [show nB = bsOf [] from rfl, XE, Vv, TH] at h1
 refine h1.mono ?_
 rintro e w' ⟨rfl, hr, hE⟩
 exact ⟨rfl, ⟨hr, h.lv.ext hE (fun k hk => by have := h.sep k hk; omega), h.ge, h.sep⟩, hE⟩
theorem Xx (w : World) (hv : Am w) : Calls Tryz.prog 18 #[.agg (hA1 G1)] w (RB (.tuple #[.string T1, .int .i64 0]) w) := by
 have h := HdT.Qs w (hA1 G1) rB 0 5 z32 G1 (hP1 G1) hv Us aP
 unfold HdS.textOf at h
 rw [show G1 = bsOf g1 from rfl, WL (s := g1) (by rw [UA]; decide), if_pos rfl, XF, Vw] at h
 exact h
theorem Xw (w : World) (hv : Am w) : Calls Tryz.prog 18 #[.agg (hA2 G2)] w (RB (.tuple #[.string T2, .int .i64 0]) w) := by
 have h := HdT.Qs w (hA2 G2) rB 0 5 o32 G2 (hP2 G2) hv Us aO
 unfold HdS.textOf at h
 rw [show G2 = bsOf g2 from rfl, WK (s := g2) (by rw [T9]; decide), if_pos rfl, XE, Vv] at h
 exact h
section
variable (w : World) (S m : Nat) (bv : Value) (hB : Sl w bv 36 1 ([gr].flatMap Gr'.cs)) (hv : Am w) (hk : Au w)
include hB hv hk
theorem Ha (hs : SnAt w S m bv []) : Calls Tryz.prog 9 #[.pointer (some ⟨S, 0, none⟩), .int .i64 2, .string T1, .string G1] w fun e w' => e = .returned (.tuple #[.agg pfZ, .bool false, .int .i64 0]) ∧ SnAt w' S m bv L1 ∧ Ext (fun k => k = m) w w' := by
 have h := FW w S m bv [gr] [] 2 T1 G1 hs hB ⟨by decide, by decide⟩ (by have := Xz; unfold maxLen; omega) aP (by decide) hv hk
 rw [XW] at h
 exact h
theorem Hb (hs : SnAt w S m bv L1) : Calls Tryz.prog 9 #[.pointer (some ⟨S, 0, none⟩), .int .i64 2, .string T1, .string G1] w fun e w' => e = .returned (.tuple #[.agg pfZ, .bool false, .int .i64 0]) ∧ SnAt w' S m bv L1 ∧ Ext (fun k => k = m) w w' := by
 have h := FW w S m bv [gr] L1 2 T1 G1 hs hB ⟨by decide, by decide⟩ (by have := Xz; unfold maxLen; omega) aP (by show 1 ≤ 1000; omega) hv hk
 rw [XV] at h
 exact h
theorem Hc (hs : SnAt w S m bv L1) : Calls Tryz.prog 9 #[.pointer (some ⟨S, 0, none⟩), .int .i64 2, .string T2, .string G2] w fun e w' => e = .returned (.tuple #[.agg (pfA 2 T1 G1 T2 G2), .bool true, .int .i64 0]) ∧ SnAt w' S m bv L1 ∧ Ext (fun k => k = m) w w' := by
 have h := FW w S m bv [gr] L1 2 T2 G2 hs hB ⟨by decide, by decide⟩ (by have := Xy; unfold maxLen; omega) aO (by show 1 ≤ 1000; omega) hv hk
 rw [XU] at h
 exact h
theorem fo (hs : SnAt w S m bv L1) : Calls Tryz.prog 9 #[.pointer (some ⟨S, 0, none⟩), .int .i64 1, .string T2, .string G2] w fun e w' => e = .returned (.tuple #[.agg pfZ, .bool false, .int .i64 3]) ∧ SnAt w' S m bv L1 ∧ Ext (fun k => k = m) w w' := by
 have h := FW w S m bv [gr] L1 1 T2 G2 hs hB ⟨by decide, by decide⟩ (by have := Xy; unfold maxLen; omega) aO (by show 1 ≤ 1000; omega) hv hk
 rw [XT] at h
 exact h
theorem fe (hs : SnAt w S m bv L1) : Calls Tryz.prog 9 #[.pointer (some ⟨S, 0, none⟩), .int .i64 2, .string ⟨#[120]⟩, .string ⟨#[]⟩] w fun e w' => e = .returned (.tuple #[.agg pfZ, .bool false, .int .i64 6]) ∧ SnAt w' S m bv L1 ∧ Ext (fun k => k = m) w w' := by
 have h := FW w S m bv [gr] L1 2 ⟨#[120]⟩ ⟨#[]⟩ hs hB ⟨by decide, by decide⟩ (by decide) (by decide) (by show 1 ≤ 1000; omega) hv hk
 rw [XR] at h
 exact h
omit hB hv hk in
theorem Hf (hs : SnAt w S m bv L1) : Calls Tryz.prog 13 #[.pointer (some ⟨S, 0, none⟩), .int .i64 2, .string ⟨#[33, 104, 97, 108, 108, 58, 48]⟩, .int .i64 0, .int .i64 5] w fun e w' => e = .returned (.tuple #[.string T1, .bool true]) ∧ Below w.heap.size w w' := by
 have hw : WfH 2 (h1 []) := ⟨⟨by decide, by decide⟩, ⟨by decide, by decide⟩, ⟨by decide, by decide⟩, by show (bsOf rm).size ≤ maxLen; rw [AY]; decide, rfl⟩
 have h := First_ok w S m bv L1 2 (h1 []) hs hw
 rw [Y3, O5] at h
 rw [show bsOf (h1 []).room = ⟨#[33, 104, 97, 108, 108, 58, 48]⟩ from by kernel_rfl] at h
 exact h
end
theorem aZ (n1 n2 : Int) (a1 x1 b1 y1 a2 x2 b2 y2 : ByteArray) (w : World) : (Op.equalIn 10000 37 (.agg (pfA n1 a1 x1 b1 y1)) (.agg (pfA n2 a2 x2 b2 y2))).run Tryz.prog w =
 .ok (n1 == n2 && (a1.toList == a2.toList && (x1.toList == x2.toList && (b1.toList == b2.toList && y1.toList == y2.toList)))) w := by
 have u3 : Tryz.prog.underlying 3 = some (.int .i64) := by kernel_rfl
 have u9 : Tryz.prog.underlying 9 = some .string := by kernel_rfl
 have hS : Tryz.prog.underlying 37 = some (.struct (Tryz.prog.fieldsOf 37)) := by kernel_rfl
 have hF : (Tryz.prog.fieldsOf 37).toList = [⟨"Server", 3, 0, false, "", "", 0⟩, ⟨"A", 9, 1, false, "", "", 8⟩, ⟨"SigA", 9, 2, false, "", "", 24⟩, ⟨"B", 9, 3, false, "", "", 40⟩, ⟨"SigB", 9, 4, false, "", "", 56⟩] := by kernel_rfl
 have hp : Tryz.prog.stoodInHeld 37 = false := by kernel_rfl
 unfold pfA
 rw [show (10000 : Nat) = 9999 + 1 from rfl, run_equalIn_agg w 9999 37 _ _ hS hp, hF]
 go_simp
 cases h1 : n1 == n2 <;> cases h2 : a1.toList == a2.toList <;> cases h3 : x1.toList == x2.toList <;> cases h4 : b1.toList == b2.toList <;> cases h5 : y1.toList == y2.toList <;> simp_all
theorem guardPf : Go.Program.eqGuardType Tryz.prog Tryz.prog.depth 37 = false := by kernel_rfl
theorem pf_self (n : Int) (a x b y : ByteArray) (w : World) : (Op.equalIn 10000 37 (.agg (pfA n a x b y)) (.agg (pfA n a x b y))).run Tryz.prog w = .ok true w := by
 rw [aZ]
 simp
theorem Xu {P : Program} {ops : Array Oper} {rest : List Oper} {o : Oper} {a : Act} {w : World} {Q : Exit → Act → World → Prop} (hw : Region.wanted o (yielded ops a.tmps) = true) (t : TypeId) (parts : Array (Nat × Operand)) (ho : o.op = .build t parts) (cells : Array Value)
 (hb : P.built t (parts.map fun (i, x) => (i, a.eval x)).toList = some cells) (h : wpList P ops Q rest (a.put o.dst (.agg cells)) w) : wpList P ops Q (o :: rest) a w := by
 unfold wpList
 rw [if_pos hw]
 exact .inl (wp_build t parts ho (by rw [hb]; rfl) (by rw [hb]; exact h))
theorem lives_ok (w : World) (hv : Am w) (hk : Au w) : Calls Tryz.prog 5 #[] w (RB (.bool true) w) := by
 obtain ⟨A0, hA0⟩ := nXe (hA1 nB)
 have Xk : A0.size = 36 := by rw [hA0]; exact (hP1 nB).size
 have gH := lh (show (Tryz.prog.info? 46).map (·.size) = some A0.size by rw [Xk]; kernel_rfl)
 have gL := lh Xk
 have gJ := lh (show A0.all (·.oneCell') = true by rw [hA0]; exact Av _ _ _ _ _)
 obtain ⟨A1, hA1⟩ := nXe (hA1 G1)
 have Xj : A1.size = 36 := by rw [hA1]; exact (hP1 G1).size
 have Z6 := lh (show (Tryz.prog.info? 46).map (·.size) = some A1.size by rw [Xj]; kernel_rfl)
 have eH := lh Xj
 have eG := lh (show A1.all (·.oneCell') = true by rw [hA1]; exact Av _ _ _ _ _)
 obtain ⟨B0, hB0⟩ := nXe (hA2 nB)
 have Xi : B0.size = 36 := by rw [hB0]; exact (hP2 nB).size
 have gD := lh (show (Tryz.prog.info? 46).map (·.size) = some B0.size by rw [Xi]; kernel_rfl)
 have gG := lh Xi
 have gF := lh (show B0.all (·.oneCell') = true by rw [hB0]; exact Av _ _ _ _ _)
 obtain ⟨B1, hB1⟩ := nXe (hA2 G2)
 have Xh : B1.size = 36 := by rw [hB1]; exact (hP2 G2).size
 have Z4 := lh (show (Tryz.prog.info? 46).map (·.size) = some B1.size by rw [Xh]; kernel_rfl)
 have d9 := lh Xh
 have dz := lh (show B1.all (·.oneCell') = true by rw [hB1]; exact Av _ _ _ _ _)
 obtain ⟨P, hP⟩ := nXe (pfA 2 T1 G1 T2 G2)
 have hPn : P.size = 5 := by rw [hP]; exact (by rfl)
 have HPS := lh (show (Tryz.prog.info? 37).map (·.size) = some P.size by rw [hPn]; kernel_rfl)
 have HPN := lh hPn
 have HPO := lh (show P.all (·.oneCell') = true by rw [hP]; exact by simp [pfA, pfZ, Value.oneCell'])
 obtain ⟨PZ, hPZ⟩ := nXe (pfZ)
 have Xf : PZ.size = 5 := by rw [hPZ]; exact (by rfl)
 have Vl := lh (show (Tryz.prog.info? 37).map (·.size) = some PZ.size by rw [Xf]; kernel_rfl)
 have Vn := lh Xf
 have Vm := lh (show PZ.all (·.oneCell') = true by rw [hPZ]; exact by simp [pfA, pfZ, Value.oneCell'])
 obtain ⟨C, hC⟩ := nXe ((Ht [115] 1).A)
 have hCn : C.size = 32 := by rw [hC]; exact H32.size _
 have HCS := lh (show (Tryz.prog.info? 44).map (·.size) = some C.size by rw [hCn]; kernel_rfl)
 have HCN := lh hCn
 have HCO := lh (show C.all (·.oneCell') = true by rw [hC]; exact H32.one _)
 have hCL : C = TP := by rw [hC]; exact Ws
 have hKb : Tryz.prog.built 62 [(0, .string ⟨#[115]⟩), (1, .int .i64 1)] = some #[.string ⟨#[115]⟩, .int .i64 1, .int .i64 0] := by kernel_rfl
 have hAb : Tryz.prog.built 46 [(0, .string ⟨#[33, 104, 97, 108, 108, 58, 48]⟩), (2, .int .i64 5)] = some A0 := by rw [hA0]; kernel_rfl
 have hOb : Tryz.prog.built 44 [(0, .int .u8 1)] = some #[.int .u8 1, .int .u8 0, .int .u8 0, .int .u8 0, .int .u8 0, .int .u8 0, .int .u8 0, .int .u8 0, .int .u8 0, .int .u8 0, .int .u8 0, .int .u8 0, .int .u8 0, .int .u8 0, .int .u8 0, .int .u8 0, .int .u8 0, .int .u8 0, .int .u8 0, .int .u8 0, .int .u8 0, .int .u8 0, .int .u8 0, .int .u8 0, .int .u8 0, .int .u8 0, .int .u8 0, .int .u8 0, .int .u8 0, .int .u8 0, .int .u8 0, .int .u8 0] := by kernel_rfl
 have hBb : Tryz.prog.built 46 [(0, .string ⟨#[33, 104, 97, 108, 108, 58, 48]⟩), (2, .int .i64 5), (3, .agg #[.int .u8 1, .int .u8 0, .int .u8 0, .int .u8 0, .int .u8 0, .int .u8 0, .int .u8 0, .int .u8 0, .int .u8 0, .int .u8 0, .int .u8 0, .int .u8 0, .int .u8 0, .int .u8 0, .int .u8 0, .int .u8 0, .int .u8 0, .int .u8 0, .int .u8 0, .int .u8 0, .int .u8 0, .int .u8 0, .int .u8 0, .int .u8 0, .int .u8 0, .int .u8 0, .int .u8 0, .int .u8 0, .int .u8 0, .int .u8 0, .int .u8 0, .int .u8 0])] = some B0 := by rw [hB0]; kernel_rfl
 obtain ⟨tt, htt⟩ := nXe (T1)
 obtain ⟨gg, hgg⟩ := nXe (G1)
 obtain ⟨uu, huu⟩ := nXe (T2)
 obtain ⟨vv, hvv⟩ := nXe (G2)
 have hPb : Tryz.prog.built 37 [(0, .int .i64 2), (1, .string tt), (2, .string gg), (3, .string uu), (4, .string vv)] = some P := by rw [hP, ← htt, ← hgg, ← huu, ← hvv]; kernel_rfl
 have Y1 : A1[35]? = some (.string gg) := by rw [hA1, hgg]; exact (hP1 G1).c35
 have Yz : B1[35]? = some (.string vv) := by rw [hB1, hvv]; exact (hP2 G2).c35
 have hq : ∀ w, (Op.equalIn 10000 37 (.agg P) (.agg P)).run Tryz.prog w = .ok true w := by rw [hP]; exact fun w => pf_self _ _ _ _ _ w
 have hGE := guardPf
 have V1 := X3
 have V2 := X0
 have V3 := Xx
 have V4 := HdL.SK
 have V5 := Xw
 have V6 := Ha
 have V7 := Hb
 have V8 := Hc
 have V9 := fo
 have VA := fe
 have VB := Hf
 rw [← hA0, ← hA1] at V1
 rw [← hB0, ← hB1] at V2
 rw [← hA1, ← htt] at V3
 rw [← hC] at V4
 rw [← hB1, ← huu] at V5
 rw [← htt, ← hgg, ← hPZ] at V6
 rw [← htt, ← hgg, ← hPZ] at V7
 rw [← huu, ← hvv, ← htt, ← hgg] at V8
 rw [← huu, ← hvv, ← hPZ] at V9
 rw [← hPZ] at VA
 rw [← htt] at VB
 have hPe : pfA 2 tt gg uu vv = P := by rw [hP, htt, hgg, huu, hvv]
 rw [hPe] at V8
 obtain ⟨GA, hGA⟩ := nXe (gr.A)
 have aX : GA.size = 36 := by rw [hGA]; unfold Gr'.A; rw [List.size_toArray, grF.len]
 have Yt : GA.toList = gr.cs := by rw [hGA]; rfl
 have Yu : Tryz.prog.built 65 [(0, .int .i64 2), (2, .int .i64 9), (3, .int .i64 1), (4, .agg C)] = some GA := by rw [hCL, hGA]; unfold Gr'.A Gr'.cs gr; rw [Ot, UM, KeyN.TN]; kernel_rfl
 obtain ⟨W1, W2, W3, W4, W5, W6, W7, W8, W9⟩ := l9h V1 V2 V3 V4 V5 V6 V7 V8 V9
 obtain ⟨WA, WB, HKb, HAb, HOb, HBb, HPb, SV, SS⟩ := l9h VA VB hKb hAb hOb hBb hPb Y1 Yz
 obtain ⟨ZX, ZY, Hq, HGE, HV, HK⟩ := l6h aX Yu hq hGE hv hk
 have dH := lh (show GA.toList = [gr].flatMap Gr'.cs by rw [Yt]; simp)
 have HgN := lh (show ∀ (w : World) (v : Value), Sl w v 36 1 ([gr].flatMap Gr'.cs) → Calls Tryz.prog 6 #[v] w fun e w' => ∃ S m bv, e = .returned (.tuple #[.pointer (some ⟨S, 0, none⟩), .int .i64 0]) ∧ SnAt w' S m bv [] ∧ Ow w' w.heap.size 65 36 bv 1 ([gr].flatMap Gr'.cs) ∧ (∀ k, bv.ownBlock = some k → k ≠ m ∧ k ≠ S) ∧ w.heap.size ≤ S ∧ w.heap.size ≤ m ∧ Below w.heap.size w w' from fun w v h => SnN.New_ok w v [gr] h Nb (by decide))
 clear hCL Yt hPe hA0 hA1 hB0 hB1 hP hPZ hC htt hgg huu hvv hGA Xk Xj Xi Xh hPn Xf hCn V1 V2 V3 V4 V5 V6 V7 V8 V9 VA VB hKb hAb hOb hBb hPb Y1 Yz Yu hq hGE hv hk
 go_enter func5, ntmps5
 go_wp2_with (first | (refine EntQ.CF rfl 62 _ rfl #[.string ⟨#[115]⟩, .int .i64 1, .int .i64 0] (by first | exact HKb.out | (go_simp; exact HKb.out)) ?_) | fail)
 refine (X4 w HK.out).mono ?_
 rintro e w1 ⟨R, v, rfl, hR, hb⟩
 have hRg := hR.ge
 obtain ⟨HR1, HL1⟩ := l2h hR hb
 clear hR hb
 go_wp2_with fail
 refine (W4.out w w1 R 0 v HR1.out).mono ?_
 rintro e w2 ⟨rfl, hb⟩
 have HR2 := lh (FI HR1.out hb)
 have HL2 := tbB HL1 hb
 clear hb
 go_wp2_with (first | (refine EntQ.CF rfl 65 _ rfl GA (by first | exact ZY.out | (go_simp; exact ZY.out)) ?_) | (refine EntQ.CF rfl 46 _ rfl A0 (by first | exact HAb.out | (go_simp; exact HAb.out)) ?_) | fail)
 rw [EntQ.UE #[.int .i64 0, .int .i64 0, .int .i64 0, .int .i64 0, .int .u8 0, .int .u8 0, .int .u8 0, .int .u8 0, .int .u8 0, .int .u8 0, .int .u8 0, .int .u8 0, .int .u8 0, .int .u8 0, .int .u8 0, .int .u8 0, .int .u8 0, .int .u8 0, .int .u8 0, .int .u8 0, .int .u8 0, .int .u8 0, .int .u8 0, .int .u8 0, .int .u8 0, .int .u8 0, .int .u8 0, .int .u8 0, .int .u8 0, .int .u8 0, .int .u8 0, .int .u8 0, .int .u8 0, .int .u8 0, .int .u8 0, .int .u8 0] GA 36 rfl ZX.out]
 obtain ⟨w3, hww⟩ : ∃ w', w' = w2.alloc (.cells GA 65) := ⟨_, rfl⟩
 rw [← hww]
 have hb : Below w2.heap.size w2 w3 := by rw [hww]; exact bAx
 have hy : w3.heap[w2.heap.size]? = some (.cells GA 65 (0, 0)) := by rw [hww]; exact AL _ _
 clear hww
 obtain ⟨BB, hBB⟩ := nXe (w2.heap.size)
 rw [← hBB] at hy ⊢
 have hRB : R < BB := by have := AJ HR2.out.row; omega
 obtain ⟨dh, HR3⟩ := l2h hy (FI HR2.out hb)
 have HL3 := tbB HL2 hb
 have zL2 := HL2.out.size
 have gBB : w.heap.size ≤ BB := by omega
 clear hb hy hBB
 refine (W1.out w w3 R v HR3.out (HK.out.below HL3.out) (HV.out.below HL3.out)).mono ?_
 rintro e w4 ⟨rfl, hRn, hE⟩
 have Zy := lh (hE.Ai dh.out (fun h => by omega))
 have HL4 := lh (Bl.ext HL3.out hE (fun k h1 h => by omega))
 have HR4 := lh hRn
 clear hE hRn
 go_wp2_with (first | (refine AC rfl _ _ _ rfl w4.heap.size A1 rfl rfl _ _ (AL _ _) Z6.out (by rw [eH.out]; rfl) eG.out ?_) | fail)
 intro u1 hu1
 have hb : Below w4.heap.size w4 u1 := by rw [hu1.out]; exact AQ bAx nR _
 have hy : u1.heap[w4.heap.size]? = some (.cells A1 46 (0, 0)) := by rw [hu1.out]; exact AR (AL _ _)
 clear hu1
 obtain ⟨w5, hww⟩ : ∃ w', w' = u1 := ⟨_, rfl⟩
 rw [← hww] at hb hy ⊢
 clear hww
 obtain ⟨BE, hBE⟩ := nXe (w4.heap.size)
 rw [← hBE] at hy ⊢
 have zBE : BB < BE := by have := AJ Zy.out; omega
 have dU := lh hy
 have dZ := kpB hb Zy
 have HL5 := tbB HL4 hb
 have HR5 := lh (FI HR4.out hb)
 have hRE : R < BE := by omega
 clear hb hy hBE
 go_wp2_with (first | (refine EntQ.CF rfl 44 _ rfl #[.int .u8 1, .int .u8 0, .int .u8 0, .int .u8 0, .int .u8 0, .int .u8 0, .int .u8 0, .int .u8 0, .int .u8 0, .int .u8 0, .int .u8 0, .int .u8 0, .int .u8 0, .int .u8 0, .int .u8 0, .int .u8 0, .int .u8 0, .int .u8 0, .int .u8 0, .int .u8 0, .int .u8 0, .int .u8 0, .int .u8 0, .int .u8 0, .int .u8 0, .int .u8 0, .int .u8 0, .int .u8 0, .int .u8 0, .int .u8 0, .int .u8 0, .int .u8 0] (by first | exact HOb.out | (go_simp; exact HOb.out)) ?_) | (refine EntQ.CF rfl 46 _ rfl B0 (by first | exact HBb.out | (go_simp; exact HBb.out)) ?_) | fail)
 refine (W2.out w w5 R v HR5.out (HK.out.below HL5.out) (HV.out.below HL5.out)).mono ?_
 rintro e w6 ⟨rfl, hRn, hE⟩
 have dY := lh (hE.Ai dZ.out (fun h => by omega))
 have Zp := lh (hE.Ai dU.out (fun h => by omega))
 have HL6 := lh (Bl.ext HL5.out hE (fun k h1 h => by omega))
 clear hE hRn
 go_wp2_with (first | (refine AC rfl _ _ _ rfl w6.heap.size B1 rfl rfl _ _ (AL _ _) Z4.out (by rw [d9.out]; rfl) dz.out ?_) | fail)
 intro u1 hu1
 have hb : Below w6.heap.size w6 u1 := by rw [hu1.out]; exact AQ bAx nR _
 have hy : u1.heap[w6.heap.size]? = some (.cells B1 46 (0, 0)) := by rw [hu1.out]; exact AR (AL _ _)
 clear hu1
 obtain ⟨w7, hww⟩ : ∃ w', w' = u1 := ⟨_, rfl⟩
 rw [← hww] at hb hy ⊢
 clear hww
 obtain ⟨BH, hBE⟩ := nXe (w6.heap.size)
 rw [← hBE] at hy ⊢
 have zBH : BE < BH := by have := AJ Zp.out; omega
 have dR := lh hy
 have dX := kpB hb dY
 have Zo := kpB hb Zp
 have HL7 := tbB HL6 hb
 clear hb hy hBE
 go_wp2_with (first | (refine wpList_load_row rfl _ _ rfl BE rfl _ A1 (0, 0) _ Zo.out underlying46 rfl Z6.out ?_) | fail)
 refine (W3.out w7 (HV.out.below HL7.out)).mono ?_
 rintro e w8 ⟨rfl, hb⟩
 have dW := kpB hb dX
 have dS := kpB hb Zo
 have Zf := kpB hb dR
 have HL8 := tbB HL7 hb
 clear hb
 go_wp2_with (first | (refine wpList_load_row rfl _ _ rfl BH rfl _ B1 (0, 0) _ Zf.out underlying46 rfl Z4.out ?_) | fail)
 refine (W5.out w8 (HV.out.below HL8.out)).mono ?_
 rintro e w9 ⟨rfl, hb⟩
 have dV := kpB hb dW
 have Zn := kpB hb dS
 have Ze := kpB hb Zf
 have HL9 := tbB HL8 hb
 clear hb
 go_wp2_with fail
 have Yq : Sl w9 (.slice (some ⟨BB, 0, none⟩) 1 1) 36 1 ([gr].flatMap Gr'.cs) := by rw [← dH.out]; exact EntQ.D5 dV.out ZX.out
 refine (HgN.out w9 _ Yq).mono ?_
 rintro e w10 ⟨S, m, bv, rfl, hs, ho, hsep, hS0, hm0, hb⟩
 obtain ⟨bg, ZW, Hsep⟩ := l3h hs ho hsep
 have Wd := kpB hb Zn
 have WV := kpB hb Ze
 have YC := tbB HL9 hb
 have zL9 := HL9.out.size
 have fH := AJ Zn.out
 have fG := AJ Ze.out
 clear hs ho hsep hb Yq
 have cE := (AO (j := 35) Wd.out).trans SV.out
 have cH := (AO (j := 35) WV.out).trans SS.out
 go_wp2_with fail
 clear cE cH
 refine (W6.out w10 S m bv ZW.out.sl (HV.out.below YC.out) (HK.out.below YC.out) bg.out).mono ?_
 rintro e w11 ⟨rfl, hs, hE⟩
 have ZQ := lh hs
 have cO := lh (ZW.out.ext hE (fun k hk e => (Hsep.out k hk).1 e))
 have Zx := lh (hE.Ai Wd.out (fun e => by omega))
 have Zm := lh (hE.Ai WV.out (fun e => by omega))
 have dG := lh (Bl.ext YC.out hE (fun k h1 h => by omega))
 clear hs hE
 go_wp2_with (first | (refine AC rfl _ _ _ rfl w11.heap.size PZ rfl rfl _ _ (AL _ _) Vl.out (by rw [Vn.out]; rfl) Vm.out ?_) | fail)
 intro u1 hu1
 have hb : Below w11.heap.size w11 u1 := by rw [hu1.out]; exact AQ bAx nR _
 have hy : u1.heap[w11.heap.size]? = some (.cells PZ 37 (0, 0)) := by rw [hu1.out]; exact AR (AL _ _)
 clear hu1
 obtain ⟨w12, hww⟩ : ∃ w', w' = u1 := ⟨_, rfl⟩
 rw [← hww] at hb hy ⊢
 clear hww
 obtain ⟨eU, hBE⟩ := nXe (w11.heap.size)
 rw [← hBE] at hy ⊢
 have ed : m < eU := by have := AJ ZQ.out.mp; omega
 have aH := lh hy
 have WZ := kpB hb Zx
 have WU := kpB hb Zm
 have YA := tbB dG hb
 have bf := lh (SnAt.below ZQ.out hb)
 have ZV := lh (cO.out.ext (Ext.ofB hb) (fun _ _ h => h))
 clear hb hy hBE
 have cE := (AO (j := 35) WZ.out).trans SV.out
 have cH := (AO (j := 35) WU.out).trans SS.out
 go_wp2_with fail
 clear cE cH
 refine (W7.out w12 S m bv ZV.out.sl (HV.out.below YA.out) (HK.out.below YA.out) bf.out).mono ?_
 rintro e w13 ⟨rfl, hs, hE⟩
 have ZP := lh hs
 have cK := lh (ZV.out.ext hE (fun k hk e => (Hsep.out k hk).1 e))
 have Zw := lh (hE.Ai WZ.out (fun e => by omega))
 have Zl := lh (hE.Ai WU.out (fun e => by omega))
 have dE := lh (Bl.ext YA.out hE (fun k h1 h => by omega))
 clear hs hE
 go_wp2_with (first | (refine AC rfl _ _ _ rfl w13.heap.size PZ rfl rfl _ _ (AL _ _) Vl.out (by rw [Vn.out]; rfl) Vm.out ?_) | fail)
 intro u1 hu1
 have hb : Below w13.heap.size w13 u1 := by rw [hu1.out]; exact AQ bAx nR _
 have hy : u1.heap[w13.heap.size]? = some (.cells PZ 37 (0, 0)) := by rw [hu1.out]; exact AR (AL _ _)
 clear hu1
 obtain ⟨w14, hww⟩ : ∃ w', w' = u1 := ⟨_, rfl⟩
 rw [← hww] at hb hy ⊢
 clear hww
 obtain ⟨eQ, hBE⟩ := nXe (w13.heap.size)
 rw [← hBE] at hy ⊢
 have eZ : m < eQ := by have := AJ ZP.out.mp; omega
 have aG := lh hy
 have WY := kpB hb Zw
 have WT := kpB hb Zl
 have X9 := tbB dE hb
 have bZ := lh (SnAt.below ZP.out hb)
 have ZU := lh (cK.out.ext (Ext.ofB hb) (fun _ _ h => h))
 clear hb hy hBE
 have cE := (AO (j := 35) WY.out).trans SV.out
 have cH := (AO (j := 35) WT.out).trans SS.out
 go_wp2_with fail
 clear cE cH
 refine (W8.out w14 S m bv ZU.out.sl (HV.out.below X9.out) (HK.out.below X9.out) bZ.out).mono ?_
 rintro e w15 ⟨rfl, hs, hE⟩
 have ZO := lh hs
 have bz := lh (ZU.out.ext hE (fun k hk e => (Hsep.out k hk).1 e))
 have Zv := lh (hE.Ai WY.out (fun e => by omega))
 have Zk := lh (hE.Ai WT.out (fun e => by omega))
 have dD := lh (Bl.ext X9.out hE (fun k h1 h => by omega))
 clear hs hE
 go_wp2_with (first | (refine AC rfl _ _ _ rfl w15.heap.size P rfl rfl _ _ (AL _ _) HPS.out (by rw [HPN.out]; rfl) HPO.out ?_) | fail)
 intro u1 hu1
 have hb : Below w15.heap.size w15 u1 := by rw [hu1.out]; exact AQ bAx nR _
 have hy : u1.heap[w15.heap.size]? = some (.cells P 37 (0, 0)) := by rw [hu1.out]; exact AR (AL _ _)
 clear hu1
 obtain ⟨w16, hww⟩ : ∃ w', w' = u1 := ⟨_, rfl⟩
 rw [← hww] at hb hy ⊢
 clear hww
 obtain ⟨BP, hBE⟩ := nXe (w15.heap.size)
 rw [← hBE] at hy ⊢
 have zBP : m < BP := by have := AJ ZO.out.mp; omega
 have Zd := lh hy
 have WX := kpB hb Zv
 have WS := kpB hb Zk
 have X8 := tbB dD hb
 have bY := lh (SnAt.below ZO.out hb)
 have ZT := lh (bz.out.ext (Ext.ofB hb) (fun _ _ h => h))
 clear hb hy hBE
 have cE := (AO (j := 35) WX.out).trans SV.out
 have cH := (AO (j := 35) WS.out).trans SS.out
 go_wp2_with fail
 clear cE cH
 refine (W9.out w16 S m bv ZT.out.sl (HV.out.below X8.out) (HK.out.below X8.out) bY.out).mono ?_
 rintro e w17 ⟨rfl, hs, hE⟩
 have ZN := lh hs
 have bu := lh (ZT.out.ext hE (fun k hk e => (Hsep.out k hk).1 e))
 have Zu := lh (hE.Ai WX.out (fun e => by omega))
 have Zj := lh (hE.Ai WS.out (fun e => by omega))
 have dC := lh (Bl.ext X8.out hE (fun k h1 h => by omega))
 have Zc := lh (hE.Ai Zd.out (fun e => by omega))
 clear hs hE
 go_wp2_with (first | (refine AC rfl _ _ _ rfl w17.heap.size PZ rfl rfl _ _ (AL _ _) Vl.out (by rw [Vn.out]; rfl) Vm.out ?_) | fail)
 intro u1 hu1
 have hb : Below w17.heap.size w17 u1 := by rw [hu1.out]; exact AQ bAx nR _
 have hy : u1.heap[w17.heap.size]? = some (.cells PZ 37 (0, 0)) := by rw [hu1.out]; exact AR (AL _ _)
 clear hu1
 obtain ⟨w18, hww⟩ : ∃ w', w' = u1 := ⟨_, rfl⟩
 rw [← hww] at hb hy ⊢
 clear hww
 obtain ⟨eP, hBE⟩ := nXe (w17.heap.size)
 rw [← hBE] at hy ⊢
 have eY : m < eP := by have := AJ ZN.out.mp; omega
 have aF := lh hy
 have WW := kpB hb Zu
 have WR := kpB hb Zj
 have Zb := kpB hb Zc
 have X7 := tbB dC hb
 have bW := lh (SnAt.below ZN.out hb)
 have ZR := lh (bu.out.ext (Ext.ofB hb) (fun _ _ h => h))
 clear hb hy hBE
 have cE := (AO (j := 35) WW.out).trans SV.out
 have cH := (AO (j := 35) WR.out).trans SS.out
 go_wp2_with fail
 clear cE cH
 refine (WA.out w18 S m bv ZR.out.sl (HV.out.below X7.out) (HK.out.below X7.out) bW.out).mono ?_
 rintro e w19 ⟨rfl, hs, hE⟩
 have ZM := lh hs
 have bq := lh (ZR.out.ext hE (fun k hk e => (Hsep.out k hk).1 e))
 have Zt := lh (hE.Ai WW.out (fun e => by omega))
 have Zi := lh (hE.Ai WR.out (fun e => by omega))
 have dB := lh (Bl.ext X7.out hE (fun k h1 h => by omega))
 have Za := lh (hE.Ai Zb.out (fun e => by omega))
 clear hs hE
 go_wp2_with (first | (refine AC rfl _ _ _ rfl w19.heap.size PZ rfl rfl _ _ (AL _ _) Vl.out (by rw [Vn.out]; rfl) Vm.out ?_) | fail)
 intro u1 hu1
 have hb : Below w19.heap.size w19 u1 := by rw [hu1.out]; exact AQ bAx nR _
 have hy : u1.heap[w19.heap.size]? = some (.cells PZ 37 (0, 0)) := by rw [hu1.out]; exact AR (AL _ _)
 clear hu1
 obtain ⟨w20, hww⟩ : ∃ w', w' = u1 := ⟨_, rfl⟩
 rw [← hww] at hb hy ⊢
 clear hww
 obtain ⟨eO, hBE⟩ := nXe (w19.heap.size)
 rw [← hBE] at hy ⊢
 have eX : m < eO := by have := AJ ZM.out.mp; omega
 have aA := lh hy
 have Zr := kpB hb Zt
 have Zh := kpB hb Zi
 have ZZ := kpB hb Za
 have dA := tbB dB hb
 have ZL := lh (SnAt.below ZM.out hb)
 have fu := lh (bq.out.ext (Ext.ofB hb) (fun _ _ h => h))
 clear hb hy hBE
 go_wp2_with fail
 refine (WB.out w20 S m bv ZL.out).mono ?_
 rintro e w21 ⟨rfl, hb⟩
 have bU := lh (SnAt.below ZL.out hb)
 have Zq := kpB hb Zr
 have Zg := kpB hb Zh
 have WQ := kpB hb ZZ
 have cZ := tbB dA hb
 clear hb
 have hq := Hq.out
 have hGE := HGE.out
 have cE := (AO (j := 35) Zq.out).trans SV.out
 have cH := (AO (j := 35) Zg.out).trans SS.out
 have fV : BP < w21.heap.size := AJ WQ.out
 go_wp2_with (first | (guard_target =~ wpList _ _ _ (Oper.mk _ (Op.load 37 _) _ _ _ _ :: _) _ _; refine WireT.BQ (by kernel_rfl) 37 _ rfl BP rfl _ P (0, 0) _ WQ.out underlying37 rfl HPS.out ?_) | (guard_target =~ wpList _ _ _ (Oper.mk _ (Op.build 37 _) _ _ _ _ :: _) _ _; refine Xu (by kernel_rfl) 37 _ rfl P (by first | exact HPb.out | (go_simp; exact HPb.out)) ?_) | fail)
 refine (Len_ok w21 S m bv L1 bU.out (by decide)).mono ?_
 rintro e w22 ⟨rfl, rfl⟩
 go_wp2
 go_ret
 exact ⟨rfl, cZ.out⟩
end SnL
namespace R2W
open Go Go.RowKit U32 ShaS ShaT ShaW Steps
theorem b_mul256 (t : TypeId) (x : UInt32) : binOp .mul t (.int .u32 (u x)) (.int .u32 256) = pure (.int .u32 (u (x * 256))) := by
 rw [binOp_mul]
 show pure (Value.int .u32 (IntKind.u32.wrap (u x * 256))) = _
 rw [IntKind.wrap_u32']
 have : (u x * 256) % 4294967296 = u (x * 256) := by
  unfold u
  rw [UInt32.toNat_mul, show (256 : UInt32).toNat = 256 from rfl]
  omega
 rw [this]
attribute [local go_sem high] b_add IZ b_or b_and Ff b_shr3 b_shr10 b_mul256
end R2W
namespace R2K
open Go Go.RowKit U32 ShaS ShaW ShaA ShaB ShaM R2W OctP Steps
attribute [local go_sem high] b_add IZ b_or b_and Ff
end R2K
namespace R2M
open Go Go.RowKit U32 ShaS ShaW ShaA ShaB ShaM R2W OctP Steps
attribute [local go_sem high] b_add IZ b_or b_and Ff
end R2M
namespace SnP
open Go Go.RowKit Go.ChangeMaps OctetS OctG ShaS EntS WireS WireT BookA RowsX Lift Steps SnK SnT SnM SnF
attribute [-go_sem] Builtin.append_
def oneL (sv : Int) (r : ByteArray) (ep ix : Int) (sm : List UInt8) (g text sig : ByteArray) : List Value := [.int .i64 sv, .string r, .int .i64 ep, .int .i64 ix] ++ byV sm ++ [.string g, .string text, .string sig]
def oneF (x : Sn) : List Value := oneL x.sv (bsOf x.h.room) x.h.ep x.h.ix (x.h.sum.take 32 ++ List.replicate (32 - x.h.sum.length) 0) (bsOf x.h.sig) x.text x.sig
theorem room_dec (r1 r2 : List UInt8) : ((bsOf r1).toList == (bsOf r2).toList) = decide (r1 = r2) := by
 by_cases h : r1 = r2
 ·subst h; simp
 ·rw [dF h]
  refine beq_eq_false_iff_ne.2 fun e => h ?_
  have e2 : bl (bsOf r1) = bl (bsOf r2) := by
   have := ByteArray.toList_eq (bsOf r1)
   have h2 := ByteArray.toList_eq (bsOf r2)
   have e3 : (bsOf r1).data.toList = (bsOf r2).data.toList := by rw [← this, ← h2]; exact e
   have : bsOf r1 = bsOf r2 := ByteArray.ext (by simpa using e3)
   rw [this]
  rw [AV, AV] at e2
  exact e2
end SnP
namespace SnQ
open SnW SnP
open Go Go.RowKit Go.ChangeMaps OctetS IdentS ShaS EntS OctG IdentP ShaA KeyA WireS WireT BookA BkF PfS PfA RowsX Steps SnK SnT SnM SnF SnG SnS
attribute [-go_sem] Builtin.append_
theorem D5 {w : World} {g : Nat} {cs : Array Value} {te : TypeId} {n : Nat} (h : w.heap[g]? = some (.cells cs te (0, 0))) (hs : cs.size = n) : Sl w (.slice (some ⟨g, 0, none⟩) 1 1) n 1 cs.toList := by
 refine ⟨by simp [hs], .inr ⟨_, 1, rfl, Nat.le_refl _, by unfold maxLen; omega, fun j u hu => ?_⟩⟩
 rw [Addr.add_mid, Nat.zero_add, AO h, ← hu]
 simp
end SnQ
namespace SnX
open SnW SnP SnQ SnN
open Go Go.RowKit Go.ChangeMaps OctetS IdentS ShaS EntS OctG IdentP ShaA KeyA WireS WireT BookA BkC BkF PfS PfA RowsX Lift Steps SnK SnT SnM SnF SnG SnS SnH
attribute [-go_sem] run_equalIn_agg
structure TwoS (W wr : World) (S m q : Nat) (bv bv2 s : Value) (B : List Gr') (L : List Sn) : Prop where
 sn : SnAt wr S m bv L
 hB : Sl wr bv 36 B.length (B.flatMap Gr'.cs)
 hB2 : Sl wr bv2 36 B.length (B.flatMap Gr'.cs)
 b1 : ∀ k, bv.ownBlock = some k → k ≠ m ∧ k < q
 b2 : ∀ k, bv2.ownBlock = some k → k ≠ m ∧ k < q
 box : wr.heap[q]? = some (.cells #[bv2, s] 31 (0, 0))
 own : Ow wr (q + 1) 50 39 s L.length (L.flatMap oneF)
 bel : Below W.heap.size W wr
 mW : W.heap.size ≤ m
 mq : m < q
 Sq : S < q
theorem TwoS.sum {W wr : World} {S m q : Nat} {bv bv2 s : Value} {B : List Gr'} {L : List Sn} (h : TwoS W wr S m q bv bv2 s B L) : ∀ x ∈ L, x.h.sum.length = 32 := fun x hx => (h.sn.wf x hx).sum
def EH (x : Int × ByteArray × ByteArray) : List Value := [.int .i64 x.1, .string x.2.1, .string x.2.2]
theorem sdF : El 3 EH := ⟨fun _ => rfl, fun x u hu => by simp [EH] at hu; rcases hu with rfl | rfl | rfl <;> rfl⟩
theorem hear_p (B : List Gr') (L : List Sn) (sv : Int) (text sig : ByteArray) : ∃ n a b c d, (CE B L sv text sig).p = pfA n a b c d := by
 unfold CE
 split
 ·exact ⟨_, _, _, _, _, rfl⟩
 ·split
  ·exact ⟨_, _, _, _, _, rfl⟩
  ·split
   ·exact Te _ _ _ _ _
   ·exact ⟨_, _, _, _, _, rfl⟩
end SnX
namespace LaidR
open Go Go.ChangeShapes Go.WideShapes Go.RowKit EntP SnK SnX
section
variable {H : Type} {enc : TypeId × Value → H} {P : Program} {w : World} {spare : Nat → Bool} {held : Bool}
theorem Fw {e : TypeId} {n : Nat} : ∀ {l : List (DataW H)} {d : DataW H}, d ∈ l → n ∈ d.weights P e → n ∈ DataW.weightsAll P e l
 | [], d, h, _ => by cases h
 | x :: r, d, h, hn => by
   rw [DataW.weightsAll, List.mem_append]
   rcases List.mem_cons.1 h with rfl | h
   ·exact .inl hn
   ·exact .inr (Fw h hn)
theorem FL {α : Type} [Inhabited α] {t e : TypeId} (ht : P.underlying t = some (.slice e)) {n : Nat} {ks : List CK} (hf : flat P n e = some ks) (hc : P.cellsOf e = ks.length) (f : α → List Value) (good : α → DataW H → Prop)
 (hα : ∀ cs dd q m, Fits ks cs → DataW.trod enc P w 0 spare held m e cs = some (dd, q) → ∃ x, cs = f x ∧ good x dd) {v : Value} {d : DataW H} {ps : List MemPlace} (h : DataW.Trod enc P w 0 spare held t v d ps) (hv : ∃ a l c, v = .slice a l c) :
 ∃ xs : List α, Sl w v ks.length xs.length (xs.flatMap f) ∧ (∀ x ∈ xs, ∃ dd, good x dd ∧ ∀ k ∈ dd.weights P e, k ∈ d.weights P t) ∧ (xs = [] ∨ ∃ k ∈ d.weights P t, xs.length * P.bytesOf e ≤ k) := by
 obtain ⟨fuel, hx⟩ := h
 obtain ⟨a0, l0, c0, rfl⟩ := hv
 rcases Go.Deep.open_slice ht hx with ⟨h0, _⟩ | ⟨a, len, cap, m, q, D, Pl, h0, _, hl, hm, hmm, hdd, hel⟩
 ·simp [Value.cells] at h0
  obtain ⟨rfl, rfl, rfl⟩ := h0
  exact ⟨[], Sl.nil w _, fun x hx => by simp at hx, .inl rfl⟩
 ·simp [Value.cells] at h0
  obtain ⟨rfl, rfl, rfl⟩ := h0
  have hd : d = .slice ((List.range l0).map D) ((List.range (m - l0)).map fun j => D (l0 + j)) := congrArg Prod.fst hdd
  have hw : ∀ i, i < l0 → ∀ k ∈ (D i).weights P e, k ∈ d.weights P t := fun i hi k hk => by
   rw [hd, DataW.weights, ht]
   refine List.mem_cons_of_mem _ (List.mem_append_left _ (Fw (List.mem_map.2 ⟨i, List.mem_range.2 hi, rfl⟩) hk))
  have hml : l0 ≤ m := by rw [hmm]; split <;> omega
  obtain ⟨X, hX⟩ := Go.Deep.choose_lt (n := l0) (p := fun i (x : α) => (∀ j u, (f x)[j]? = some u → w.cell? ((a.add (i * ks.length)).add j) = some u) ∧ (f x).length = ks.length ∧ good x (D i)) (fun i hi => by
   obtain ⟨cs', h1, h2⟩ := hel i (by omega)
   rw [hc] at h1
   have hfit := O4 n e ks hf q cs' _ h2
   obtain ⟨x, rfl, hg⟩ := hα cs' _ _ _ hfit h2
   obtain ⟨_, _, hcell⟩ := World.cells?_some h1
   exact ⟨x, fun j u hu => by
        have hj : j < (f x).length := (List.getElem?_eq_some_iff.1 hu).1
        have := hcell j (by have := hfit.1; omega)
        rw [this]
        exact hu, hfit.1.symm, hg⟩)
  refine ⟨(List.range l0).map X, ⟨?_, .inr ⟨a, c0, by simp, by simp; omega, hm, fun j u hu => ?_⟩⟩, fun x hx => ?_, .inr ?_⟩
  ·have : ∀ (L : List Nat), (∀ i ∈ L, i < l0) → ((L.map X).flatMap f).length = L.length * ks.length := by
        intro L
        induction L with
        | nil => intro _; simp
        | cons i L ih =>
          intro hL
          rw [List.map_cons, List.flatMap_cons, List.length_append, ih (fun k hk => hL k (List.mem_cons_of_mem _ hk)), (hX i (hL i (List.mem_cons_self ..))).2.1, List.length_cons, Nat.add_mul]
          omega
   have := this (List.range l0) (fun i hi => List.mem_range.1 hi)
   simpa using this
  ·have key : ∀ (N s : Nat), s + N ≤ l0 → ∀ j u, (((List.range' s N).map X).flatMap f)[j]? = some u → w.cell? (a.add (s * ks.length + j)) = some u := by
        intro N
        induction N with
        | zero => intro s _ j u hu; simp at hu
        | succ N ih =>
          intro s hs j u hu
          rw [List.range'_succ, List.map_cons, List.flatMap_cons] at hu
          have hs' := hX s (by omega)
          by_cases hj : j < (f (X s)).length
          ·rw [List.getElem?_append_left hj] at hu
           have := hs'.1 j u hu
           rwa [addr_add_add] at this
          ·rw [List.getElem?_append_right (by omega)] at hu
           have := ih (s + 1) (by omega) (j - (f (X s)).length) u hu
           rw [hs'.2.1] at this
           rw [show s * ks.length + j = (s + 1) * ks.length + (j - ks.length) by rw [Nat.add_mul]; have := hs'.2.1; omega]
           exact this
   have := key l0 0 (by omega) j u (by rw [← List.range_eq_range']; exact hu)
   simpa using this
  ·obtain ⟨i, hi, rfl⟩ := List.mem_map.1 hx
   exact ⟨D i, (hX i (List.mem_range.1 hi)).2.2, hw i (List.mem_range.1 hi)⟩
  ·refine ⟨(((List.range l0).map D).length + ((List.range (m - l0)).map fun j => D (l0 + j)).length) * P.bytesOf e, ?_, ?_⟩
   ·rw [hd, DataW.weights, ht]
    exact List.mem_cons_self ..
   ·refine Nat.mul_le_mul_right _ ?_
    simp
end
section
variable {H : Type} {enc : TypeId × Value → H} {w : World} {spare : Nat → Bool} {held : Bool}
def TG : List CK := [some (some .i64), none, none]
theorem flatSaid : flat Tryz.prog 5 35 = some TG := by kernel_rfl
theorem said_of (cs : List Value) (dd : DataW H) (q : List MemPlace) (m : Nat) (hf : Fits TG cs) (ht : DataW.trod enc Tryz.prog w 0 spare held m 35 cs = some (dd, q)) :
 ∃ x : Int × ByteArray × ByteArray, cs = EH x ∧ (InI x.1 ∧ x.2.2.size ≤ maxLen ∧ (bl x.2.1).length ∈ dd.weights Tryz.prog 35) := by
 have hS : Tryz.prog.underlying 35 = some (.struct (Tryz.prog.fieldsOf 35)) := by kernel_rfl
 have hF : Tryz.prog.fieldsOf 35 = #[⟨"Server", 3, 0, false, "", "", 0⟩, ⟨"Text", 9, 1, false, "", "", 8⟩, ⟨"Sig", 9, 2, false, "", "", 24⟩] := by kernel_rfl
 have u64 : Tryz.prog.underlying 3 = some (.int .i64) := by kernel_rfl
 have c64 : Tryz.prog.cellsOf 3 = 1 := by kernel_rfl
 have cE : Tryz.prog.cellsOf 35 = 3 := by kernel_rfl
 rw [hF] at hS
 obtain ⟨v0, e0', n', hv0, hwf⟩ := hf.2 0 (some (some .i64)) rfl
 obtain ⟨xs, n, rfl, hx, hl, hn, hel⟩ := DataW.trod_struct hS ht
 rw [cE] at hl
 match xs, hn with
 | [x0, x1, x2], _ =>
   obtain ⟨n, e0, d0⟩ := LaidE.R9 x0 u64 c64 (hel 0 _ rfl)
   obtain ⟨a, e1, d1, z1⟩ := LaidE.OZ (y := none) x1 (hel 1 _ rfl)
   obtain ⟨g, e2, d2, z2⟩ := LaidE.OZ (y := none) x2 (hel 2 _ rfl)
   have hnn : n = n' := by
    have h3 : (some (.int .i64 n) : Option Value) = some v0 := e0.symm.trans e0'
    rw [hv0] at h3
    simpa using h3
   subst hnn
   refine ⟨⟨n, a, g⟩, ?_, ?_, z2, ?_⟩
   ·unfold EH
    apply List.ext_getElem?
    intro i
    rcases i with _ | _ | _ | i
    ·exact e0
    ·exact e1
    ·exact e2
    ·rw [List.getElem?_eq_none (by omega), List.getElem?_eq_none (by simp)]
   ·simp [Lit.wf, IntKind.min, IntKind.max, IntKind.signed, IntKind.bits] at hwf
    exact hwf
   ·have hdd : dd = .agg ([x0, x1, x2].map (·.1)) := congrArg Prod.fst hx
    rw [hdd, DataW.weights, hS]
    simp only [List.map_cons, List.map_nil, d0, d1, d2, DataW.weightsEach, DataW.weights, List.mem_append, List.mem_cons, List.not_mem_nil, or_false]
    simp
end
theorem gr_of2 {H : Type} {enc : TypeId × Value → H} {w : World} {spare : Nat → Bool} {held : Bool} (cs : List Value) (dd : DataW H) (q : List MemPlace) (m : Nat) (hf : Fits LaidG.IU cs) (ht : DataW.trod enc Tryz.prog w 0 spare held m 65 cs = some (dd, q)) : ∃ x : BookA.Gr', cs = x.cs ∧ True := LaidG.Y2 cs hf
end LaidR
end Go.Proofs.YtceiajepcokacaaGreatDoor
