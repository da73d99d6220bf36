/-
  WHAT IS PROVED: contracts and plain laws. Condition: each names its own.
-/
import Derived.Test.YtceiajepcokacaaGreatDoorS0
import Derived.Test.YtceiajepcokacaaGreatDoorZHF18
set_option linter.unusedVariables false
set_option linter.unusedSimpArgs false
set_option maxRecDepth 100000
set_option maxHeartbeats 4000000
namespace Go.Proofs.YtceiajepcokacaaGreatDoor
open Go.Proofs.Tryz
namespace WireS
open OctetS IdentS EntS
/-! ### Small numbers -/
/-! ### Entries -/
/-! ### Heads -/
/-! ### Deals -/
/-! ### Proofs -/
/-! ### Rejections and questions -/
/-! ### Messages -/
def Eh : Nat → List UInt8
 | 1 => [115, 117, 98, 109, 105, 116]
 | 2 => [114, 101, 106, 101, 99, 116]
 | 3 => [101, 110, 116, 114, 121]
 | 4 => [104, 101, 97, 100]
 | 5 => [97, 115, 107]
 | 6 => [112, 114, 111, 111, 102]
 | 7 => [100, 101, 97, 108]
 | _ => []
structure Right (m : Ms) : Prop where
 f0 : 0 ≤ m.frm
 f1 : m.frm ≤ 63
 t0 : 0 ≤ m.to
 t1 : m.to ≤ 63
 k0 : 0 < m.kind
 k1 : m.kind < 8
 len : m.body.length ≤ 8192
 fit : fitsB m.kind.toNat m.body = true
def gp (m : Ms) : List (List UInt8) := [Eh m.kind.toNat, num m.frm.toNat, num m.to.toNat, m.body]
theorem iC (k : Nat) : (Eh k).length ≤ 6 := by
 unfold Eh
 split <;> simp
theorem gU {n : Int} (h0 : 0 ≤ n) (h1 : n ≤ 63) : (num n.toNat).length ≤ 2 := OctetS.CV (by omega)
theorem Right.fits {m : Ms} (h : Right m) : OctetS.fits (gp m) = true := by
 rw [Cq]
 refine ⟨by simp [gp], fun t ht => ?_⟩
 have h1 := gU h.f0 h.f1
 have h2 := gU h.t0 h.t1
 have h3 := iC m.kind.toNat
 simp only [gp, List.mem_cons, List.not_mem_nil, or_false] at ht
 rcases ht with rfl | rfl | rfl | rfl
 ·omega
 ·omega
 ·omega
 ·exact h.len
end WireS
namespace EqEnt
open Go Go.RowKit ShaB EqHash EntP OctP
theorem iZ (d : Nat) (a b : List UInt8) (w : World) : (Op.equalIn (d + 2) 44 (.agg (pB 32 a)) (.agg (pB 32 b))).run Tryz.prog w = .ok (hEq a b) w := by
 have hu : Tryz.prog.underlying 44 = some (.array 32 5) := by kernel_rfl
 have hc : Tryz.prog.cellsOf 5 = 1 := by kernel_rfl
 have hi : ∃ i, Tryz.prog.info? 5 = some i := info_of_underlying (show Tryz.prog.underlying 5 = some (.int .u8) by kernel_rfl)
 obtain ⟨i, hi⟩ := hi
 rw [show d + 2 = (d + 1) + 1 from rfl, run_equalIn_array w (d + 1) _ _ hu hi, hc]
 exact items w d a b (List.range 32) (fun i hi => by simpa using hi)
theorem gW (w : World) (xs : Array Value) (off : Nat) : (part 44 xs off).run Tryz.prog w = .ok (.agg (xs.extract off (off + 32))) w := by
 have hu : Tryz.prog.underlying 44 = some (.array 32 5) := by kernel_rfl
 obtain ⟨i, hi⟩ := info_of_underlying (P := Tryz.prog) hu
 have hc : Tryz.prog.cellsOf 44 = 32 := by kernel_rfl
 have hs := run_sizeOf w hi
 rw [hc] at hs
 simp [part, isAgg, run_underlying hu, Sem.run_bind, hs]
theorem Fz {P : Program} {w : World} {d : Nat} {xs ys : Array Value} {f : Field} {fs : List Field} {x y : Value} {r s : Bool} (hn : f.name ≠ "_") (h1 : (part f.type xs f.offset).run P w = .ok x w) (h2 : (part f.type ys f.offset).run P w = .ok y w)
 (h3 : (Op.equalIn d f.type x y).run P w = .ok r w) (h4 : (Op.eqFields d xs ys fs).run P w = .ok s w) : (Op.eqFields d xs ys (f :: fs)).run P w = .ok (r && s) w := by
 unfold Op.eqFields
 rw [if_pos hn]
 simp only [Sem.run_bind, h1, h2, h3, Result.andThen_ok]
 cases r
 ·simp
 ·simpa using h4
theorem ic {P : Program} {w : World} {d : Nat} {xs ys : Array Value} : (Op.eqFields d xs ys []).run P w = .ok true w := by simp [Op.eqFields]
end EqEnt
namespace EntK
open OctetS IdentS EntS EntB KeyS KeyN NSha
set_option maxRecDepth 100000
def jZ (ix : Nat) (s : List UInt8) : Ent := ⟨rm, 1, (ix : Int), z32, [120], s⟩
theorem right {ix : Nat} (hi : ix ≤ 4096) {s : List UInt8} (hs : s.length ≤ 8192) : Right (jZ ix s) := ⟨room0, by show (0 : Int) ≤ 1; omega, by show (1 : Int) ≤ 4096; omega, by show (0 : Int) ≤ ix; omega, by show (ix : Int) ≤ 4096; omega, by show 1 ≤ 8192; omega, hs⟩
end EntK
namespace EqHd
open Go Go.RowKit ShaB EqHash EqEnt WireT OctP
theorem iB (r : ByteArray) (ep ix : Int) (pv : List UInt8) (s : ByteArray) (hp : pv.length = 32) : (hdA r ep ix pv s).extract 3 35 = pB 32 pv := by
 rw [← pB_of hp]
 unfold hdA
 have h1 : (byV pv).length = 32 := by rw [AZ, hp]
 rw [List.extract_toArray]
 congr 1
 rw [List.extract_eq_take_drop]
 simp [h1]
theorem iQ (d : Nat) (r1 r2 s1 s2 : ByteArray) (a1 a2 b1 b2 : Int) (p1 p2 : List UInt8) (h1 : p1.length = 32) (h2 : p2.length = 32) (w : World) :
 (Op.eqFields (d + 2) (hdA r1 a1 b1 p1 s1) (hdA r2 a2 b2 p2 s2) [⟨"Room", 9, 0, false, "", "", 0⟩, ⟨"Epoch", 3, 1, false, "", "", 16⟩, ⟨"Index", 3, 2, false, "", "", 24⟩, ⟨"Sum", 44, 3, false, "", "", 32⟩, ⟨"Sig", 9, 35, false, "", "", 64⟩]).run Tryz.prog w =
 .ok (r1.toList == r2.toList && (a1 == a2 && (b1 == b2 && (hEq p1 p2 && s1.toList == s2.toList)))) w := by
 have u3 : Tryz.prog.underlying 3 = some (.int .i64) := by kernel_rfl
 have u9 : Tryz.prog.underlying 9 = some .string := by kernel_rfl
 have k3 : Tryz.prog.plainKey 3 = true := by kernel_rfl
 have k9 : Tryz.prog.plainKey 9 = true := by kernel_rfl
 have E1 : HdP (hdA r1 a1 b1 p1 s1) r1 a1 b1 p1 s1 := ⟨rfl, h1⟩
 have E2 : HdP (hdA r2 a2 b2 p2 s2) r2 a2 b2 p2 s2 := ⟨rfl, h2⟩
 have x1 := iB r1 a1 b1 p1 s1 h1
 have x2 := iB r2 a2 b2 p2 s2 h2
 obtain ⟨A, hA⟩ := nXe (hdA r1 a1 b1 p1 s1)
 obtain ⟨B, hB⟩ := nXe (hdA r2 a2 b2 p2 s2)
 rw [← hA] at E1 x1 ⊢
 rw [← hB] at E2 x2 ⊢
 have q0 := run_part_plain w k9 (off := 0) E1.c0
 have q0' := run_part_plain w k9 (off := 0) E2.c0
 have q1 := run_part_plain w k3 (off := 1) E1.c1
 have q1' := run_part_plain w k3 (off := 1) E2.c1
 have q2 := run_part_plain w k3 (off := 2) E1.c2
 have q2' := run_part_plain w k3 (off := 2) E2.c2
 have q3 := gW w A 3
 have q3' := gW w B 3
 have q5 := run_part_plain w k9 (off := 35) E1.c35
 have q5' := run_part_plain w k9 (off := 35) E2.c35
 rw [x1] at q3
 rw [x2] at q3'
 have z0 := run_equalIn_string (P := Tryz.prog) w (d + 1) 9 r1 r2 u9
 have z1 := run_equalIn_int (P := Tryz.prog) w (d + 1) 3 .i64 .i64 a1 a2 u3
 have z2 := run_equalIn_int (P := Tryz.prog) w (d + 1) 3 .i64 .i64 b1 b2 u3
 have z3 := iZ d p1 p2 w
 have z5 := run_equalIn_string (P := Tryz.prog) w (d + 1) 9 s1 s2 u9
 have h := Fz (f := ⟨"Room", 9, 0, false, "", "", 0⟩) (by decide) q0 q0' z0 (Fz (f := ⟨"Epoch", 3, 1, false, "", "", 16⟩) (by decide) q1 q1' z1 (Fz (f := ⟨"Index", 3, 2, false, "", "", 24⟩) (by decide) q2 q2' z2
  (Fz (f := ⟨"Sum", 44, 3, false, "", "", 32⟩) (by decide) q3 q3' z3 (Fz (f := ⟨"Sig", 9, 35, false, "", "", 64⟩) (by decide) q5 q5' z5 ic))))
 rw [Bool.and_true] at h
 exact h
theorem jP (r1 r2 s1 s2 : ByteArray) (a1 a2 b1 b2 : Int) (p1 p2 : List UInt8) (h1 : p1.length = 32) (h2 : p2.length = 32) (w : World) : (Op.equalIn 10000 46 (.agg (hdA r1 a1 b1 p1 s1)) (.agg (hdA r2 a2 b2 p2 s2))).run Tryz.prog w =
 .ok (r1.toList == r2.toList && (a1 == a2 && (b1 == b2 && (hEq p1 p2 && s1.toList == s2.toList)))) w := by
 have hS : Tryz.prog.underlying 46 = some (.struct (Tryz.prog.fieldsOf 46)) := by kernel_rfl
 have hF : (Tryz.prog.fieldsOf 46).toList = [⟨"Room", 9, 0, false, "", "", 0⟩, ⟨"Epoch", 3, 1, false, "", "", 16⟩, ⟨"Index", 3, 2, false, "", "", 24⟩, ⟨"Sum", 44, 3, false, "", "", 32⟩, ⟨"Sig", 9, 35, false, "", "", 64⟩] := by kernel_rfl
 have hp : Tryz.prog.stoodInHeld 46 = false := by kernel_rfl
 have h := iQ 9997 r1 r2 s1 s2 a1 a2 b1 b2 p1 p2 h1 h2 w
 rw [← hF] at h
 rw [show (10000 : Nat) = 9999 + 1 from rfl, run_equalIn_agg w 9999 46 _ _ hS hp]
 exact h
theorem iY : Go.Program.eqGuardType Tryz.prog Tryz.prog.depth 46 = false := by kernel_rfl
end EqHd
namespace HdK
open OctetS IdentS EntS KeyS KeyN NSha EntK WireS WireT
set_option maxRecDepth 100000
def ja : List UInt8 := OctetS.list [CL, rm, num 1, num 5, sm]
def G : List UInt8 := Dq [115] 1 0 ja
end HdK
namespace PfS
open OctetS IdentS ShaS EntS WireS WireT BookA BkF
def gZ (s : List UInt8) : Bool := decide (s.length ≤ 8192)
def Gg (p : Pf) : Bool := decide (0 ≤ p.server) && (decide (p.server ≤ 63) && (gZ p.a && (gZ p.sigA && (gZ p.b && gZ p.sigB))))
theorem gV {p : Pf} : Gg p = true ↔ 0 ≤ p.server ∧ p.server ≤ 63 ∧ p.a.length ≤ 8192 ∧ p.sigA.length ≤ 8192 ∧ p.b.length ≤ 8192 ∧ p.sigB.length ≤ 8192 := by
 simp [Gg, gZ]
def iT (L : List Gr') (p : Pf) (x y : Hd) : Int :=
 if x.room = y.room ∧ x.ep = y.ep ∧ x.ix = y.ix then
    (if x.sum = y.sum then 4 else if A7 L p.server x.ix p.a p.sigA = 0 then A7 L p.server x.ix p.b p.sigB else A7 L p.server x.ix p.a p.sigA)
 else 13
def F5 (L : List Gr') (p : Pf) : Int := if Gg p = true then (match says p.a, says p.b with | some x, some y => iT L p x y | _, _ => 6) else 2
theorem Bw {L : List Gr'} {p : Pf} : F5 L p = 0 ↔ Gg p = true ∧ ∃ x y, says p.a = some x ∧ says p.b = some y ∧ (x.room = y.room ∧ x.ep = y.ep ∧ x.ix = y.ix) ∧ x.sum ≠ y.sum ∧ A7 L p.server x.ix p.a p.sigA = 0 ∧ A7 L p.server x.ix p.b p.sigB = 0 := by
 unfold F5
 constructor
 ·intro h
  split at h
  ·rename_i hr
   refine ⟨hr, ?_⟩
   cases hx : says p.a with
   | none => rw [hx] at h; simp at h
   | some x =>
     cases hy : says p.b with
     | none => rw [hx, hy] at h; simp at h
     | some y =>
       rw [hx, hy] at h
       simp only [iT] at h
       split at h
       ·rename_i hp
        split at h
        ·cases h
        ·rename_i hs
         split at h
         ·rename_i hv
          exact ⟨x, y, rfl, rfl, hp, hs, hv, h⟩
         ·rename_i hv
          exact absurd h hv
       ·cases h
  ·cases h
 ·rintro ⟨hr, x, y, hx, hy, hp, hs, hv, hv2⟩
  rw [if_pos hr, hx, hy]
  simp only [iT]
  rw [if_pos hp, if_neg hs, if_pos hv, hv2]
end PfS
namespace PfA
open Go Go.RowKit Go.Shelf OctetS IdentS EntS OctP OctQ OctG IdentP EntP EventC ShaA Steps KeyA TreeA WireS WireT BookA BkF PfS
def gX (n : Int) (a x b y : ByteArray) : Pf := ⟨n, bl a, bl x, bl b, bl y⟩
theorem iN (n : Int) (a x b y : ByteArray) : Gg (gX n a x b y) = (decide (0 ≤ n) && (decide (n ≤ 63) && (decide (a.size ≤ 8192) && (decide (x.size ≤ 8192) && (decide (b.size ≤ 8192) && decide (y.size ≤ 8192)))))) := by
 show (decide (0 ≤ n) && (decide (n ≤ 63) && (decide ((bl a).length ≤ 8192) && (decide ((bl x).length ≤ 8192) && (decide ((bl b).length ≤ 8192) && decide ((bl y).length ≤ 8192)))))) = _
 rw [AP, AP, AP, AP]
theorem ig (w : World) (p : Array Value) (n : Int) (a x b y : ByteArray) (hp : p = pfA n a x b y) (ha : a.size ≤ 140737488351232) (hx : x.size ≤ maxLen) (hb' : b.size ≤ maxLen) (hy : y.size ≤ maxLen) :
 Calls Tryz.prog 29 #[.agg p] w (RB (.bool (Gg (gX n a x b y))) w) := by
 rw [iN]
 have p0 : p[0]? = some (.int .i64 n) := by rw [hp]; rfl
 have p1 : p[1]? = some (.string a) := by rw [hp]; rfl
 have p2 : p[2]? = some (.string x) := by rw [hp]; rfl
 have p3 : p[3]? = some (.string b) := by rw [hp]; rfl
 have p4 : p[4]? = some (.string y) := by rw [hp]; rfl
 have HpS := lh (show (Tryz.prog.info? 37).map (·.size) = some p.size by rw [hp]; kernel_rfl)
 obtain ⟨w0, hw0⟩ := nXe (w.alloc (.cells p 37))
 have hb0 : Below w.heap.size w w0 := by rw [hw0]; exact bAx
 have hx0 : w0.heap[w.heap.size]? = some (.cells p 37 (0, 0)) := by rw [hw0]; exact AL _ _
 obtain ⟨HX0, HBL0, HW0⟩ := l3h hx0 hb0 hw0
 unfold maxLen at hx hb' hy
 have hxe : (w.alloc (.cells p 37)).heap[w.heap.size]? = some (.cells p 37 (0, 0)) := AL _ _
 have c0 : (w.alloc (.cells p 37)).cell? ⟨w.heap.size, 0, none⟩ = some (.int .i64 n) := (AO hxe).trans p0
 have c1 : (w.alloc (.cells p 37)).cell? ⟨w.heap.size, 1, none⟩ = some (.string a) := (AO hxe).trans p1
 have c2 : (w.alloc (.cells p 37)).cell? ⟨w.heap.size, 2, none⟩ = some (.string x) := (AO hxe).trans p2
 have c3 : (w.alloc (.cells p 37)).cell? ⟨w.heap.size, 3, none⟩ = some (.string b) := (AO hxe).trans p3
 have c4 : (w.alloc (.cells p 37)).cell? ⟨w.heap.size, 4, none⟩ = some (.string y) := (AO hxe).trans p4
 have hbe : Below w.heap.size w (w.alloc (.cells p 37)) := bAx
 have HBE := lh hbe
 clear hxe hbe HX0 HBL0 HW0 p1 p2 p3 p4
 obtain ⟨M, hM⟩ : ∃ M : Int, M = max (max (max (a.size : Int) x.size) b.size) y.size := ⟨_, rfl⟩
 have jJ : decide (M ≤ 8192) = (decide (a.size ≤ 8192) && (decide (x.size ≤ 8192) && (decide (b.size ≤ 8192) && decide (y.size ≤ 8192)))) := by
  rw [hM, Bool.eq_iff_iff]
  simp only [Bool.and_eq_true, decide_eq_true_eq]
  omega
 rw [← jJ]
 have hmax : (if (y.size : Int) > (if (b.size : Int) > (if (x.size : Int) > (a.size : Int) then (x.size : Int) else (a.size : Int)) then (b.size : Int) else (if (x.size : Int) > (a.size : Int) then (x.size : Int) else (a.size : Int))) then (y.size : Int) else (if (b.size : Int) > (if (x.size : Int) > (a.size : Int) then (x.size : Int) else (a.size : Int)) then (b.size : Int) else (if (x.size : Int) > (a.size : Int) then (x.size : Int) else (a.size : Int)))) = M := by
  rw [hM]
  repeat' split
  all_goals omega
 have hrun : (Builtin.max_ #[3, 3, 3, 3] 3 #[.int .i64 (a.size : Int), .int .i64 (x.size : Int), .int .i64 (b.size : Int), .int .i64 (y.size : Int)]).run Tryz.prog (w.alloc (.cells p 37)) = .ok (.int .i64 M) (w.alloc (.cells p 37)) := by
  rw [← hmax]
  first | rfl | kernel_rfl
 have jH := lh hrun
 clear hrun
 clear hp hx0 hb0 hw0 jJ hmax hM
 by_cases h0 : 0 ≤ n
 ·rw [dT h0, Bool.true_and]
  have d0 : decide (0 ≤ n) = true := dT h0
  by_cases h1 : n ≤ 63
  ·rw [dT h1, Bool.true_and]
   have d1 : decide (n ≤ 63) = true := dT h1
   go_enter func29, ntmps29
   go_wp2
   rw [jH.out]
   go_wp2
   go_ret
   exact ⟨rfl, HBE.out⟩
  ·rw [dF h1, Bool.false_and]
   have d1 : decide (n ≤ 63) = false := dF h1
   go_enter func29, ntmps29
   go_wp2
   rw [jH.out]
   go_wp2
   go_ret
   exact ⟨rfl, HBE.out⟩
 ·rw [dF h0, Bool.false_and]
  have d0 : decide (0 ≤ n) = false := dF h0
  go_enter func29, ntmps29
  go_wp2
  rw [jH.out]
  go_wp2
  go_ret
  exact ⟨rfl, HBE.out⟩
end PfA
namespace SnS
open Go OctetS ShaS EntS WireS WireT BookA BkF PfS SnT
structure Fit (B : List Gr') (x : Sn) : Prop where
 says : says (bl x.text) = some x.h
 ok : A7 B x.sv x.h.ix (bl x.text) (bl x.sig) = 0
 tz : x.text.size ≤ 8192
 sz : x.sig.size ≤ 8192
def iK (B : List Gr') (L : List Sn) : Prop := (∀ x ∈ L, Fit B x) ∧ L.Pairwise (fun x y => atB y.sv y.h x = false)
theorem iK.nil (B : List Gr') : iK B [] := ⟨fun x hx => by simp at hx, List.Pairwise.nil⟩
theorem iO {B : List Gr'} {L : List Sn} {sv : Int} {h : Hd} {text sig : ByteArray} (hL : iK B L) (hs : says (bl text) = some h) (hv : A7 B sv h.ix (bl text) (bl sig) = 0) (h1 : text.size ≤ 8192) (h2 : sig.size ≤ 8192) : iK B (DI L sv h text sig).l := by
 unfold DI
 cases hf : first L sv h with
 | some x => simp only; split <;> exact hL
 | none =>
   simp only
   split
   ·exact hL
   ·refine ⟨fun x hx => ?_, ?_⟩
    ·rcases List.mem_append.1 hx with hx | hx
     ·exact hL.1 x hx
     ·simp only [List.mem_singleton] at hx
      subst hx
      exact ⟨hs, hv, h1, h2⟩
    ·rw [List.pairwise_append]
     refine ⟨hL.2, List.pairwise_singleton _ _, fun x hx y hy => ?_⟩
     simp only [List.mem_singleton] at hy
     subst hy
     simpa using List.find?_eq_none.1 hf x hx
end SnS
namespace PfC
open Go Go.RowKit Go.Shelf OctetS IdentS EntS OctP OctQ OctG IdentP EntP EventC ShaA Steps KeyA TreeA WireS WireT BookA BkF Lift PfS PfA
attribute [-go_sem] run_equalIn_agg
theorem gY (s : List UInt8) : ∃ (F : Array Value) (y : Int), hdV (says s) = .tuple #[.agg F, .int .i64 y] ∧ F.size = 36 ∧ F.all (·.oneCell') = true ∧ ((y = 6 ∧ says s = none) ∨ (y = 0 ∧ ∃ x, says s = some x ∧ F = hdA (bsOf x.room) x.ep x.ix x.sum ⟨#[]⟩ ∧ x.sum.length = 32 ∧ x.sig = [])) := by
 cases hx : says s with
 | none => exact ⟨hdZ, 6, rfl, rfl, Av _ _ _ _ _, .inl ⟨rfl, rfl⟩⟩
 | some x =>
   obtain ⟨_, hl, hsg⟩ := G9 hx
   refine ⟨_, 0, rfl, C8 hl, Av _ _ _ _ _, .inr ⟨rfl, x, rfl, ?_, hl, hsg⟩⟩
   rw [hsg]
   rfl
theorem iU (a b : List UInt8) : ((bsOf a).toList == (bsOf b).toList) = decide (a = b) := by
 by_cases h : a = b
 ·subst h
  simp
 ·rw [dF h]
  refine ET fun e => h ?_
  have := congrArg bl e
  rwa [AV, AV] at this
theorem iq (r1 r2 : List UInt8) (a1 a2 b1 b2 : Int) (p1 p2 : List UInt8) (h1 : p1.length = 32) (h2 : p2.length = 32) (w : World) : (Op.equalIn 10000 46 (.agg (hdA (bsOf r1) a1 b1 p1 ⟨#[]⟩)) (.agg (hdA (bsOf r2) a2 b2 p2 ⟨#[]⟩))).run Tryz.prog w = .ok (decide (r1 = r2 ∧ a1 = a2 ∧ b1 = b2 ∧ p1 = p2)) w := by
 rw [EqHd.jP _ _ _ _ _ _ _ _ _ _ h1 h2, iU]
 have h : EqHash.hEq p1 p2 = decide (p1 = p2) := by
  rw [Bool.eq_iff_iff, EqHash.hEq_iff h1 h2]
  simp
 rw [h]
 congr 1
 rw [Bool.eq_iff_iff]
 simp
theorem jA (r1 r2 : List UInt8) (a1 a2 b1 b2 : Int) (p1 : List UInt8) (h1 : p1.length = 32) (w : World) : (Op.equalIn 10000 46 (.agg (hdA (bsOf r1) a1 b1 p1 ⟨#[]⟩)) (.agg (hdA (bsOf r2) a2 b2 p1 ⟨#[]⟩))).run Tryz.prog w = .ok (decide (r1 = r2 ∧ a1 = a2 ∧ b1 = b2)) w := by
 rw [iq _ _ _ _ _ _ _ _ h1 h1]
 congr 1
 rw [Bool.eq_iff_iff]
 simp
theorem iI {w : World} {g : Nat} {r : ByteArray} {ep ix : Int} {z pv : List UInt8} {s : ByteArray} {t : TypeId} (hz : z.length = 32) (hp : pv.length = 32) (h : w.heap[g]? = some (.cells (hdA r ep ix z s) t (0, 0))) :
 (w.setCells g 3 (byV pv)).heap[g]? = some (.cells (hdA r ep ix pv s) t (0, 0)) := by
 obtain ⟨cs, h1, h2, h3, h4, h5⟩ := Cz (byV pv) 3 w _ h
 rw [h1]
 congr 2
 have hl : (byV pv).length = 32 := by rw [AZ, hp]
 have hP : HdP (hdA r ep ix pv s) r ep ix pv s := ⟨rfl, hp⟩
 have hZ : HdP (hdA r ep ix z s) r ep ix z s := ⟨rfl, hz⟩
 refine Array.ext_getElem? fun j => ?_
 rcases Nat.lt_or_ge j 3 with hj | hj
 ·rw [h3 j hj]
  match j, hj with
  | 0, _ => rw [hP.c0, hZ.c0]
  | 1, _ => rw [hP.c1, hZ.c1]
  | 2, _ => rw [hP.c2, hZ.c2]
 ·obtain ⟨k, rfl⟩ : ∃ k, j = 3 + k := ⟨j - 3, by omega⟩
  rcases Nat.lt_or_ge k 32 with hk | hk
  ·rw [h4 (by rw [hl, hZ.size]; omega) k (by omega)]
   obtain ⟨u, hu⟩ : ∃ u, (byV pv)[k]? = some u := ⟨_, List.getElem?_eq_getElem (by omega)⟩
   rw [hP.cp k u hu, hu]
  ·rw [h5 _ (by rw [hl]; omega)]
   rcases Nat.lt_or_ge k 33 with hk2 | hk2
   ·obtain rfl : k = 32 := by omega
    rw [show 3 + 32 = 35 from rfl, hP.c35, hZ.c35]
   ·rw [Array.getElem?_eq_none (by rw [hZ.size]; omega), Array.getElem?_eq_none (by rw [hP.size]; omega)]
theorem ik (w : World) (p : Array Value) (n : Int) (a x b y : ByteArray) (hp : p = pfA n a x b y) (ha : a.size ≤ 140737488351232) (hx : x.size ≤ maxLen) (hb' : b.size ≤ maxLen) (hy : y.size ≤ maxLen) (v : Value) (L : List Gr') (hL : Sl w v 36 L.length (L.flatMap Gr'.cs)) (hv : Am w) (hk : Au w) :
 Calls Tryz.prog 14 #[v, .agg p] w (RB (.int .i64 (F5 L (gX n a x b y))) w) := by
 have hR := fun w => ig w p n a x b y hp ha hx hb' hy
 have p0 : p[0]? = some (.int .i64 n) := by rw [hp]; rfl
 have p1 : p[1]? = some (.string a) := by rw [hp]; rfl
 have p2 : p[2]? = some (.string x) := by rw [hp]; rfl
 have p3 : p[3]? = some (.string b) := by rw [hp]; rfl
 have p4 : p[4]? = some (.string y) := by rw [hp]; rfl
 have HpS := lh (show (Tryz.prog.info? 37).map (·.size) = some p.size by rw [hp]; kernel_rfl)
 obtain ⟨w0, hw0⟩ := nXe (w.alloc (.cells p 37))
 have hb0 : Below w.heap.size w w0 := by rw [hw0]; exact bAx
 have hx0 : w0.heap[w.heap.size]? = some (.cells p 37 (0, 0)) := by rw [hw0]; exact AL _ _
 obtain ⟨HX0, HBL0, HW0⟩ := l3h hx0 hb0 hw0
 unfold maxLen at hx hb' hy
 cases hc : Gg (gX n a x b y)
 ·rw [hc] at hR
  unfold F5
  rw [hc, if_neg (by simp)]
  have HR := lh hR
  clear hR hc hp hb0 hw0
  go_enter func14, ntmps14
  go_wp2_with (first | (rw [← HW0.out]; refine wpList_load_row rfl _ _ rfl w.heap.size rfl _ p (0, 0) _ HX0.out underlying37 rfl HpS.out ?_) | fail)
  refine (HR.out w0).mono ?_
  rintro e' w1 ⟨rfl, hb⟩
  have HBL1 := tbB HBL0 hb
  clear hb
  go_wp2
  go_ret
  exact ⟨rfl, HBL1.out⟩
 ·rw [hc] at hR
  obtain ⟨_, _, ha2, hx2, hb2, hy2⟩ := gV.1 hc
  have hchk : F5 L (gX n a x b y) = (match says (bl a), says (bl b) with | some h1, some h2 => iT L (gX n a x b y) h1 h2 | _, _ => 6) := by
   unfold F5
   rw [hc, if_pos rfl]
   rfl
  simp only [gX, AP] at ha2 hx2 hb2 hy2
  obtain ⟨F1, y1, hF1, jE, jL, hc1⟩ := gY (bl a)
  obtain ⟨F2, y2, hF2, jD, jK, hc2⟩ := gY (bl b)
  have hA := fun w hv hk => F8 w a (by omega) hv hk
  have hB := fun w hv hk => F8 w b (by omega) hv hk
  rw [hF1] at hA
  rw [hF2] at hB
  have hV1 := fun w (at' : Int) (hL : Sl w v 36 L.length (L.flatMap Gr'.cs)) (hk : Au w) => BkF.E9 w v L n at' a x hL (by omega) (by unfold maxLen; omega) hk
  have hV2 := fun w (at' : Int) (hL : Sl w v 36 L.length (L.flatMap Gr'.cs)) (hk : Au w) => BkF.E9 w v L n at' b y hL (by omega) (by unfold maxLen; omega) hk
  obtain ⟨RES, hRES⟩ := nXe (F5 L (gX n a x b y))
  rw [← hRES]
  have HRES := lh hRES
  clear hRES
  obtain ⟨HR, HA, HB⟩ := l3h hR hA hB
  have gq := lh (show (Tryz.prog.info? 46).map (·.size) = some F1.size by rw [jE]; kernel_rfl)
  have iR := lh (show (Tryz.prog.info? 46).map (·.size) = some F2.size by rw [jD]; kernel_rfl)
  have jR := lh (show 36 = F1.size from jE.symm)
  have jN := lh (show 36 = F2.size from jD.symm)
  obtain ⟨jQ, jM, HV, HK, HSL, HV1, HV2, HCK, HC1⟩ := l9h jL jK hv hk hL hV1 hV2 hchk hc1
  have HC2 := lh hc2
  clear hR hA hB hF1 hF2 jE jD jL jK hc hp hb0 hw0 hv hk hL hV1 hV2 hchk hc1 hc2 ha hx hb' hy ha2 hx2 hb2 hy2
  go_enter func14, ntmps14
  go_wp2_with (first | (rw [← HW0.out]; refine wpList_load_row rfl _ _ rfl w.heap.size rfl _ p (0, 0) _ HX0.out underlying37 rfl HpS.out ?_) | fail)
  refine (HR.out w0).mono ?_
  rintro e' w1 ⟨rfl, hb⟩
  have HX1 := kpB hb HX0
  have HBL1 := tbB HBL0 hb
  clear hb
  have c1 : w1.cell? ⟨w.heap.size, 1, none⟩ = some (.string a) := (AO HX1.out).trans p1
  go_wp2_with fail
  refine (HA.out w1 (HV.out.below HBL1.out) (HK.out.below HBL1.out)).mono ?_
  rintro e' w2 ⟨rfl, hb⟩
  have HX2 := kpB hb HX1
  have HBL2 := tbB HBL1 hb
  clear hb c1
  go_wp2_with (first | (refine AC rfl _ _ _ rfl w2.heap.size F1 rfl rfl _ _ (AL _ _) gq.out (by rw [← jR.out]; rfl) jQ.out ?_) | fail)
  intro u hu
  obtain ⟨w3, hw3⟩ := nXe (u)
  rw [← hw3] at hu ⊢
  clear hw3
  have hb : Below w2.heap.size w2 w3 := by rw [hu.out]; exact AQ bAx nR _
  have HY3 := lh (show w3.heap[w2.heap.size]? = some (.cells F1 46 (0, 0)) by rw [hu.out]; exact AR (AL _ _))
  obtain ⟨B1, hB1⟩ := nXe (w2.heap.size)
  rw [← hB1] at HY3 ⊢
  have HX3 := kpB hb HX2
  have HBL3 := tbB HBL2 hb
  clear hb hu hB1
  have c3 : w3.cell? ⟨w.heap.size, 3, none⟩ = some (.string b) := (AO HX3.out).trans p3
  go_wp2_with fail
  refine (HB.out w3 (HV.out.below HBL3.out) (HK.out.below HBL3.out)).mono ?_
  rintro e' w4 ⟨rfl, hb⟩
  have HX4 := kpB hb HX3
  have HY4 := kpB hb HY3
  have HBL4 := tbB HBL3 hb
  clear hb c3
  go_wp2_with (first | (refine AC rfl _ _ _ rfl w4.heap.size F2 rfl rfl _ _ (AL _ _) iR.out (by rw [← jN.out]; rfl) jM.out ?_) | fail)
  intro u hu
  obtain ⟨w5, hw5⟩ := nXe (u)
  rw [← hw5] at hu ⊢
  clear hw5
  have hb : Below w4.heap.size w4 w5 := by rw [hu.out]; exact AQ bAx nR _
  have HZ5 := lh (show w5.heap[w4.heap.size]? = some (.cells F2 46 (0, 0)) by rw [hu.out]; exact AR (AL _ _))
  obtain ⟨B2, hB2⟩ := nXe (w4.heap.size)
  have jY : B1 < B2 := by rw [hB2]; exact AJ HY4.out
  have jX : w.heap.size ≤ B2 := by rw [hB2]; exact HBL4.out.size
  rw [← hB2] at HZ5 ⊢
  have HX5 := kpB hb HX4
  have HY5 := kpB hb HY4
  have HBL5 := tbB HBL4 hb
  clear hb hu hB2
  rcases HC1.out with ⟨rfl, hs1⟩ | ⟨rfl, h1, hs1, hF1, hl1, hg1⟩
  ·obtain rfl : RES = 6 := by rw [HRES.out, HCK.out, hs1]
   go_wp2
   go_ret
   exact ⟨rfl, HBL5.out⟩
  rcases HC2.out with ⟨rfl, hs2⟩ | ⟨rfl, h2, hs2, hF2, hl2, hg2⟩
  ·obtain rfl : RES = 6 := by rw [HRES.out, HCK.out, hs1, hs2]
   go_wp2
   go_ret
   exact ⟨rfl, HBL5.out⟩
  have hres : RES = (if h1.room = h2.room ∧ h1.ep = h2.ep ∧ h1.ix = h2.ix then (if h1.sum = h2.sum then 4 else if A7 L n h1.ix (bl a) (bl x) = 0 then A7 L n h1.ix (bl b) (bl y) else A7 L n h1.ix (bl a) (bl x)) else 13) := by
   rw [HRES.out, HCK.out, hs1, hs2]
   rfl
  obtain ⟨r1, hr1⟩ := nXe (h1.room)
  obtain ⟨e1, he1⟩ := nXe (h1.ep)
  obtain ⟨i1, hi1⟩ := nXe (h1.ix)
  obtain ⟨s1, iy⟩ : ∃ r, r = h1.sum := ⟨_, rfl⟩
  obtain ⟨r2, hr2⟩ := nXe (h2.room)
  obtain ⟨e2, he2⟩ := nXe (h2.ep)
  obtain ⟨i2, hi2⟩ := nXe (h2.ix)
  obtain ⟨s2, iw⟩ : ∃ r, r = h2.sum := ⟨_, rfl⟩
  rw [← hr1, ← he1, ← hi1, ← iy] at hF1 hres
  rw [← hr2, ← he2, ← hi2, ← iw] at hF2 hres
  rw [← iy] at hl1
  rw [← iw] at hl2
  clear hr1 he1 hi1 iy hr2 he2 hi2 iw hs1 hs2 hg1 hg2
  have hP1 : HdP F1 (bsOf r1) e1 i1 s1 ⟨#[]⟩ := ⟨hF1, hl1⟩
  have hP2 : HdP F2 (bsOf r2) e2 i2 s2 ⟨#[]⟩ := ⟨hF2, hl2⟩
  have HVA := lh (fun w hL hk => HV1.out w i1 hL hk)
  have HVB := lh (fun w hL hk => HV2.out w i1 hL hk)
  generalize A7 L n i1 (bl a) (bl x) = V1 at HVA hres
  generalize A7 L n i1 (bl b) (bl y) = V2 at HVB hres
  have HRE := lh hres
  clear hres HRES HV1 HV2 HA HB HR HC1 HC2 HCK
  have hq1 := fun w => jA r1 r2 e1 e2 i1 i2 s1 hl1 w
  have hq2 := fun w => iq r1 r2 e1 e2 i1 i2 s1 s2 hl1 hl2 w
  rw [← hF1] at hq1 hq2
  rw [← hF2] at hq2
  obtain ⟨O, hO⟩ := nXe (hdA (bsOf r2) e2 i2 s1 ⟨#[]⟩)
  rw [← hO] at hq1
  obtain ⟨HQ1, HQ2⟩ := l2h hq1 hq2
  clear hq1 hq2
  have HOS := lh (show (Tryz.prog.info? 46).map (·.size) = some O.size by rw [hO, C8 hl1]; kernel_rfl)
  obtain ⟨C, hC⟩ : ∃ C : Array Value, C = (byV s1).toArray := ⟨_, rfl⟩
  have hCn : C.size = 32 := by rw [hC]; simp [AZ, hl1]
  have HCS := lh (show (Tryz.prog.info? 44).map (·.size) = some C.size by rw [hCn]; kernel_rfl)
  have HCO := lh (show C.all (·.oneCell') = true by rw [hC]; simp [byV, Value.oneCell'])
  have hCc : ∀ (W : World), W.heap[B1]? = some (.cells F1 46 (0, 0)) → ∀ (j : Nat) (u : Value), C.toList[j]? = some u → W.cell? ⟨B1, 3 + j, none⟩ = some u := fun W hW j u hu => by
   rw [hC] at hu
   rw [AO hW]
   exact hP1.cp j u hu
  have HCc := lh hCc
  have hset : ∀ (W : World) (g : Nat), W.heap[g]? = some (.cells F2 46 (0, 0)) → (W.setCells g 3 C.toList).heap[g]? = some (.cells O 46 (0, 0)) := fun W g hW => by
   rw [hC, hO]
   rw [hF2] at hW
   exact iI hl2 hl1 hW
  have hth : ∀ (W : World) (g : Nat), W.heap[g]? = some (.cells F2 46 (0, 0)) → W.there g 3 C.size := fun W g hW j hj => by
   rw [hCn] at hj
   refine ⟨?_, BK hW⟩
   rw [AO hW, Array.getElem?_eq_getElem (by rw [hP2.size]; omega)]
   rfl
  obtain ⟨Hset, Hth⟩ := l2h hset hth
  have c12 : F1[2]? = some (.int .i64 i1) := hP1.c2
  have hGH := EqHd.iY
  clear hC hCn hCc hset hth hF1 hF2 hO hl1 hl2 hP1 hP2
  go_wp2_with (first | (refine wpList_load_row rfl _ _ rfl B2 rfl _ F2 (0, 0) _ HZ5.out underlying46 rfl iR.out ?_) | (refine AC rfl _ _ _ rfl w5.heap.size F2 rfl rfl _ _ (AL _ _) iR.out (by rw [← jN.out]; rfl) jM.out ?_) | fail)
  intro u hu
  obtain ⟨w6, hw6⟩ := nXe (u)
  rw [← hw6] at hu ⊢
  clear hw6
  have hb : Below w5.heap.size w5 w6 := by rw [hu.out]; exact AQ bAx nR _
  have HO6 := lh (show w6.heap[w5.heap.size]? = some (.cells F2 46 (0, 0)) by rw [hu.out]; exact AR (AL _ _))
  obtain ⟨B3, hB3⟩ := nXe (w5.heap.size)
  have jW : B2 < B3 := by rw [hB3]; exact AJ HZ5.out
  rw [← hB3] at HO6 ⊢
  have HX6 := kpB hb HX5
  have HY6 := kpB hb HY5
  have HZ6 := kpB hb HZ5
  have jT := tbB HBL5 hb
  clear hb hu hB3
  obtain ⟨jI, jG⟩ := l2h (HCc.out w6 HY6.out) (Hth.out w6 B3 HO6.out)
  obtain ⟨w7, hw7⟩ := nXe (w6.setCells B3 3 C.toList)
  have hE7 : Ext (fun k => k = B3) w6 w7 := by rw [hw7]; exact Ext.setMany B3 _ 3 w6
  have HO7 := lh (show w7.heap[B3]? = some (.cells O 46 (0, 0)) by rw [hw7]; exact Hset.out w6 B3 HO6.out)
  have HY7 := lh (hE7.Ai HY6.out (fun h => by omega))
  have HZ7 := lh (hE7.Ai HZ6.out (fun h => by omega))
  have HX7 := lh (hE7.Ai HX6.out (fun h => by omega))
  have iJ := lh (Bl.ext jT.out hE7 (fun k h1 h => by omega))
  have HW7 := lh hw7
  clear hE7 hw7
  have c02 : w7.cell? ⟨B1, 2, none⟩ = some (.int .i64 i1) := (AO HY7.out).trans c12
  have hres := HRE.out
  clear HRE
  by_cases hpl : r1 = r2 ∧ e1 = e2 ∧ i1 = i2
  ·have hd1 : decide (r1 = r2 ∧ e1 = e2 ∧ i1 = i2) = true := dT hpl
   rw [if_pos hpl] at hres
   by_cases hss : s1 = s2
   ·have hd2 : decide (r1 = r2 ∧ e1 = e2 ∧ i1 = i2 ∧ s1 = s2) = true := dT ⟨hpl.1, hpl.2.1, hpl.2.2, hss⟩
    rw [if_pos hss] at hres
    subst hres
    have hq1 := HQ1.out
    have hq2 := HQ2.out
    rw [hd1] at hq1
    rw [hd2] at hq2
    clear hd1 hd2 hpl hss HQ1 HQ2
    go_wp2_with (first | (refine Ah rfl _ _ rfl B1 3 rfl C jI.out underlying44 rfl HCS.out ?_) | (refine wpList_store_mid rfl _ _ _ rfl B3 3 C rfl rfl jG.out HCS.out HCO.out ?_) | (rw [← HW7.out]; refine wpList_load_row rfl _ _ rfl B1 rfl _ F1 (0, 0) _ HY7.out underlying46 rfl gq.out ?_) | (refine wpList_load_row rfl _ _ rfl B1 rfl _ F1 (0, 0) _ HY7.out underlying46 rfl gq.out ?_) | (refine wpList_load_row rfl _ _ rfl B3 rfl _ O (0, 0) _ HO7.out underlying46 rfl HOS.out ?_) | (refine wpList_load_row rfl _ _ rfl B2 rfl _ F2 (0, 0) _ HZ7.out underlying46 rfl iR.out ?_) | fail)
    go_ret
    exact ⟨rfl, iJ.out⟩
   ·have hd2 : decide (r1 = r2 ∧ e1 = e2 ∧ i1 = i2 ∧ s1 = s2) = false := dF (fun h => hss h.2.2.2)
    rw [if_neg hss] at hres
    have hq1 := HQ1.out
    have hq2 := HQ2.out
    rw [hd1] at hq1
    rw [hd2] at hq2
    clear hd1 hd2 hpl hss HQ1 HQ2
    have c0 : w7.cell? ⟨w.heap.size, 0, none⟩ = some (.int .i64 n) := (AO HX7.out).trans p0
    have c1 : w7.cell? ⟨w.heap.size, 1, none⟩ = some (.string a) := (AO HX7.out).trans p1
    have c2 : w7.cell? ⟨w.heap.size, 2, none⟩ = some (.string x) := (AO HX7.out).trans p2
    have HRE := lh hres
    clear hres
    go_wp2_with (first | (refine Ah rfl _ _ rfl B1 3 rfl C jI.out underlying44 rfl HCS.out ?_) | (refine wpList_store_mid rfl _ _ _ rfl B3 3 C rfl rfl jG.out HCS.out HCO.out ?_) | (rw [← HW7.out]; refine wpList_load_row rfl _ _ rfl B1 rfl _ F1 (0, 0) _ HY7.out underlying46 rfl gq.out ?_) | (refine wpList_load_row rfl _ _ rfl B1 rfl _ F1 (0, 0) _ HY7.out underlying46 rfl gq.out ?_) | (refine wpList_load_row rfl _ _ rfl B3 rfl _ O (0, 0) _ HO7.out underlying46 rfl HOS.out ?_) | (refine wpList_load_row rfl _ _ rfl B2 rfl _ F2 (0, 0) _ HZ7.out underlying46 rfl iR.out ?_) | fail)
    refine (HVA.out w7 (HSL.out.below iJ.out) (HK.out.below iJ.out)).mono ?_
    rintro e' wa ⟨rfl, hb⟩
    have HXa := kpB hb HX7
    have il := lh ((iJ.out).trans (hb.mono (iJ.out).size))
    clear hb c0 c1 c2 c02
    have hres := HRE.out
    clear HRE
    by_cases hv0 : V1 = 0
    ·rw [if_pos hv0] at hres
     subst hv0
     subst hres
     have c0 : wa.cell? ⟨w.heap.size, 0, none⟩ = some (.int .i64 n) := (AO HXa.out).trans p0
     have c3 : wa.cell? ⟨w.heap.size, 3, none⟩ = some (.string b) := (AO HXa.out).trans p3
     have c4 : wa.cell? ⟨w.heap.size, 4, none⟩ = some (.string y) := (AO HXa.out).trans p4
     go_wp2_with fail
     refine (HVB.out wa (HSL.out.below il.out) (HK.out.below il.out)).mono ?_
     rintro e' wb ⟨rfl, hb⟩
     have jS := tbB il hb
     clear hb
     go_wp2
     go_ret
     exact ⟨rfl, jS.out⟩
    ·rw [if_neg hv0] at hres
     have hv1 : (V1 != 0) = true := by simpa using hv0
     have hv2 : (V1 == 0) = false := by simpa using hv0
     subst hres
     go_wp2
     go_ret
     exact ⟨rfl, il.out⟩
  ·have hd1 : decide (r1 = r2 ∧ e1 = e2 ∧ i1 = i2) = false := dF hpl
   rw [if_neg hpl] at hres
   subst hres
   have hq1 := HQ1.out
   rw [hd1] at hq1
   clear hd1 hpl HQ1 HQ2
   go_wp2_with (first | (refine Ah rfl _ _ rfl B1 3 rfl C jI.out underlying44 rfl HCS.out ?_) | (refine wpList_store_mid rfl _ _ _ rfl B3 3 C rfl rfl jG.out HCS.out HCO.out ?_) | (rw [← HW7.out]; refine wpList_load_row rfl _ _ rfl B1 rfl _ F1 (0, 0) _ HY7.out underlying46 rfl gq.out ?_) | (refine wpList_load_row rfl _ _ rfl B1 rfl _ F1 (0, 0) _ HY7.out underlying46 rfl gq.out ?_) | (refine wpList_load_row rfl _ _ rfl B3 rfl _ O (0, 0) _ HO7.out underlying46 rfl HOS.out ?_) | fail)
   go_ret
   exact ⟨rfl, iJ.out⟩
end PfC
namespace SnZ
open Go OctetS ShaS EntS WireS WireT BookA BkR BkC BkF PfS PfA SnT SnS
abbrev Sd := Int × ByteArray × ByteArray
def Ec (sv : Int) (h : Hd) (y : Sd) : Bool := match says (bl y.2.1) with
 | some g => decide (y.1 = sv) && (decide (g.room = h.room) && (decide (g.ep = h.ep) && (decide (g.ix = h.ix) && !decide (g.sum = h.sum))))
 | none => false
theorem gu {sv : Int} {h : Hd} {y : Sd} : Ec sv h y = true ↔ ∃ g, says (bl y.2.1) = some g ∧ y.1 = sv ∧ g.room = h.room ∧ g.ep = h.ep ∧ g.ix = h.ix ∧ g.sum ≠ h.sum := by
 unfold Ec
 cases says (bl y.2.1) with
 | none => simp
 | some g => simp
structure Plain (B : List Gr') (L : List Sn) (H : List Sd) (T : List Bool) : Prop where
 fit : iK B L
 heard : ∀ x ∈ L, ∃ y ∈ H, y.1 = x.sv ∧ says (bl y.2.1) = some x.h
 first : ∀ y ∈ H, ∃ g z, says (bl y.2.1) = some g ∧ first L y.1 g = some z ∧ (z.h.sum = g.sum ∨ true ∈ T)
theorem Plain.nil (B : List Gr') : Plain B [] [] [] := ⟨iK.nil B, fun x hx => by simp at hx, fun x hx => by simp at hx⟩
theorem Plain.more {B : List Gr'} {L : List Sn} {H : List Sd} {T : List Bool} (h : Plain B L H T) (b : Bool) : Plain B L H (T ++ [b]) :=
 ⟨h.fit, h.heard, fun y hy => by
  obtain ⟨g, z, h1, h2, h3⟩ := h.first y hy
  exact ⟨g, z, h1, h2, h3.imp id (fun h => List.mem_append_left _ h)⟩⟩
theorem jF {sv sv' : Int} {h h' : Hd} (e1 : sv = sv') (e2 : h.room = h'.room) (e3 : h.ep = h'.ep) (e4 : h.ix = h'.ix) : atB sv h = atB sv' h' := by
 funext x
 unfold atB
 rw [e1, e2, e3, e4]
theorem iD {B : List Gr'} {sv at' : Int} {a b : List UInt8} (h : A7 B sv at' a b = 0) : 0 ≤ sv ∧ sv ≤ 63 := by
 unfold A7 at h
 split at h
 ·rename_i hb
  split at h
  ·rename_i g hg
   have hr := Gm hb (List.mem_of_find?_eq_some hg)
   have hf := List.find?_some hg
   unfold Bo at hf
   simp only [Bool.and_eq_true, beq_iff_eq] at hf
   rw [← hf.1]
   exact ⟨hr.s0, hr.s1⟩
  ·cases h
 ·cases h
structure Fine (B : List Gr') (L : List Sn) (H : List Sd) (T : List Bool) (sv : Int) (text sig : ByteArray) (h : Hd) (O : Out) : Prop where
 says : says (bl text) = some h
 proof : O.is = true → ∃ a g : ByteArray, O.p = pfA sv a g text sig ∧ a.size ≤ 8192 ∧ g.size ≤ 8192 ∧ F5 B (gX sv a g text sig) = 0
 two : O.is = true → H.any (Ec sv h) = true
 noted : O.is = false → H.any (Ec sv h) = true → ∃ z, SnT.first O.l sv h = some z ∧ PfS.says (bl z.text) = some z.h ∧ z.h.sum = h.sum ∧ true ∈ T ∧ z.text.size ≤ 8192
 plain : Plain B O.l (H ++ [(sv, text, sig)]) (T ++ [O.is])
theorem iV {B : List Gr'} {L : List Sn} {sv : Int} {text sig : ByteArray} (hO : (CE B L sv text sig).y ≠ 0) : (CE B L sv text sig).is = false ∧ (CE B L sv text sig).l = L := by
 revert hO
 unfold CE
 split
 ·exact fun _ => ⟨rfl, rfl⟩
 ·split
  ·exact fun _ => ⟨rfl, rfl⟩
  ·split
   ·unfold DI
    split
    ·split
     ·exact fun _ => ⟨rfl, rfl⟩
     ·exact fun h => absurd rfl h
    ·split
     ·exact fun _ => ⟨rfl, rfl⟩
     ·exact fun h => absurd rfl h
   ·exact fun _ => ⟨rfl, rfl⟩
theorem fine {B : List Gr'} {L : List Sn} {H : List Sd} {T : List Bool} {sv : Int} {text sig : ByteArray} (P : Plain B L H T) (hO : (CE B L sv text sig).y = 0) : ∃ h, Fine B L H T sv text sig h (CE B L sv text sig) := by
 revert hO
 unfold CE
 cases hlong : Ey text sig
 ·simp only [Bool.false_eq_true, if_false]
  obtain ⟨tz, gz⟩ := long_no hlong
  cases hs : says (bl text) with
  | none => intro h; cases h
  | some h =>
    simp only
    by_cases hv : A7 B sv h.ix (bl text) (bl sig) = 0
    ·rw [if_pos hv]
     intro hO
     refine ⟨h, ?_⟩
     obtain ⟨s0, s1⟩ := iD hv
     have key : ∀ y ∈ H, Ec sv h y = true → ∃ g z, says (bl y.2.1) = some g ∧ SnT.first L sv h = some z ∧ (z.h.sum = g.sum ∨ true ∈ T) ∧ g.sum ≠ h.sum := fun y hy ht => by
      obtain ⟨g, h1, h2, h3, h4, h5, h6⟩ := gu.1 ht
      obtain ⟨g', z, k1, k2, k3⟩ := P.first y hy
      rw [h1] at k1
      obtain rfl := Option.some.inj k1
      refine ⟨g, z, h1, ?_, k3, h6⟩
      rw [← k2]
      unfold SnT.first
      rw [jF h2 h3 h4 h5]
     unfold DI at hO ⊢
     cases hf : SnT.first L sv h with
     | some z =>
       rw [hf] at hO
       simp only at hO ⊢
       have hm := List.mem_of_find?_eq_some hf
       obtain ⟨a1, a2, a3, a4⟩ := F6.1 (List.find?_some hf)
       have hz := P.fit.1 z hm
       by_cases hse : z.h.sum = h.sum
       ·rw [if_pos hse]
        refine ⟨hs, (fun h => by cases h), (fun h => by cases h), fun _ ht => ?_, P.fit, fun x hx => ?_, fun y hy => ?_⟩
        ·obtain ⟨y, hy, hty⟩ := List.any_eq_true.1 ht
         obtain ⟨g, z', h1, h2, h3, h4⟩ := key y hy hty
         rw [hf] at h2
         obtain rfl := Option.some.inj h2
         refine ⟨z, hf, hz.says, hse, ?_, hz.tz⟩
         rcases h3 with h3 | h3
         ·exact absurd (h3.symm.trans hse) h4
         ·exact h3
        ·obtain ⟨y, hy, h1, h2⟩ := P.heard x hx
         exact ⟨y, List.mem_append_left _ hy, h1, h2⟩
        ·rcases List.mem_append.1 hy with hy | hy
         ·exact (P.more _).first y hy
         ·simp only [List.mem_singleton] at hy
          subst hy
          exact ⟨h, z, hs, hf, .inl hse⟩
       ·rw [if_neg hse]
        refine ⟨hs, fun _ => ⟨z.text, z.sig, rfl, hz.tz, hz.sz, ?_⟩, fun _ => ?_, (fun h => by cases h), P.fit, fun x hx => ?_, fun y hy => ?_⟩
        ·refine Bw.2 ⟨PfS.gV.2 ⟨s0, s1, ?_, ?_, ?_, ?_⟩, z.h, h, hz.says, hs, ⟨a2, a3, a4⟩, hse, ?_, ?_⟩
         ·show (bl z.text).length ≤ 8192
          rw [AP]; exact hz.tz
         ·show (bl z.sig).length ≤ 8192
          rw [AP]; exact hz.sz
         ·show (bl text).length ≤ 8192
          rw [AP]; exact tz
         ·show (bl sig).length ≤ 8192
          rw [AP]; exact gz
         ·show A7 B sv z.h.ix _ _ = 0
          rw [← a1]; exact hz.ok
         ·show A7 B sv z.h.ix _ _ = 0
          rw [a4]; exact hv
        ·obtain ⟨y, hy, h1, h2⟩ := P.heard z hm
         exact List.any_eq_true.2 ⟨y, hy, gu.2 ⟨z.h, h2, h1.trans a1, a2, a3, a4, hse⟩⟩
        ·obtain ⟨y, hy, h1, h2⟩ := P.heard x hx
         exact ⟨y, List.mem_append_left _ hy, h1, h2⟩
        ·rcases List.mem_append.1 hy with hy | hy
         ·exact (P.more _).first y hy
         ·simp only [List.mem_singleton] at hy
          subst hy
          exact ⟨h, z, hs, hf, .inr (by simp)⟩
     | none =>
       rw [hf] at hO
       simp only at hO ⊢
       by_cases h40 : L.length = 4096
       ·rw [if_pos h40] at hO
        cases hO
       ·rw [if_neg h40]
        have hfit := iO P.fit hs hv tz gz
        unfold DI at hfit
        rw [hf] at hfit
        simp only at hfit
        rw [if_neg h40] at hfit
        have hnew : SnT.first (L ++ [⟨sv, h, text, sig⟩]) sv h = some ⟨sv, h, text, sig⟩ := by
            unfold SnT.first at hf ⊢
            rw [List.find?_append, hf]
            simp [atB]
        refine ⟨hs, (fun h => by cases h), (fun h => by cases h), fun _ ht => ?_, hfit, fun x hx => ?_, fun y hy => ?_⟩
        ·obtain ⟨y, hy, hty⟩ := List.any_eq_true.1 ht
         obtain ⟨g, z', h1, h2, h3, h4⟩ := key y hy hty
         rw [hf] at h2
         cases h2
        ·rcases List.mem_append.1 hx with hx | hx
         ·obtain ⟨y, hy, h1, h2⟩ := P.heard x hx
          exact ⟨y, List.mem_append_left _ hy, h1, h2⟩
         ·simp only [List.mem_singleton] at hx
          subst hx
          exact ⟨(sv, text, sig), by simp, rfl, hs⟩
        ·rcases List.mem_append.1 hy with hy | hy
         ·obtain ⟨g, z, h1, h2, h3⟩ := (P.more false).first y hy
          refine ⟨g, z, h1, ?_, h3⟩
          unfold SnT.first at h2 ⊢
          rw [List.find?_append, h2]
          rfl
         ·simp only [List.mem_singleton] at hy
          subst hy
          exact ⟨h, _, hs, hnew, .inl rfl⟩
    ·rw [if_neg hv]
     intro h
     exact absurd h hv
 ·simp only [if_true]
  intro h
  cases h
def FZ (n : Nat) (T : List Bool) : Array Value := ((T ++ List.replicate (n - T.length) false).map Value.bool).toArray
theorem iA {n : Nat} {T : List Bool} {k : Nat} {b : Bool} (h : T[k]? = some b) : (FZ n T)[k]? = some (.bool b) := by
 unfold FZ
 rw [List.getElem?_toArray, List.getElem?_map, List.getElem?_append_left (List.getElem?_eq_some_iff.1 h).1, h]
 rfl
theorem gy {n : Nat} {T : List Bool} (h : T.length < n) : FZ n (T ++ [false]) = FZ n T := by
 unfold FZ
 congr 2
 rw [List.length_append, List.length_singleton, List.append_assoc, show n - T.length = (n - (T.length + 1)) + 1 by omega, List.replicate_succ]
 rfl
theorem iL {n : Nat} {T : List Bool} (h : T.length < n) (b : Bool) : (FZ n T).setIfInBounds T.length (.bool b) = FZ n (T ++ [b]) := by
 unfold FZ
 rw [List.setIfInBounds_toArray]
 congr 1
 rw [List.length_append, List.length_singleton, List.append_assoc, show n - T.length = (n - (T.length + 1)) + 1 by omega, List.replicate_succ, List.map_append, List.map_append, List.map_cons, List.set_append_right _ _ (by simp), List.length_map, Nat.sub_self, List.set_cons_zero]
 simp
theorem iM {T : List Bool} (h : true ∈ T) : T.any id = true := List.any_eq_true.2 ⟨true, h, rfl⟩
end SnZ
end Go.Proofs.YtceiajepcokacaaGreatDoor
