/-
  WHAT IS PROVED: contracts of functions, and plain laws. Condition: what each theorem names.
-/
import Derived.Test.YtadofbbpfgmclaaGreatDoorS0
import Derived.Test.YtadofbbpfgmclaaGreatDoorZTBH17
import Derived.Test.YtadofbbpfgmclaaGreatDoorZTH21
set_option linter.unusedVariables false
set_option linter.unusedSimpArgs false
set_option maxRecDepth 100000
set_option maxHeartbeats 4000000
namespace Go.Proofs.YtadofbbpfgmclaaGreatDoor
namespace ShaW
open Go Go.RowKit U32 ShaS ShaT Steps
attribute [local go_sem high] Gq GG b_or Gp Ez b_shr3 GZ
end ShaW
namespace ShaA
open Go Go.RowKit U32 ShaS ShaT ShaW Steps
attribute [local go_sem high] Gq GG b_or Gp Ez b_shr3 GZ
theorem Al.ext {S : Nat → Prop} {w w' : World} (h : Al w) (he : Ext S w w') (h1 : ¬ S 1) (h2 : ¬ S 0) : Al w' :=
 ⟨fun t ht => he.cellOf (h.k t ht) h1, fun i hi => he.cellOf (h.b i hi) h2⟩
end ShaA
namespace TreeA
open Go Go.RowKit Go.Shelf OctP OctG RowsX Lift ShaS KeyS ShaA ShaB Steps KeyA KeyC
attribute [-go_sem] Builtin.append_
/-! ### Sums as rows -/
theorem H32.ext {x y : H32} (h : x.l = y.l) : x = y := by cases x; cases y; simp only at h; subst h; rfl
end TreeA
namespace TreeD
open Go Go.RowKit Go.Shelf OctG Steps Lift KeyA TreeA
attribute [local go_sem] Oper.semAt_some
end TreeD
namespace TreeE
open Go Go.RowKit Go.Shelf OctP OctG RowsX Lift ShaS KeyS ShaA ShaB Steps KeyA KeyE TreeA TreeD KeyG
attribute [local go_sem] Oper.semAt_some
attribute [-go_sem] Builtin.append_
end TreeE
namespace TreeG
open Go Go.RowKit Go.Shelf OctP OctG RowsX Lift ShaS KeyS ShaA ShaB Steps KeyA KeyE KeyG TreeA TreeC TreeD TreeE TreeF SeqT
attribute [local go_sem] Oper.semAt_some
end TreeG
namespace TreeH
open Go Go.RowKit Go.Shelf OctP OctG RowsX Lift ShaS KeyS ShaA ShaB Steps KeyA KeyE KeyG TreeA TreeC TreeD TreeE TreeF SeqT TreeG
attribute [local go_sem] Oper.semAt_some
attribute [-go_sem] Builtin.append_
end TreeH
namespace LaidG
open Go Go.ChangeShapes Go.WideShapes Go.RowKit EntP WireT TreeA KeyI BookA
section
variable {H : Type} {enc : TypeId × Value → H} {w : World} {base : Nat} {spare : Nat → Bool} {held : Bool} {fuel : Nat} {cs : List Value} {x : DataW H × List MemPlace}
theorem key_of (h : DataW.trod enc Tryz.prog w base spare held fuel 40 cs = some x) :
 ∃ (s : ByteArray) (hi nx : Int), cs.toArray = kyA s hi nx ∧ s.size ≤ maxLen ∧ x.1 = .agg [.lit (.string (bl s)), .lit (.int .i64 hi), .lit (.int .i64 nx)] := by
 have hS : Tryz.prog.underlying 40 = some (.struct (Tryz.prog.fieldsOf 40)) := by kernel_rfl
 have hF : Tryz.prog.fieldsOf 40 = #[⟨"Seed", 9, 0, false, "", "", 0⟩, ⟨"High", 3, 1, false, "", "", 16⟩, ⟨"Next", 3, 2, false, "", "", 24⟩] := by kernel_rfl
 have u64 : Tryz.prog.underlying 3 = some (.int .i64) := by kernel_rfl
 have c64 : Tryz.prog.cellsOf 3 = 1 := by kernel_rfl
 have cE : Tryz.prog.cellsOf 40 = 3 := by kernel_rfl
 rw [hF] at hS
 obtain ⟨xs, n, rfl, hx, hl, hn, hel⟩ := DataW.trod_struct hS h
 rw [cE] at hl
 match xs, hn with
 | [x0, x1, x2], _ =>
   obtain ⟨r, e0, d0, z0⟩ := LaidE.FL (y := none) x0 (hel 0 _ rfl)
   obtain ⟨ep, e1, d1⟩ := LaidE.field_int x1 u64 c64 (hel 1 _ rfl)
   obtain ⟨ix, e2, d2⟩ := LaidE.field_int x2 u64 c64 (hel 2 _ rfl)
   refine ⟨r, ep, ix, ?_, z0, ?_⟩
   ·unfold kyA
    refine congrArg List.toArray ?_
    apply List.ext_getElem?
    intro i
    rcases i with _ | _ | _ | i
    ·exact e0
    ·exact e1
    ·exact e2
    ·rw [List.getElem?_eq_none (by omega), List.getElem?_eq_none (by simp)]
   ·rw [hx]
    simp only [List.map_cons, List.map_nil, d0, d1, d2]
end
instance : Inhabited Gr' := ⟨⟨0, 0, 0, 0, CV⟩⟩
end LaidG
namespace EntK
open OctetS IdentS EntS EntB KeyS KeyN NSha
set_option maxRecDepth 100000
def T6 : List UInt8 := [6, 5, 101, 110, 116, 114, 121, 7, 33, 104, 97, 108, 108, 58, 48, 1, 1, 1, 6, 32, 0, 0, 0, 0, 0, 0, 0, 0, 0, 0, 0, 0, 0, 0, 0, 0, 0, 0, 0, 0, 0, 0, 0, 0, 0, 0, 0, 0, 0, 0, 0, 0, 1, 120]
end EntK
namespace EntL
open Go Go.RowKit Go.Shelf OctetS IdentS EntS OctG IdentP EntP EventC ShaA Steps KeyA KeyS KeyI KeyK TreeA EntK EntB BookA
def gB : ByteArray := bsOf G
def eA (ix : Nat) (s : ByteArray) : Array Value := entA rB 1 (ix : Int) z32 xB s
end EntL
namespace RkF
open Go Go.RowKit Go.Shelf OctP OctG RowsX Lift ShaS KeyS ShaA ShaB Steps KeyA KeyB KeyG KeyI KeyK TreeA TreeE TreeF TreeG WireT
attribute [-go_sem] Builtin.append_
def keyB (n : Nat) (h nx : Int) : Bool := decide (1 ≤ n) && (decide (n ≤ 64) && (decide (0 ≤ h) && (decide (h ≤ 7) && (decide (0 ≤ nx) && decide (nx ≤ (2 ^ h.toNat : Nat))))))
theorem keyB_cases (n : Nat) (h nx : Int) : (n = 0 ∧ keyB n h nx = false) ∨ (1 ≤ n ∧ 64 < n ∧ keyB n h nx = false) ∨ (1 ≤ n ∧ n ≤ 64 ∧ (decide (0 ≤ h) && decide (h ≤ 7)) = false ∧ keyB n h nx = false) ∨ (1 ≤ n ∧ n ≤ 64 ∧ (decide (0 ≤ h) && decide (h ≤ 7)) = true ∧ nx < 0 ∧ keyB n h nx = false) ∨ (1 ≤ n ∧ n ≤ 64 ∧ (decide (0 ≤ h) && decide (h ≤ 7)) = true ∧ 0 ≤ nx ∧ keyB n h nx = decide (nx ≤ (2 ^ h.toNat : Nat))) := by
 unfold keyB
 by_cases h1 : 1 ≤ n
 ·by_cases h2 : n ≤ 64
  ·cases h3 : (decide (0 ≤ h) && decide (h ≤ 7))
   ·refine .inr (.inr (.inl ⟨h1, h2, rfl, ?_⟩))
    rw [← Bool.and_assoc (decide (0 ≤ h)), h3]
    simp
   ·by_cases h4 : 0 ≤ nx
    ·refine .inr (.inr (.inr (.inr ⟨h1, h2, rfl, h4, ?_⟩)))
     rw [← Bool.and_assoc (decide (0 ≤ h)), h3]
     simp [h1, h2, h4]
    ·exact .inr (.inr (.inr (.inl ⟨h1, h2, rfl, by omega, by simp [h4]⟩)))
  ·exact .inr (.inl ⟨h1, by omega, by simp [h2]⟩)
 ·exact .inl ⟨by omega, by simp [h1]⟩
end RkF
namespace HdK
open OctetS IdentS EntS KeyS KeyN NSha EntK WireS WireT
set_option maxRecDepth 100000
def hd (ep : Nat) (s : List UInt8) : Hd := ⟨rm, (ep : Int), 5, sm, s⟩
end HdK
namespace HdL
open Go Go.RowKit Go.Shelf OctetS IdentS EntS OctP OctG IdentP EntP EventC ShaA Steps KeyA KeyS KeyI KeyK TreeA EntK BookA EntL WireT Lift
theorem DT {P : Program} {ops : Array Oper} {rest : List Oper} {o : Oper} {a : Act} {w : World} {Q : Exit → Act → World → Prop} (hw : Region.wanted o (yielded ops a.tmps) = true) (ty : TypeId) (x : Operand) (ho : o.op = .load ty x) (b off : Nat) (hx : a.eval x = .pointer (some ⟨b, off, none⟩)) (cs : Array Value)
 (hc : ∀ j v, cs.toList[j]? = some v → w.cell? ⟨b, off + j, none⟩ = some v) {d : TypeDesc}
 (hu : P.underlying ty = some d) (hd : (match d with | .struct _ | .array _ _ => true | _ => false) = true) (hi : (P.info? ty).map (·.size) = some cs.size) (h : wpList P ops Q rest (a.put o.dst (.agg cs)) w) : wpList P ops Q (o :: rest) a w := by
 unfold wpList
 rw [if_pos hw]
 exact .inl (Hf ty x ho b off hx cs hc hu hd hi h)
/-! ### The ring's root -/
end HdL
namespace LaidQ
open Go RkW
theorem flatStr : flat Tryz.prog 2 9 = some [none] := by kernel_rfl
theorem str_of (cs : List Value) (h : Fits [none] cs) : ∃ s : ByteArray, cs = strN s ∧ True := by
 have hl : cs.length = 1 := h.1.symm
 obtain ⟨v, hv, s, rfl, _⟩ := h.2 0 none rfl
 match cs, hl with
 | [x], _ =>
   obtain rfl := Option.some.inj hv
   exact ⟨s, rfl, trivial⟩
end LaidQ
namespace PhS
open OctetS ShaS KeyS KeyK EntS WireS WireT TreeA BookA BkR BkC BkF PfS
structure Good (sd : ByteArray) (h : Nat) (x : ByteArray × ByteArray) : Prop where
 len : x.1.size ≤ 8192
 sig : ∃ i, i < 2 ^ h ∧ x.2 = bsOf (Di (bl sd) h i (bl x.1))
def grH (sd : ByteArray) (h : Nat) : Gr' := ⟨2, 0, 4096, h, D5 (bl sd) h⟩
def twoP (s t : List UInt8) : Bool := match says s, says t with
 | some x, some y => decide (x.room = y.room) && (decide (x.ep = y.ep) && (decide (x.ix = y.ix) && !decide (x.sum = y.sum)))
 | _, _ => false
def pfO (n : Int) (a x b y : ByteArray) : Pf := ⟨n, bl a, bl x, bl b, bl y⟩
variable {sd : ByteArray} {h : Nat}
theorem book_one (hh : h ≤ 7) : EE [grH sd h] = true := by
 have hr : D6 (grH sd h) = true := by
  unfold D6 Cq grH
  simp
  omega
 unfold EE okF okF
 simp [hr]
theorem sig_len {x : ByteArray × ByteArray} (hh : h ≤ 7) (g : Good sd h x) : x.2.size ≤ 8192 := by
 obtain ⟨i, hi, hs⟩ := g.sig
 rw [hs, AY, EY hi]
 omega
theorem verify_good {x : ByteArray × ByteArray} (hh : h ≤ 7) (g : Good sd h x) {at' : Int} (h0 : 0 ≤ at') (h1 : at' ≤ 4096) : BF [grH sd h] 2 at' (bl x.1) (bl x.2) = 0 := by
 obtain ⟨i, hi, hs⟩ := g.sig
 have hf : Bt (grH sd h) 2 at' = true := by
  unfold Bt grH
  simp [h0, h1]
 unfold BF
 rw [if_pos (book_one hh)]
 simp only [List.find?_cons, hf]
 rw [hs, AU]
 show verify (D5 (bl sd) h).l ((h : Int).toNat) _ _ = 0
 rw [rootK_l, Int.toNat_natCast]
 exact Gu hi hh _ _
theorem H8 {s t : List UInt8} : twoP s t = true ↔ ∃ x y, says s = some x ∧ says t = some y ∧ (x.room = y.room ∧ x.ep = y.ep ∧ x.ix = y.ix) ∧ x.sum ≠ y.sum := by
 unfold twoP
 cases says s with
 | none => simp
 | some x =>
   cases says t with
   | none => simp
   | some y => simp [and_assoc]
theorem check_two {x y : ByteArray × ByteArray} (hh : h ≤ 7) (gx : Good sd h x) (gy : Good sd h y) : Bg [grH sd h] (pfO 2 x.1 x.2 y.1 y.2) = 0 ↔ twoP (bl x.1) (bl y.1) = true := by
 rw [PfS.BV, H8]
 constructor
 ·rintro ⟨_, u, v, hu, hv, hp, hs, _⟩
  exact ⟨u, v, hu, hv, hp, hs⟩
 ·rintro ⟨u, v, hu, hv, hp, hs⟩
  obtain ⟨hR, _⟩ := GM hu
  refine ⟨PfS.CX.2 ⟨by show (0 : Int) ≤ 2; decide, by show (2 : Int) ≤ 63; decide, ?_, ?_, ?_, ?_⟩, u, v, hu, hv, hp, hs, verify_good hh gx hR.ix0 hR.ix1, verify_good hh gy hR.ix0 hR.ix1⟩
  ·show (bl x.1).length ≤ 8192
   rw [AP]; exact gx.len
  ·show (bl x.2).length ≤ 8192
   rw [AP]; exact sig_len hh gx
  ·show (bl y.1).length ≤ 8192
   rw [AP]; exact gy.len
  ·show (bl y.2).length ≤ 8192
   rw [AP]; exact sig_len hh gy
theorem check_twoB {x y : ByteArray × ByteArray} (hh : h ≤ 7) (gx : Good sd h x) (gy : Good sd h y) {E : Int} (hE : E = Bg [grH sd h] (pfO 2 x.1 x.2 y.1 y.2)) : (E == 0) = twoP (bl x.1) (bl y.1) := by
 have h1 := check_two hh gx gy
 rw [← hE] at h1
 cases ht : twoP (bl x.1) (bl y.1)
 ·rw [beq_eq_false_iff_ne]
  intro h0
  have := h1.1 h0
  rw [ht] at this
  cases this
 ·rw [h1.2 ht]
  rfl
theorem two_swap {s t : List UInt8} (h : twoP s t = true) : twoP t s = true := by
 obtain ⟨x, y, hx, hy, ⟨h1, h2, h3⟩, hs⟩ := H8.1 h
 exact H8.2 ⟨y, x, hy, hx, ⟨h1.symm, h2.symm, h3.symm⟩, fun e => hs e.symm⟩
theorem two_self {s : List UInt8} : twoP s s = false := by
 cases ht : twoP s s
 ·rfl
 ·obtain ⟨x, y, hx, hy, _, hs⟩ := H8.1 ht
  rw [hx] at hy
  exact absurd (congrArg Hd.sum (Option.some.inj hy)) hs
def Calm (L : List (ByteArray × ByteArray)) (k : Nat) : Prop := ∀ a b x y, a < k → b < a → L[a]? = some x → L[b]? = some y → twoP (bl x.1) (bl y.1) = false
theorem calm_zero (L : List (ByteArray × ByteArray)) : Calm L 0 := fun a b x y h => absurd h (by omega)
theorem calm_succ {L : List (ByteArray × ByteArray)} {k : Nat} {u : ByteArray × ByteArray} (hu : L[k]? = some u) (hc : Calm L k) (hk : ∀ b y, b < k → L[b]? = some y → twoP (bl u.1) (bl y.1) = false) : Calm L (k + 1) := by
 intro a b x y ha hb hx hy
 by_cases he : a = k
 ·subst he
  rw [hu] at hx
  obtain rfl := Option.some.inj hx
  exact hk b y hb hy
 ·exact hc a b x y (by omega) hb hx hy
theorem row_succ {L : List (ByteArray × ByteArray)} {j : Nat} {y u : ByteArray × ByteArray} (hy : L[j]? = some y) (H : ∀ b y, b < j → L[b]? = some y → twoP (bl u.1) (bl y.1) = false) (ht : false = twoP (bl u.1) (bl y.1)) : ∀ b y', b < j + 1 → L[b]? = some y' → twoP (bl u.1) (bl y'.1) = false := by
 intro b y' hb hy'
 by_cases he : b = j
 ·subst he
  rw [hy] at hy'
  obtain rfl := Option.some.inj hy'
  exact ht.symm
 ·exact H b y' (by omega) hy'
theorem none_both {L : List (ByteArray × ByteArray)} {G : List Gr'} {n : Int} {a x b y : ByteArray} (H : Calm L L.length) (hc : Bg G (pfO n a x b y) = 0) (ha : ∃ u ∈ L, u.1 = a) (hb : ∃ u ∈ L, u.1 = b) : False := by
 obtain ⟨_, p, q, hp, hq, hpl, hs, _⟩ := PfS.BV.1 hc
 obtain ⟨u, hu, rfl⟩ := ha
 obtain ⟨v, hv, rfl⟩ := hb
 have ht : twoP (bl u.1) (bl v.1) = true := H8.2 ⟨p, q, hp, hq, hpl, hs⟩
 obtain ⟨i, hi, hgi⟩ := List.getElem_of_mem hu
 obtain ⟨j, hj, hgj⟩ := List.getElem_of_mem hv
 have hi' : L[i]? = some u := by rw [List.getElem?_eq_getElem hi, hgi]
 have hj' : L[j]? = some v := by rw [List.getElem?_eq_getElem hj, hgj]
 rcases Nat.lt_trichotomy i j with hlt | he | hlt
 ·have := H j i v u hj hlt hj' hi'
  rw [two_swap ht] at this
  cases this
 ·subst he
  rw [hi'] at hj'
  obtain rfl := Option.some.inj hj'
  rw [two_self] at ht
  cases ht
 ·have := H i j u v hi hlt hi' hj'
  rw [ht] at this
  cases this
end PhS
end Go.Proofs.YtadofbbpfgmclaaGreatDoor
