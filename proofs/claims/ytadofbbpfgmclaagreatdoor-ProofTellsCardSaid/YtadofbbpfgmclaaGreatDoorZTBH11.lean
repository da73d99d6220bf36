/-
  WHAT IS PROVED: contracts of functions, and plain laws. Condition: what each theorem names.
-/
import Derived.Test.YtadofbbpfgmclaaGreatDoorS0
import Derived.Test.YtadofbbpfgmclaaGreatDoorZTBH09
import Derived.ChangeKeysEq
import Derived.Deep.MidRow
import Derived.KernelRfl
import Derived.LaidHandle
import Derived.LaidLaws
import Derived.LaidMore
import Derived.LaidSub
import Derived.Laws.StructEq
import Derived.MakeChecks
import Derived.StillTactics
import Derived.Stop.LaidErr
import Derived.Tactics
import Derived.Tactics2
import Derived.Test.YtadofbbpfgmclaaGreatDoorChecked
set_option linter.unusedVariables false
set_option linter.unusedSimpArgs false
set_option maxRecDepth 100000
set_option maxHeartbeats 4000000
namespace Go.Proofs.YtadofbbpfgmclaaGreatDoor
open Go.Proofs.Tryz hiding parts
namespace BookA
open Go Go.RowKit Go.Shelf Steps KeyA TreeA
structure Gr' where
 sv : Int
 fr : Int
 to : Int
 hi : Int
 rt : H32
def Gr'.cs (g : Gr') : List Value := [.int .i64 g.sv, .int .i64 g.fr, .int .i64 g.to, .int .i64 g.hi] ++ byV g.rt.l
def Gr'.A (g : Gr') : Array Value := g.cs.toArray
theorem grF : RowsX.GI 36 Gr'.cs := ⟨fun g => by unfold Gr'.cs; simp [Ae, g.rt.len], fun g u hu => by
 unfold Gr'.cs at hu
 rcases List.mem_append.1 hu with h | h
 ·simp only [List.mem_cons, List.not_mem_nil, or_false] at h
  rcases h with rfl | rfl | rfl | rfl <;> rfl
 ·obtain ⟨b, _, rfl⟩ := List.mem_map.1 h
  rfl⟩
theorem Gr'.c0 (g : Gr') : g.A[0]? = some (.int .i64 g.sv) := rfl
theorem Gr'.c1 (g : Gr') : g.A[1]? = some (.int .i64 g.fr) := rfl
theorem Gr'.c2 (g : Gr') : g.A[2]? = some (.int .i64 g.to) := rfl
theorem Gr'.c3 (g : Gr') : g.A[3]? = some (.int .i64 g.hi) := rfl
structure Gr'.Right (g : Gr') : Prop where
 s0 : 0 ≤ g.sv
 s1 : g.sv ≤ 63
 f0 : 0 ≤ g.fr
 f1 : g.fr ≤ g.to
 t1 : g.to ≤ 1099511627776
 h0 : 0 ≤ g.hi
 h1 : g.hi ≤ 7
def Bt (g : Gr') (sv at' : Int) : Bool := g.sv == sv && (decide (g.fr ≤ at') && decide (at' ≤ g.to))
theorem found_ok (w : World) (g : Gr') (b1 b2 : Nat) (sv at' : Int) (h1 : w.heap[b1]? = some (.cells #[.int .i64 sv] 3 (0, 0))) (h2 : w.heap[b2]? = some (.cells #[.int .i64 at'] 2 (0, 0))) :
 Calls Tryz.prog 84 #[.agg g.A, .pointer (some ⟨b1, 0, none⟩), .pointer (some ⟨b2, 0, none⟩)] w (RB (.bool (Bt g sv at')) w) := by
 unfold Bt
 obtain ⟨p, hp⟩ := nXe (g.A)
 have p0 := g.c0
 have p1 := g.c1
 have p2 := g.c2
 rw [← hp] at p0 p1 p2 ⊢
 obtain ⟨s2, hsv⟩ := nXe (g.sv)
 obtain ⟨fr, hfr⟩ := nXe (g.fr)
 obtain ⟨to, hto⟩ := nXe (g.to)
 rw [← hsv] at p0 ⊢
 rw [← hfr] at p1 ⊢
 rw [← hto] at p2 ⊢
 have l1 := AB h1
 have l2 := AB h2
 have n1 : ¬ b1 = w.heap.size := by omega
 have n2 : ¬ b2 = w.heap.size := by omega
 have c1 := AO (j := 0) h1
 have c2 := AO (j := 0) h2
 clear hsv hfr hto hp h1 h2
 cases e1 : (s2 == sv) <;> cases e2 : decide (fr ≤ at') <;> cases e3 : decide (at' ≤ to)
 all_goals
  go_enter func84, ntmps84
  go_wp2
  go_ret
  exact ⟨by first | rfl | simp_all, bAx⟩
end BookA
namespace BookB
open Go Go.RowKit Go.Shelf Steps RowsX Lift KeyA TreeA BookA
def EQ (sv at' : Int) : List Gr' → Nat → Int
 | [], _ => -1
 | g :: r, k => if Bt g sv at' = true then (k : Int) else EQ sv at' r (k + 1)
theorem DX (g : Gr') : g.A.size = 36 := by unfold Gr'.A; simp [grF.len]
theorem DY (g : Gr') : (Tryz.prog.info? 47).map (·.size) = some g.A.size := by rw [DX]; kernel_rfl
theorem Ia (w : World) (v : Value) (L : List Gr') (b1 b2 : Nat) (sv at' : Int) (hv : Sl w v 36 L.length (L.flatMap Gr'.cs)) (hL : L.length ≤ 100000) (h1 : w.heap[b1]? = some (.cells #[.int .i64 sv] 3 (0, 0))) (h2 : w.heap[b2]? = some (.cells #[.int .i64 at'] 2 (0, 0))) :
 Calls Tryz.prog 83 #[v, .func (.func 84) #[] #[.pointer (some ⟨b1, 0, none⟩), .pointer (some ⟨b2, 0, none⟩)]] w (RB (.int .i64 (EQ sv at' L 0)) w) := by
 obtain ⟨a, cap, rfl, hcap, hm⟩ := hv.form
 obtain ⟨R, hR⟩ := nXe (EQ sv at' L 0)
 obtain ⟨n, hn⟩ := nXe (L.length)
 rw [← hR]
 rw [← hn] at hv hL hcap ⊢
 obtain ⟨HR, Hn, Hv, H1, H2⟩ := l5h hR hn hv h1 h2
 clear hR hn hv h1 h2 hm hcap
 go_enter func83, ntmps83
 go_wp2
 go_loopw [8] (fun j wr => ∃ (k : Nat), j = .int .i64 k ∧ k ≤ n ∧ Hid (EQ sv at' (L.drop k) k = R) ∧ Below w.heap.size w wr)
  (fun j _ => n - (intOf j).toNat)
 case atStart => exact ⟨0, rfl, by omega, lh HR.out.symm, Below.refl _ _⟩
 case round =>
  obtain ⟨k, rfl, hk, hR, hb⟩ := hrel
  have HB := lh hb
  have hvw := Hv.out.ext (Ext.of_below (S := fun _ => False) hb) (fun _ _ h => h)
  clear hb
  by_cases hlt : k < n
  ·skip
   obtain ⟨c, hc⟩ : ∃ c, L[k]? = some c := ⟨_, List.getElem?_eq_getElem (by rw [← Hn.out]; exact hlt)⟩
   rw [Hn.out] at hvw
   obtain ⟨b, o, rfl, hblt, hcc⟩ := Bo grF (by omega) hvw hc
   have hdr : L.drop k = c :: L.drop (k + 1) := by
        have hl : k < L.length := by rw [← Hn.out]; exact hlt
        rw [List.drop_eq_getElem_cons hl]
        rw [List.getElem?_eq_getElem hl] at hc
        rw [Option.some.inj hc]
   have hR' := hR.out
   rw [hdr, EQ] at hR'
   have Hcc := lh (show ∀ (j : Nat) (u : Value), c.A.toList[j]? = some u → wr.cell? ⟨b, o + k * 36 + j, none⟩ = some u from hcc)
   have hF := found_ok wr c b1 b2 sv at' ((HB.out.block _ (AB H1.out)).trans H1.out) ((HB.out.block _ (AB H2.out)).trans H2.out)
   obtain ⟨C, hC⟩ := nXe (c.A)
   rw [← hC] at Hcc hF
   have HCS := lh (show (Tryz.prog.info? 47).map (·.size) = some C.size by rw [hC]; exact DY c)
   obtain ⟨q, hq⟩ := nXe (Bt c sv at')
   rw [← hq] at hF hR'
   obtain ⟨HF, HR2⟩ := l2h hF hR'
   clear hc hdr hR' hvw hcc hC hF hq
   go_wp2_with (first | (refine Af rfl _ _ rfl b (o + k * 36) rfl C Hcc.out underlying47 rfl HCS.out ?_) | fail)
   refine HF.out.mono ?_
   rintro e w2 ⟨rfl, hb⟩
   have HB2 := tbB HB hb
   clear hb
   cases q
   ·have h3 := HR2.out
    rw [if_neg (by simp)] at h3
    go_wp2
    go_roundw
    case rel => exact ⟨k + 1, by go_num, by omega, lh h3, HB2.out⟩
    case measure => simp [intOf]; omega
   ·have h3 := HR2.out
    rw [if_pos rfl] at h3
    subst h3
    go_wp2
    go_ret
    exact ⟨rfl, HB2.out⟩
  ·skip
   obtain rfl : k = n := by omega
   have hR' := hR.out
   rw [List.drop_of_length_le (by rw [← Hn.out]; exact Nat.le_refl _), EQ] at hR'
   subst hR'
   go_wp2
   go_ret
   exact ⟨rfl, HB.out⟩
end BookB
namespace BookD
open Go Go.RowKit Go.Shelf Steps RowsX Lift KeyA TreeA BookA BookB
def Fg : Gr' := ⟨0, 0, 0, 0, CV⟩
end BookD
namespace Laid
open Go Go.RowKit IdentP
theorem IA {P : Program} {W : World} {name : String} {ls : List (List UInt8)} {rest : List (String × DataW Unit)} {g : Nat} {t e : TypeId} {n : Nat}
 (hg : P.globalNamed name = some g) (hty : (P.globals[g]?).map (·.type) = some t) (ht : P.underlying t = some (.array n e)) (he : P.underlying e = some .string) (hce : P.cellsOf e = 1)
 (h : laidMet P ((name, .agg (ls.map fun l => .lit (.string l))) :: rest) W) (i : Nat) (l : List UInt8) (hi : ls[i]? = some l) : W.cell? ⟨g, i, none⟩ = some (.string (bsOf l)) := by
 obtain ⟨ps, ⟨g', t', cs, fuel, p, q, hg', ht', hvar, hd, _, _⟩, _⟩ := h
 obtain rfl := Option.some.inj (hg.symm.trans hg')
 obtain rfl := Option.some.inj (hty.symm.trans ht')
 obtain ⟨xs, m, rfl, hx, hlen, hn, hel⟩ := DataW.trod_array ht hd
 simp only [Prod.mk.injEq, DataW.agg.injEq] at hx
 have hxs := hx.1
 have hil : i < ls.length := (List.getElem?_eq_some_iff.1 hi).1
 have hin : i < n := by
  have := congrArg List.length hxs
  simp at this
  omega
 have h1 := hel i hin
 rw [hce, Nat.mul_one, List.getElem?_eq_getElem (by omega)] at h1
 obtain ⟨s, e1, e2, _⟩ := DataW.trod_string he h1
 have h2 : (xs.map (·.1))[i]? = (ls.map fun l => (DataW.lit (.string l) : DataW Unit))[i]? := by rw [hxs]
 rw [List.getElem?_map, List.getElem?_map, hi, List.getElem?_eq_getElem (by omega), e2] at h2
 simp only [Option.map_some, Option.some.injEq, DataW.lit.injEq, Lit.string.injEq] at h2
 have h3 := World.var?_cell hg hvar i
 rw [h3]
 have h4 : cs[i]? = some (.string s) := by
  have := congrArg (·[0]?) e1
  simpa [List.getElem?_take, List.getElem?_drop] using this
 rw [h4]
 congr 2
 rw [← h2]
 exact (Bj s).symm
theorem err_of_head {P : Program} {W : World} {name nm : String} {d : DataW Unit} {rest : List (String × DataW Unit)} {g : Nat} {t : TypeId}
 (hg : P.globalNamed name = some g) (hty : (P.globals[g]?).map (·.type) = some t) (hi : ∃ ms, P.underlying t = some (.interface ms))
 (h : laidMet P ((name, .iface nm d) :: rest) W) : ∃ ev, W.cell? ⟨g, 0, none⟩ = some ev ∧ (ev = .nilIface ∨ ∃ te pe, ev = .iface te pe) := by
 obtain ⟨ms, hi⟩ := hi
 obtain ⟨ps, ⟨g', t', cs, fuel, p, q, hg', ht', hvar, hd, _, _⟩, _⟩ := h
 obtain rfl := Option.some.inj (hg.symm.trans hg')
 obtain rfl := Option.some.inj (hty.symm.trans ht')
 obtain ⟨f1, u, v, hcs, _⟩ := iface_of_trod hi hd
 refine ⟨.iface u v, ?_, .inr ⟨u, v, rfl⟩⟩
 have h3 := World.var?_cell hg hvar 0
 rw [h3]
 have := congrArg (·[0]?) hcs
 simpa using this
theorem varsI_of {W : World} {rest : List (String × DataW Unit)} (h : laidMet Tryz.prog (("strconv.ErrRange", Rows.laid_strconv_ErrRange) :: ("strconv.ErrSyntax", Rows.laid_strconv_ErrSyntax) :: ("palaver/ident.signs", Rows.laid_palaver_ident_signs) :: rest) W) : Ag W := by
 have gR : Tryz.prog.globalNamed "strconv.ErrRange" = some 5 := by kernel_rfl
 have gS : Tryz.prog.globalNamed "strconv.ErrSyntax" = some 4 := by kernel_rfl
 have gI : Tryz.prog.globalNamed "palaver/ident.signs" = some 2 := by kernel_rfl
 have tS : (Tryz.prog.globals[4]?).map (·.type) = some 161 := by kernel_rfl
 have tR : (Tryz.prog.globals[5]?).map (·.type) = some 161 := by kernel_rfl
 have uE : ∃ ms, Tryz.prog.underlying 161 = some (.interface ms) := ⟨_, underlying161⟩
 have tI : (Tryz.prog.globals[2]?).map (·.type) = some 167 := by kernel_rfl
 have a3 : Tryz.prog.underlying 167 = some (.array 3 9) := by kernel_rfl
 have a9 : Tryz.prog.underlying 9 = some .string := by kernel_rfl
 have c9 : Tryz.prog.cellsOf 9 = 1 := by kernel_rfl
 have hS : laidMet Tryz.prog (("palaver/ident.signs", .agg (([[], [64], [33]] : List (List UInt8)).map fun l => .lit (.string l))) :: rest) W := h.tail.tail
 refine ⟨IA gI tI a3 a9 c9 hS 1 [64] rfl, IA gI tI a3 a9 c9 hS 2 [33] rfl, ?_, ?_⟩
 ·exact err_of_head gS tS uE h.tail
 ·exact err_of_head gR tR uE h
end Laid
namespace LaidE
open Go Go.ChangeShapes Go.WideShapes Go.RowKit EventS EventP
section
variable {H : Type} {enc : TypeId × Value → H} {w : World} {base : Nat} {spare : Nat → Bool} {held : Bool} {fuel : Nat} {cs : List Value} {x : DataW H × List MemPlace}
theorem FL {n : Nat} {y : Option (DataW H × List MemPlace)} (v : DataW H × List MemPlace) (h : DataW.trod enc Tryz.prog w base spare held n 9 ((cs.drop fuel).take (Tryz.prog.cellsOf 9)) = some v) :
 ∃ s : ByteArray, cs[fuel]? = some (.string s) ∧ v.1 = .lit (.string (bl s)) ∧ s.size ≤ maxLen := by
 have a9 : Tryz.prog.underlying 9 = some .string := by kernel_rfl
 have c9 : Tryz.prog.cellsOf 9 = 1 := by kernel_rfl
 rw [c9] at h
 obtain ⟨s, e1, e2, e3⟩ := DataW.trod_string a9 h
 refine ⟨s, ?_, by rw [e2]; rfl, e3⟩
 have := congrArg (·[0]?) e1
 simpa [List.getElem?_take, List.getElem?_drop] using this
theorem field_int {n : Nat} {t : TypeId} {k : IntKind} (v : DataW H × List MemPlace) (ht : Tryz.prog.underlying t = some (.int k)) (hc : Tryz.prog.cellsOf t = 1) (h : DataW.trod enc Tryz.prog w base spare held n t ((cs.drop fuel).take (Tryz.prog.cellsOf t)) = some v) :
 ∃ m : Int, cs[fuel]? = some (.int k m) ∧ v.1 = .lit (.int k m) := by
 rw [hc] at h
 obtain ⟨s, e1, e2, e3⟩ := DataW.trod_int ht h
 refine ⟨s, ?_, by rw [e2]⟩
 have := congrArg (·[0]?) e1
 simpa [List.getElem?_take, List.getElem?_drop] using this
end
end LaidE
namespace WireA
open Go Go.RowKit Go.Shelf OctetS IdentS EntS WireS OctP OctQ IdentP IdentR EventP EventC WireT
theorem FM (w : World) (s : ByteArray) (hs : s.size ≤ maxLen) : Calls Tryz.prog 48 #[.string s] w fun e w' => e = .returned (.int .i64 (numI 4096 (bl s))) ∧ w = w' := by
 obtain ⟨n, u, y, hg⟩ : ∃ n u y, Aa (bl s) = (n, u, y) := ⟨_, _, _, rfl⟩
 have hG := Bb w s hs hg
 obtain ⟨z, hz⟩ := nXe (numI 4096 (bl s))
 rw [← hz]
 have hcase : ((y != 0) = true ∧ z = -1) ∨ (y = 0 ∧ u < s.size ∧ z = -1) ∨ (y = 0 ∧ u = s.size ∧ 4096 < n ∧ n ≤ Av ∧ z = -1) ∨ (y = 0 ∧ u = s.size ∧ n ≤ 4096 ∧ z = n) := by
  rw [hz]
  rcases C8 4096 hg with ⟨h, h'⟩ | ⟨h, h1, h'⟩ | ⟨h, h1, h2, h3, h'⟩ | ⟨h, h1, h2, h3, h'⟩
  ·exact .inl ⟨by simpa using h, EK h'⟩
  ·exact .inr (.inl ⟨h, by rw [← AP]; exact h1, EK h'⟩)
  ·exact .inr (.inr (.inl ⟨h, by rw [← AP]; exact h1, h2, h3, EK h'⟩))
  ·exact .inr (.inr (.inr ⟨h, by rw [← AP]; exact h1, h2, Cv h'⟩))
 have HG := lh hG
 clear hG hg hz
 unfold Av at hcase
 unfold maxLen at hs
 rcases hcase with ⟨hy, rfl⟩ | ⟨rfl, hy, rfl⟩ | ⟨rfl, rfl, hy, hn, rfl⟩ | ⟨rfl, rfl, hy, rfl⟩
 all_goals
  go_enter func48, ntmps48
  go_wp2_with fail
  refine HG.out.mono ?_
  rintro e w1 ⟨rfl, rfl⟩
  go_wp2
  go_ret
  exact ⟨rfl, rfl⟩
theorem FJ (w : World) (s : ByteArray) (hs : s.size ≤ maxLen) : Calls Tryz.prog 49 #[.string s] w fun e w' => e = .returned (.int .i64 (numI 4096 (bl s))) ∧ w = w' := by
 obtain ⟨n, u, y, hg⟩ : ∃ n u y, Aa (bl s) = (n, u, y) := ⟨_, _, _, rfl⟩
 have hG := Bb w s hs hg
 obtain ⟨z, hz⟩ := nXe (numI 4096 (bl s))
 rw [← hz]
 have hcase : ((y != 0) = true ∧ z = -1) ∨ (y = 0 ∧ u < s.size ∧ z = -1) ∨ (y = 0 ∧ u = s.size ∧ 4096 < n ∧ n ≤ Av ∧ z = -1) ∨ (y = 0 ∧ u = s.size ∧ n ≤ 4096 ∧ z = n) := by
  rw [hz]
  rcases C8 4096 hg with ⟨h, h'⟩ | ⟨h, h1, h'⟩ | ⟨h, h1, h2, h3, h'⟩ | ⟨h, h1, h2, h3, h'⟩
  ·exact .inl ⟨by simpa using h, EK h'⟩
  ·exact .inr (.inl ⟨h, by rw [← AP]; exact h1, EK h'⟩)
  ·exact .inr (.inr (.inl ⟨h, by rw [← AP]; exact h1, h2, h3, EK h'⟩))
  ·exact .inr (.inr (.inr ⟨h, by rw [← AP]; exact h1, h2, Cv h'⟩))
 have HG := lh hG
 clear hG hg hz
 unfold Av at hcase
 unfold maxLen at hs
 rcases hcase with ⟨hy, rfl⟩ | ⟨rfl, hy, rfl⟩ | ⟨rfl, rfl, hy, hn, rfl⟩ | ⟨rfl, rfl, hy, rfl⟩
 all_goals
  go_enter func49, ntmps49
  go_wp2_with fail
  refine HG.out.mono ?_
  rintro e w1 ⟨rfl, rfl⟩
  go_wp2
  go_ret
  exact ⟨rfl, rfl⟩
theorem h_place (w : World) (n : Int) : Calls Tryz.prog 76 #[.int .i64 n] w fun e w' => e = .returned (.bool (Bw n)) ∧ w = w' := by
 by_cases h0 : 0 ≤ n
 ·go_enter func76, ntmps76
  go_wp2
  go_ret
  exact ⟨by simp [Bw, h0], rfl⟩
 ·have h1 : decide (0 ≤ n) = false := by simpa using h0
  go_enter func76, ntmps76
  go_wp2
  go_ret
  exact ⟨by simp [Bw, h1], rfl⟩
end WireA
namespace LaidI
open Go Go.ChangeShapes Go.WideShapes Go.RowKit U32 ShaS ShaA IdentP EntP
theorem IZ {P : Program} {W : World} {name : String} {ls : List Int} {kd : IntKind} {rest : List (String × DataW Unit)} {g : Nat} {t e : TypeId} {n : Nat}
 (hg : P.globalNamed name = some g) (hty : (P.globals[g]?).map (·.type) = some t) (ht : P.underlying t = some (.array n e)) (he : P.underlying e = some (.int kd)) (hce : P.cellsOf e = 1)
 (h : laidMet P ((name, .agg (ls.map fun l => .lit (.int kd l))) :: rest) W) (i : Nat) (l : Int) (hi : ls[i]? = some l) : W.cell? ⟨g, i, none⟩ = some (.int kd l) := by
 obtain ⟨ps, ⟨g', t', cs, fuel, p, q, hg', ht', hvar, hd, _, _⟩, _⟩ := h
 obtain rfl := Option.some.inj (hg.symm.trans hg')
 obtain rfl := Option.some.inj (hty.symm.trans ht')
 obtain ⟨xs, m, rfl, hx, hlen, hn, hel⟩ := DataW.trod_array ht hd
 simp only [Prod.mk.injEq, DataW.agg.injEq] at hx
 have hxs := hx.1
 have hil : i < ls.length := (List.getElem?_eq_some_iff.1 hi).1
 have hin : i < n := by
  have := congrArg List.length hxs
  simp at this
  omega
 have h1 := hel i hin
 rw [hce, Nat.mul_one, List.getElem?_eq_getElem (by omega)] at h1
 obtain ⟨s, e1, e2, _⟩ := DataW.trod_int he h1
 have h2 : (xs.map (·.1))[i]? = (ls.map fun l => (DataW.lit (.int kd l) : DataW Unit))[i]? := by rw [hxs]
 rw [List.getElem?_map, List.getElem?_map, hi, List.getElem?_eq_getElem (by omega), e2] at h2
 simp only [Option.map_some, Option.some.injEq, DataW.lit.injEq, Lit.int.injEq, true_and] at h2
 have h3 := World.var?_cell hg hvar i
 rw [h3]
 have h4 : cs[i]? = some (.int kd s) := by
  have := congrArg (·[0]?) e1
  simpa [List.getElem?_take, List.getElem?_drop] using this
 rw [h4, h2]
theorem at_u {l : List UInt32} {i : Nat} (h : i < l.length) : (l.map u)[i]? = some (u (l.getD i 0)) := by
 rw [List.getElem?_map, List.getD_eq_getElem?_getD, List.getElem?_eq_getElem h]
 rfl
theorem varsH_of {W : World} {rest : List (String × DataW Unit)} (h : laidMet Tryz.prog (("palaver/sha.k", Rows.laid_palaver_sha_k) :: ("palaver/sha.begin", Rows.laid_palaver_sha_begin) :: rest) W) : Al W := by
 have gK : Tryz.prog.globalNamed "palaver/sha.k" = some 1 := by kernel_rfl
 have gB : Tryz.prog.globalNamed "palaver/sha.begin" = some 0 := by kernel_rfl
 have tK : (Tryz.prog.globals[1]?).map (·.type) = some 140 := by kernel_rfl
 have tB : (Tryz.prog.globals[0]?).map (·.type) = some 126 := by kernel_rfl
 have aK : Tryz.prog.underlying 140 = some (.array 64 124) := by kernel_rfl
 have aB : Tryz.prog.underlying 126 = some (.array 8 124) := by kernel_rfl
 have u4 : Tryz.prog.underlying 124 = some (.int .u32) := by kernel_rfl
 have c4 : Tryz.prog.cellsOf 124 = 1 := by kernel_rfl
 have eK : (Rows.laid_palaver_sha_k : DataW Unit) = .agg ((kL.map u).map fun l => .lit (.int .u32 l)) := by kernel_rfl
 have eB : (Rows.laid_palaver_sha_begin : DataW Unit) = .agg ((CP.map u).map fun l => .lit (.int .u32 l)) := by kernel_rfl
 have hT := h.tail
 rw [eK] at h
 rw [eB] at hT
 exact ⟨fun t ht => IZ gK tK aK u4 c4 h t _ (at_u (show t < kL.length from ht)), fun i hi => IZ gB tB aB u4 c4 hT i _ (at_u (show i < CP.length from hi))⟩
theorem varsE_of {W : World} {a b c : String × DataW Unit} {rest : List (String × DataW Unit)} (h : laidMet Tryz.prog (a :: b :: c :: ("palaver/sha.k", Rows.laid_palaver_sha_k) :: ("palaver/sha.begin", Rows.laid_palaver_sha_begin) :: ("strconv.ErrRange", Rows.laid_strconv_ErrRange) :: ("strconv.ErrSyntax", Rows.laid_strconv_ErrSyntax) :: ("palaver/ident.signs", Rows.laid_palaver_ident_signs) :: rest) W) : Ag W ∧ Al W :=
 ⟨Laid.varsI_of h.tail.tail.tail.tail.tail, varsH_of h.tail.tail.tail⟩
end LaidI
namespace LaidP
open Go Go.ChangeShapes Go.WideShapes Go.RowKit EntP WireT
section
variable {H : Type} {enc : TypeId × Value → H} {w : World} {base : Nat} {spare : Nat → Bool} {held : Bool} {fuel : Nat} {cs : List Value} {x : DataW H × List MemPlace}
theorem pf_of (h : DataW.trod enc Tryz.prog w base spare held fuel 24 cs = some x) :
 ∃ (n : Int) (a g b y : ByteArray), cs.toArray = pfA n a g b y ∧ g.size ≤ maxLen ∧ b.size ≤ maxLen ∧ y.size ≤ maxLen ∧ x.1 = .agg [.lit (.int .i64 n), .lit (.string (bl a)), .lit (.string (bl g)), .lit (.string (bl b)), .lit (.string (bl y))] := by
 have hS : Tryz.prog.underlying 24 = some (.struct (Tryz.prog.fieldsOf 24)) := by kernel_rfl
 have hF : Tryz.prog.fieldsOf 24 = #[⟨"Server", 3, 0, false, "", "", 0⟩, ⟨"A", 9, 1, false, "", "", 8⟩, ⟨"SigA", 9, 2, false, "", "", 24⟩, ⟨"B", 9, 3, false, "", "", 40⟩, ⟨"SigB", 9, 4, false, "", "", 56⟩] := by kernel_rfl
 have u64 : Tryz.prog.underlying 3 = some (.int .i64) := by kernel_rfl
 have c64 : Tryz.prog.cellsOf 3 = 1 := by kernel_rfl
 have cE : Tryz.prog.cellsOf 24 = 5 := by kernel_rfl
 rw [hF] at hS
 obtain ⟨xs, n, rfl, hx, hl, hn, hel⟩ := DataW.trod_struct hS h
 rw [cE] at hl
 match xs, hn with
 | [x0, x1, x2, x3, x4], _ =>
   obtain ⟨n, e0, d0⟩ := LaidE.field_int x0 u64 c64 (hel 0 _ rfl)
   obtain ⟨a, e1, d1, z1⟩ := LaidE.FL (y := none) x1 (hel 1 _ rfl)
   obtain ⟨g, e2, d2, z2⟩ := LaidE.FL (y := none) x2 (hel 2 _ rfl)
   obtain ⟨b, e3, d3, z3⟩ := LaidE.FL (y := none) x3 (hel 3 _ rfl)
   obtain ⟨y, e4, d4, z4⟩ := LaidE.FL (y := none) x4 (hel 4 _ rfl)
   refine ⟨n, a, g, b, y, ?_, z2, z3, z4, ?_⟩
   ·unfold pfA
    refine congrArg List.toArray ?_
    apply List.ext_getElem?
    intro i
    rcases i with _ | _ | _ | _ | _ | i
    ·exact e0
    ·exact e1
    ·exact e2
    ·exact e3
    ·exact e4
    ·rw [List.getElem?_eq_none (by omega), List.getElem?_eq_none (by simp)]
   ·rw [hx]
    simp only [List.map_cons, List.map_nil, d0, d1, d2, d3, d4]
end
end LaidP
namespace EntB
open OctetS IdentS ShaS EntS WireS
theorem read_text {e : Ent} (h : Right e) (hp : e.prev.length = 32) : WireS.read (text e) = some { e with sig := [] } := by
 unfold WireS.read EntS.text
 rw [Ie (h.fits hp)]
 simp only [if_true, EntS.parts, FD]
 rw [E9 (by unfold Av; omega) (by have := h.ep0; have := h.ep1; omega), E9 (by unfold Av; omega) (by have := h.ix0; have := h.ix1; omega)]
 simp only [Option.bind_some]
 rw [if_pos ⟨hp, h.room⟩]
 have h1 : ((e.ep.toNat : Nat) : Int) = e.ep := by have := h.ep0; omega
 have h2 : ((e.ix.toNat : Nat) : Int) = e.ix := by have := h.ix0; omega
 rw [h1, h2]
theorem IM {s : List UInt8} {e : Ent} (h : WireS.read s = some e) : Right e ∧ e.prev.length = 32 ∧ e.sig = [] ∧ text e = s := by
 unfold WireS.read at h
 split at h
 ·rename_i h0
  obtain ⟨l, y, ha⟩ : ∃ l y, all s = (l, y) := ⟨_, _, rfl⟩
  rw [ha] at h h0
  simp only at h h0
  subst h0
  obtain ⟨hfit, hlist⟩ := all_ok ha
  match l, h with
  | [k, r, a, b, p, v], h =>
    simp only [FD] at h
    split at h
    ·rename_i hk
     cases hx : small 4096 a with
     | none => rw [hx] at h; cases h
     | some x =>
       cases hy : small 4096 b with
       | none => rw [hx, hy] at h; cases h
       | some y =>
         rw [hx, hy] at h
         simp only [Option.bind_some] at h
         split at h
         ·rename_i hc
          cases h
          obtain ⟨hx1, hx2⟩ := EI hx
          obtain ⟨hy1, hy2⟩ := EI hy
          have hv := (Ca.1 hfit).2 v (by simp)
          refine ⟨⟨hc.2, ?_, ?_, ?_, ?_, hv, by simp⟩, hc.1, rfl, ?_⟩
          ·exact Int.natCast_nonneg _
          ·show (x : Int) ≤ 4096; omega
          ·exact Int.natCast_nonneg _
          ·show (y : Int) ≤ 4096; omega
          ·rw [← hlist, hk]
           unfold EntS.text
           simp only [EntS.parts, Int.toNat_natCast]
           rw [hx2, hy2]
         ·cases h
    ·cases h
  | [], h => simp [FD] at h
  | [_], h => simp [FD] at h
  | [_, _], h => simp [FD] at h
  | [_, _, _], h => simp [FD] at h
  | [_, _, _, _], h => simp [FD] at h
  | [_, _, _, _, _], h => simp [FD] at h
  | _ :: _ :: _ :: _ :: _ :: _ :: _ :: _, h => simp [FD] at h
 ·cases h
end EntB
noncomputable section
namespace NSha
open ShaS
set_option maxRecDepth 100000
def kN : List Nat := [1116352408, 1899447441, 3049323471, 3921009573, 961987163, 1508970993, 2453635748, 2870763221, 3624381080, 310598401, 607225278, 1426881987, 1925078388, 2162078206, 2614888103, 3248222580, 3835390401, 4022224774, 264347078, 604807628, 770255983, 1249150122, 1555081692, 1996064986, 2554220882, 2821834349, 2952996808, 3210313671, 3336571891, 3584528711, 113926993, 338241895, 666307205, 773529912, 1294757372, 1396182291, 1695183700, 1986661051, 2177026350, 2456956037, 2730485921, 2820302411, 3259730800, 3345764771, 3516065817, 3600352804, 4094571909, 275423344, 430227734, 506948616, 659060556, 883997877, 958139571, 1322822218, 1537002063, 1747873779, 1955562222, 2024104815, 2227730452, 2361852424, 2428436474, 2756734187, 3204031479, 3329325298]
def S1 (y : Nat) : Nat := Nat.mod (Nat.xor (Nat.xor (Nat.shiftRight y 6) (Nat.shiftRight y 11)) (Nat.shiftRight y 25)) 4294967296
def S0 (y : Nat) : Nat := Nat.mod (Nat.xor (Nat.xor (Nat.shiftRight y 2) (Nat.shiftRight y 13)) (Nat.shiftRight y 22)) 4294967296
def s0 (x y : Nat) : Nat := Nat.xor (Nat.mod (Nat.xor (Nat.shiftRight y 7) (Nat.shiftRight y 18)) 4294967296) (Nat.shiftRight x 3)
def s1 (x y : Nat) : Nat := Nat.xor (Nat.mod (Nat.xor (Nat.shiftRight y 17) (Nat.shiftRight y 19)) 4294967296) (Nat.shiftRight x 10)
def dbl (x : Nat) : Nat := Nat.mul x 4294967297
def t1 (e f g h k w : Nat) : Nat := Nat.add (Nat.add (Nat.add (Nat.add h (S1 (dbl e))) (Nat.xor (Nat.land e f) (Nat.land (Nat.sub 4294967295 e) g))) k) w
def t2 (a b c : Nat) : Nat := Nat.add (S0 (dbl a)) (Nat.xor (Nat.xor (Nat.land a b) (Nat.land a c)) (Nat.land b c))
def red (x : Nat) : Nat := Nat.mod x 4294967296
def nxt (w0 w1 w9 w14 : Nat) : Nat := red (Nat.add (Nat.add (Nat.add w0 (s0 w1 (dbl w1))) w9) (s1 w14 (dbl w14)))
def go (l : List Nat) : (a b c d e f g h w0 w1 w2 w3 w4 w5 w6 w7 w8 w9 w10 w11 w12 w13 w14 w15 : Nat) → List Nat :=
 List.rec (motive := fun _ => (a b c d e f g h w0 w1 w2 w3 w4 w5 w6 w7 w8 w9 w10 w11 w12 w13 w14 w15 : Nat) → List Nat) (fun a b c d e f g h _ _ _ _ _ _ _ _ _ _ _ _ _ _ _ _ => [a, b, c, d, e, f, g, h])
    (fun k _ r a b c d e f g h w0 w1 w2 w3 w4 w5 w6 w7 w8 w9 w10 w11 w12 w13 w14 w15 => r (red (Nat.add (t1 e f g h k w0) (t2 a b c))) a b c (red (Nat.add d (t1 e f g h k w0))) e f g w1 w2 w3 w4 w5 w6 w7 w8 w9 w10 w11 w12 w13 w14 w15 (nxt w0 w1 w9 w14)) l
def comp (v w : List Nat) : List Nat := match v, w with
 | [a, b, c, d, e, f, g, h], [w0, w1, w2, w3, w4, w5, w6, w7, w8, w9, w10, w11, w12, w13, w14, w15] => match go kN a b c d e f g h w0 w1 w2 w3 w4 w5 w6 w7 w8 w9 w10 w11 w12 w13 w14 w15 with
   | [a', b', c', d', e', f', g', h'] => [red (Nat.add a a'), red (Nat.add b b'), red (Nat.add c c'), red (Nat.add d d'), red (Nat.add e e'), red (Nat.add f f'), red (Nat.add g g'), red (Nat.add h h')]
   | _ => []
 | _, _ => []
def w4 (a b c d : Nat) : Nat := Nat.add (Nat.add (Nat.add (Nat.mul a 16777216) (Nat.mul b 65536)) (Nat.mul c 256)) d
def wds : List Nat → List Nat
 | a :: b :: c :: d :: r => w4 a b c d :: wds r
 | _ => []
def force {α : Type} (l : List Nat) (r : α) : α := List.rec (motive := fun _ => α) r (fun x _ h => cond (Nat.beq x x) h h) l
def Fq : Nat → List Nat → List Nat → List Nat
 | 0, v, _ => v
 | f + 1, v, b => match b with
   | [] => v
   | _ => force v (Fq f (comp v (wds (b.take 64))) (b.drop 64))
def be (x : Nat) : List Nat := [Nat.div x 16777216, Nat.mod (Nat.div x 65536) 256, Nat.mod (Nat.div x 256) 256, Nat.mod x 256]
def fill (n : Nat) : List Nat := 0x80 :: (List.replicate ((119 - n % 64) % 64) 0 ++ (List.range 8).map fun i => (n * 8 / 2 ^ (56 - 8 * i)) % 256)
def begN : List Nat := [1779033703, 3144134277, 1013904242, 2773480762, 1359893119, 2600822924, 528734635, 1541459225]
def sum (s : List Nat) : List Nat := (Fq (s.length / 64 + 2) begN (s ++ fill s.length)).flatMap be
def mid (s : List Nat) : List Nat := (sum s).take 16
/-! ### One word -/
theorem GJ (a b : Nat) : Nat.mod (Nat.xor a b) 4294967296 = Nat.xor (Nat.mod a 4294967296) (Nat.mod b 4294967296) := by
 show (a ^^^ b) % 2 ^ 32 = (a % 2 ^ 32) ^^^ (b % 2 ^ 32)
 exact Nat.xor_mod_two_pow
theorem rot (x : UInt32) (n : Nat) (h0 : 0 < n) (h : n < 32) : Nat.mod (Nat.shiftRight (dbl x.toNat) n) 4294967296 = (rotr x n).toNat := by
 have hx : x.toNat < 4294967296 := x.toNat_lt
 unfold rotr dbl
 rw [UInt32.toNat_or, UInt32.toNat_shiftRight, UInt32.toNat_shiftLeft]
 have e1 : (UInt32.ofNat n).toNat % 32 = n := by
  rw [UInt32.toNat_ofNat']; omega
 have e2 : (UInt32.ofNat (32 - n)).toNat % 32 = 32 - n := by
  rw [UInt32.toNat_ofNat']; omega
 rw [e1, e2, Nat.shiftRight_eq_div_pow, Nat.shiftLeft_eq]
 show (x.toNat * 4294967297) >>> n % 4294967296 = _
 rw [Nat.shiftRight_eq_div_pow]
 have hp : 2 ^ n * 2 ^ (32 - n) = 4294967296 := by rw [← Nat.pow_add, show n + (32 - n) = 32 by omega]
 have hn : 0 < 2 ^ n := Nat.two_pow_pos n
 have hm : 0 < 2 ^ (32 - n) := Nat.two_pow_pos _
 obtain ⟨q, r, hq, hr⟩ : ∃ q r, x.toNat = 2 ^ n * q + r ∧ r < 2 ^ n := ⟨x.toNat / 2 ^ n, x.toNat % 2 ^ n, (Nat.div_add_mod _ _).symm, Nat.mod_lt _ hn⟩
 have hqd : x.toNat / 2 ^ n = q := by rw [hq, Nat.mul_add_div hn, Nat.div_eq_of_lt hr, Nat.add_zero]
 have hql : q < 2 ^ (32 - n) := by
  refine Nat.lt_of_mul_lt_mul_left (a := 2 ^ n) ?_
  rw [hp]
  omega
 have e3 : x.toNat * 4294967297 / 2 ^ n = x.toNat * 2 ^ (32 - n) + q := by
  have : x.toNat * 4294967297 = 2 ^ n * (x.toNat * 2 ^ (32 - n)) + x.toNat := by
   rw [← Nat.mul_assoc, Nat.mul_comm (2 ^ n) x.toNat, Nat.mul_assoc, hp]
   omega
  rw [this, Nat.mul_add_div hn, hqd]
 have e4 : x.toNat * 2 ^ (32 - n) = 4294967296 * q + r * 2 ^ (32 - n) := by
  rw [hq, Nat.add_mul, ← hp, Nat.mul_assoc, Nat.mul_assoc, Nat.mul_comm q (2 ^ (32 - n))]
 have hrl : r * 2 ^ (32 - n) + 2 ^ (32 - n) ≤ 4294967296 := by
  rw [← hp, ← Nat.succ_mul]
  exact Nat.mul_le_mul_right _ hr
 have e5 : x.toNat * 2 ^ (32 - n) % 2 ^ 32 = 2 ^ (32 - n) * r := by
  rw [e4, show (2 : Nat) ^ 32 = 4294967296 from rfl, Nat.mul_add_mod, Nat.mod_eq_of_lt (by omega), Nat.mul_comm]
 rw [e3, e5, hqd, Nat.or_comm, ← Nat.two_pow_add_eq_or_of_lt hql]
 rw [e4, Nat.mul_comm (2 ^ (32 - n)) r, Nat.add_assoc, Nat.mul_add_mod, Nat.mod_eq_of_lt (by omega)]
theorem S1_eq (e : UInt32) : S1 (dbl e.toNat) = (rotr e 6 ^^^ rotr e 11 ^^^ rotr e 25).toNat := by
 unfold S1
 rw [GJ, GJ, rot e 6 (by omega) (by omega), rot e 11 (by omega) (by omega), rot e 25 (by omega) (by omega), UInt32.toNat_xor, UInt32.toNat_xor]
 rfl
theorem S0_eq (e : UInt32) : S0 (dbl e.toNat) = (rotr e 2 ^^^ rotr e 13 ^^^ rotr e 22).toNat := by
 unfold S0
 rw [GJ, GJ, rot e 2 (by omega) (by omega), rot e 13 (by omega) (by omega), rot e 22 (by omega) (by omega), UInt32.toNat_xor, UInt32.toNat_xor]
 rfl
theorem s0_eq (x : UInt32) : s0 x.toNat (dbl x.toNat) = (rotr x 7 ^^^ rotr x 18 ^^^ x >>> 3).toNat := by
 unfold s0
 rw [GJ, rot x 7 (by omega) (by omega), rot x 18 (by omega) (by omega), UInt32.toNat_xor, UInt32.toNat_xor, UInt32.toNat_shiftRight]
 rfl
theorem s1_eq (x : UInt32) : s1 x.toNat (dbl x.toNat) = (rotr x 17 ^^^ rotr x 19 ^^^ x >>> 10).toNat := by
 unfold s1
 rw [GJ, rot x 17 (by omega) (by omega), rot x 19 (by omega) (by omega), UInt32.toNat_xor, UInt32.toNat_xor, UInt32.toNat_shiftRight]
 rfl
theorem ch_eq (e f g : UInt32) : Nat.xor (Nat.land e.toNat f.toNat) (Nat.land (Nat.sub 4294967295 e.toNat) g.toNat) = (e &&& f ^^^ ~~~e &&& g).toNat := by
 rw [UInt32.toNat_xor, UInt32.toNat_and, UInt32.toNat_and, UInt32.toNat_not]
 rfl
theorem maj_eq (a b c : UInt32) : Nat.xor (Nat.xor (Nat.land a.toNat b.toNat) (Nat.land a.toNat c.toNat)) (Nat.land b.toNat c.toNat) = (a &&& b ^^^ a &&& c ^^^ b &&& c).toNat := by
 rw [UInt32.toNat_xor, UInt32.toNat_xor, UInt32.toNat_and, UInt32.toNat_and, UInt32.toNat_and]
 rfl
def T1 (e f g h k w : UInt32) : UInt32 := h + (rotr e 6 ^^^ rotr e 11 ^^^ rotr e 25) + (e &&& f ^^^ ~~~e &&& g) + k + w
def T2 (a b c : UInt32) : UInt32 := (rotr a 2 ^^^ rotr a 13 ^^^ rotr a 22) + (a &&& b ^^^ a &&& c ^^^ b &&& c)
def NX (w0 w1 w9 w14 : UInt32) : UInt32 := w0 + (rotr w1 7 ^^^ rotr w1 18 ^^^ w1 >>> 3) + w9 + (rotr w14 17 ^^^ rotr w14 19 ^^^ w14 >>> 10)
theorem t1_eq (e f g h k w : UInt32) : t1 e.toNat f.toNat g.toNat h.toNat k.toNat w.toNat % 4294967296 = (T1 e f g h k w).toNat := by
 unfold t1 T1
 rw [S1_eq, ch_eq]
 simp only [UInt32.toNat_add]
 show ((_ : Nat) + _ + _ + _ + _) % 4294967296 = _
 omega
theorem t2_eq (a b c : UInt32) : t2 a.toNat b.toNat c.toNat % 4294967296 = (T2 a b c).toNat := by
 unfold t2 T2
 rw [S0_eq, maj_eq]
 simp only [UInt32.toNat_add]
 rfl
theorem a_eq (a b c e f g h k w : UInt32) : red (Nat.add (t1 e.toNat f.toNat g.toNat h.toNat k.toNat w.toNat) (t2 a.toNat b.toNat c.toNat)) = (T1 e f g h k w + T2 a b c).toNat := by
 rw [UInt32.toNat_add, ← t1_eq, ← t2_eq]
 show ((_ : Nat) + _) % 4294967296 = _
 omega
theorem e_eq (d e f g h k w : UInt32) : red (Nat.add d.toNat (t1 e.toNat f.toNat g.toNat h.toNat k.toNat w.toNat)) = (d + T1 e f g h k w).toNat := by
 rw [UInt32.toNat_add, ← t1_eq]
 show ((_ : Nat) + _) % 4294967296 = _
 omega
theorem nxt_eq (w0 w1 w9 w14 : UInt32) : nxt w0.toNat w1.toNat w9.toNat w14.toNat = (NX w0 w1 w9 w14).toNat := by
 unfold nxt NX
 rw [s0_eq, s1_eq]
 simp only [UInt32.toNat_add]
 show ((_ : Nat) + _ + _ + _) % 4294967296 = _
 omega
/-! ### A block -/
def goL : List UInt32 → List UInt32 → List UInt32 → List UInt32
 | [], x, _ => x
 | k :: ks, x, w => goL ks (stepL x k (w.getD 0 0)) (w.drop 1 ++ [NX (w.getD 0 0) (w.getD 1 0) (w.getD 9 0) (w.getD 14 0)])
def lN (l : List UInt32) : List Nat := l.map UInt32.toNat
theorem go_cons (ks : List Nat) (k a b c d e f g h w0 w1 w2 w3 w4 w5 w6 w7 w8 w9 w10 w11 w12 w13 w14 w15 : Nat) : go (k :: ks) a b c d e f g h w0 w1 w2 w3 w4 w5 w6 w7 w8 w9 w10 w11 w12 w13 w14 w15 = go ks (red (Nat.add (t1 e f g h k w0) (t2 a b c))) a b c (red (Nat.add d (t1 e f g h k w0))) e f g w1 w2 w3 w4 w5 w6 w7 w8 w9 w10 w11 w12 w13 w14 w15 (nxt w0 w1 w9 w14) := by
 unfold go
 dsimp only
theorem goL_cons (ks : List UInt32) (k a b c d e f g h w0 w1 w2 w3 w4 w5 w6 w7 w8 w9 w10 w11 w12 w13 w14 w15 : UInt32) : goL (k :: ks) [a, b, c, d, e, f, g, h] [w0, w1, w2, w3, w4, w5, w6, w7, w8, w9, w10, w11, w12, w13, w14, w15] = goL ks [T1 e f g h k w0 + T2 a b c, a, b, c, d + T1 e f g h k w0, e, f, g] [w1, w2, w3, w4, w5, w6, w7, w8, w9, w10, w11, w12, w13, w14, w15, NX w0 w1 w9 w14] := by
 rw [goL]
 rfl
theorem go_eq : ∀ (ks : List UInt32) (a b c d e f g h w0 w1 w2 w3 w4 w5 w6 w7 w8 w9 w10 w11 w12 w13 w14 w15 : UInt32), go (lN ks) a.toNat b.toNat c.toNat d.toNat e.toNat f.toNat g.toNat h.toNat w0.toNat w1.toNat w2.toNat w3.toNat w4.toNat w5.toNat w6.toNat w7.toNat w8.toNat w9.toNat w10.toNat w11.toNat w12.toNat w13.toNat w14.toNat w15.toNat = lN (goL ks [a, b, c, d, e, f, g, h] [w0, w1, w2, w3, w4, w5, w6, w7, w8, w9, w10, w11, w12, w13, w14, w15])
 | [], a, b, c, d, e, f, g, h, w0, w1, w2, w3, w4, w5, w6, w7, w8, w9, w10, w11, w12, w13, w14, w15 => rfl
 | k :: ks, a, b, c, d, e, f, g, h, w0, w1, w2, w3, w4, w5, w6, w7, w8, w9, w10, w11, w12, w13, w14, w15 => by
   rw [lN, List.map_cons, go_cons, goL_cons, a_eq, e_eq, nxt_eq]
   exact go_eq ks _ a b c _ e f g w1 w2 w3 w4 w5 w6 w7 w8 w9 w10 w11 w12 w13 w14 w15 _
def wd (b : List UInt8) (t : Nat) : UInt32 := (wN b 80).getD t 0
theorem wd_of {b : List UInt8} {t n : Nat} (h : t < n) (hn : n ≤ 80) : (wN b n).getD t 0 = wd b t := by
 unfold wd
 have h1 := wN_take b n (80 - n)
 rw [show n + (80 - n) = 80 by omega] at h1
 rw [← h1, List.getD_eq_getElem?_getD, List.getD_eq_getElem?_getD, List.getElem?_take, if_pos h]
theorem wN_last (b : List UInt8) (t : Nat) (x : UInt32) : (wN b t ++ [x]).getD t 0 = x := by
 rw [List.getD_eq_getElem?_getD, List.getElem?_append_right (by rw [BR]; omega), BR, Nat.sub_self]
 rfl
theorem wd_next (b : List UInt8) (t : Nat) (h : t + 16 < 80) : wd b (t + 16) = NX (wd b t) (wd b (t + 1)) (wd b (t + 9)) (wd b (t + 14)) := by
 rw [← wd_of (n := t + 17) (by omega) (by omega)]
 rw [show t + 17 = (t + 16) + 1 from rfl, wN, wN_last, if_neg (by omega)]
 unfold nextW NX
 rw [show t + 16 - 15 = t + 1 by omega, show t + 16 - 2 = t + 14 by omega, show t + 16 - 16 = t by omega, show t + 16 - 7 = t + 9 by omega]
 rw [wd_of (by omega) (by omega), wd_of (by omega) (by omega), wd_of (by omega) (by omega), wd_of (by omega) (by omega)]
theorem wd_first (b : List UInt8) (t : Nat) (h : t < 16) : wd b t = H6 (b.getD (4 * t) 0) (b.getD (4 * t + 1) 0) (b.getD (4 * t + 2) 0) (b.getD (4 * t + 3) 0) := by
 rw [← wd_of (n := t + 1) (by omega) (by omega), wN, wN_last, if_pos h]
def win (b : List UInt8) (t : Nat) : List UInt32 := (List.range 16).map fun i => wd b (t + i)
theorem H7 (b : List UInt8) (t i : Nat) (h : i < 16) : (win b t).getD i 0 = wd b (t + i) := by
 unfold win
 rw [List.getD_eq_getElem?_getD, List.getElem?_map, List.getElem?_range h, Option.map_some, Option.getD_some]
theorem map16 {α : Type} (f : Nat → α) : (List.range 16).map f = [f 0, f 1, f 2, f 3, f 4, f 5, f 6, f 7, f 8, f 9, f 10, f 11, f 12, f 13, f 14, f 15] := rfl
theorem win_eq (b : List UInt8) (t : Nat) : win b t = [wd b (t + 0), wd b (t + 1), wd b (t + 2), wd b (t + 3), wd b (t + 4), wd b (t + 5), wd b (t + 6), wd b (t + 7), wd b (t + 8), wd b (t + 9), wd b (t + 10), wd b (t + 11), wd b (t + 12), wd b (t + 13), wd b (t + 14), wd b (t + 15)] := map16 _
theorem win_next (b : List UInt8) (t : Nat) (h : t + 16 < 80) : (win b t).drop 1 ++ [NX ((win b t).getD 0 0) ((win b t).getD 1 0) ((win b t).getD 9 0) ((win b t).getD 14 0)] = win b (t + 1) := by
 have hx := wd_next b t h
 rw [H7 b t 0 (by omega), H7 b t 1 (by omega), H7 b t 9 (by omega), H7 b t 14 (by omega)]
 have e0 : t + 0 = t := rfl
 rw [e0, ← hx, win_eq, win_eq]
 have e : ∀ i, t + 1 + i = t + (i + 1) := fun i => by omega
 simp only [e, List.drop_succ_cons, List.drop_zero, List.cons_append, List.nil_append]
theorem goL_comp (b : List UInt8) (v : List UInt32) : ∀ n t, n + t = 64 → goL (kL.drop t) (DD v (words b) t) (win b t) = DD v (words b) 64
 | 0, t, h => by
   obtain rfl : t = 64 := by omega
   rfl
 | n + 1, t, h => by
   have hk : kL.drop t = kL.getD t 0 :: kL.drop (t + 1) := by
     have hl : t < kL.length := by rw [show kL.length = 64 from rfl]; omega
     rw [List.drop_eq_getElem_cons hl, List.getD_eq_getElem?_getD, List.getElem?_eq_getElem hl]
     rfl
   have h0 := H7 b t 0 (by omega)
   have e0 : t + 0 = t := rfl
   rw [e0] at h0
   rw [hk, goL, win_next b t (by omega), h0]
   have : stepL (DD v (words b) t) (kL.getD t 0) (wd b t) = DD v (words b) (t + 1) := by
     rw [DD]
     unfold words
     rw [wd_of (by omega) (by omega)]
   rw [this]
   exact goL_comp b v n (t + 1) (by omega)
theorem kN_eq : kN = lN kL := by decide +kernel
theorem begN_eq : begN = lN CP := by decide +kernel
def bN (l : List UInt8) : List Nat := l.map UInt8.toNat
theorem w4_eq (a b c d : UInt8) : w4 a.toNat b.toNat c.toNat d.toNat = (H6 a b c d).toNat := by
 have := a.toNat_lt; have := b.toNat_lt; have := c.toNat_lt; have := d.toNat_lt
 unfold H6
 rw [UInt32.toNat_ofNat']
 show a.toNat * 16777216 + b.toNat * 65536 + c.toNat * 256 + d.toNat = _
 omega
theorem wds_eq : ∀ (n : Nat) (b : List UInt8), b.length = 4 * n → wds (bN b) = (List.range n).map fun t => (H6 (b.getD (4 * t) 0) (b.getD (4 * t + 1) 0) (b.getD (4 * t + 2) 0) (b.getD (4 * t + 3) 0)).toNat
 | 0, b, h => by
   match b, h with
   | [], _ => rfl
 | n + 1, b, h => by
   match b, h with
   | p :: q :: r :: s :: l, h =>
     have hl : l.length = 4 * n := by simp at h; omega
     rw [List.range_succ_eq_map, List.map_cons, List.map_map]
     show w4 p.toNat q.toNat r.toNat s.toNat :: wds (bN l) = _
     rw [w4_eq, wds_eq n l hl]
     congr 1
   | [], h => simp at h
   | [_], h => simp at h; omega
   | [_, _], h => simp at h; omega
   | [_, _, _], h => simp at h; omega
theorem comp_of (a b c d e f g h w0 w1 w2 w3 w4 w5 w6 w7 w8 w9 w10 w11 w12 w13 w14 w15 a' b' c' d' e' f' g' h' : Nat) (hgo : go kN a b c d e f g h w0 w1 w2 w3 w4 w5 w6 w7 w8 w9 w10 w11 w12 w13 w14 w15 = [a', b', c', d', e', f', g', h']) : NSha.comp [a, b, c, d, e, f, g, h] [w0, w1, w2, w3, w4, w5, w6, w7, w8, w9, w10, w11, w12, w13, w14, w15] = [red (Nat.add a a'), red (Nat.add b b'), red (Nat.add c c'), red (Nat.add d d'), red (Nat.add e e'), red (Nat.add f f'), red (Nat.add g g'), red (Nat.add h h')] := by
 unfold NSha.comp
 simp only
 rw [hgo]
theorem add_eq (a b : UInt32) : red (Nat.add a.toNat b.toNat) = (a + b).toNat := by rw [UInt32.toNat_add]; rfl
theorem comp_eq {v : List UInt32} (hv : v.length = 8) {b : List UInt8} (hb : b.length = 64) : NSha.comp (lN v) (wds (bN b)) = lN (addB v b) := by
 have hw : wds (bN b) = lN (win b 0) := by
  rw [wds_eq 16 b (by omega)]
  unfold win lN
  rw [List.map_map]
  refine List.map_congr_left fun t ht => ?_
  have ht' : t < 16 := by simpa using ht
  simp only [Function.comp, Nat.zero_add]
  rw [wd_first b t ht']
 have hg := goL_comp b v 64 0 (by omega)
 obtain ⟨L, hL⟩ := nXe (win b 0)
 rw [hw]
 rw [← hL] at hg ⊢
 have hl : L.length = 16 := by rw [hL]; rfl
 clear hw hL
 have hz := CE hv (words b) 64
 unfold addB ShaS.comp
 obtain ⟨R, hR⟩ := nXe (DD v (words b) 64)
 rw [← hR] at hg hz ⊢
 clear hR
 match v, hv, L, hl, R, hz with
 | [a, b, c, d, e, f, g, h], _, [w0, w1, w2, w3, w4, w5, w6, w7, w8, w9, w10, w11, w12, w13, w14, w15], _, [a', b', c', d', e', f', g', h'], _ =>
   have hgo := go_eq kL a b c d e f g h w0 w1 w2 w3 w4 w5 w6 w7 w8 w9 w10 w11 w12 w13 w14 w15
   rw [show goL kL [a, b, c, d, e, f, g, h] [w0, w1, w2, w3, w4, w5, w6, w7, w8, w9, w10, w11, w12, w13, w14, w15] = [a', b', c', d', e', f', g', h'] from hg, ← kN_eq] at hgo
   simp only [lN, List.map_cons, List.map_nil] at hgo ⊢
   rw [comp_of _ _ _ _ _ _ _ _ _ _ _ _ _ _ _ _ _ _ _ _ _ _ _ _ _ _ _ _ _ _ _ _ hgo]
   simp only [add_eq]
   rfl
/-! ### A text -/
theorem force_eq {α : Type} (r : α) : ∀ l, force l r = r
 | [] => rfl
 | x :: l => by
   show cond (Nat.beq x x) (force l r) (force l r) = r
   rw [force_eq r l]
   cases Nat.beq x x <;> rfl
theorem bN_take (l : List UInt8) (n : Nat) : (bN l).take n = bN (l.take n) := by unfold bN; rw [List.map_take]
theorem bN_drop (l : List UInt8) (n : Nat) : (bN l).drop n = bN (l.drop n) := by unfold bN; rw [List.map_drop]
theorem sumGo_eq : ∀ (m f : Nat) (v : List UInt32) (b : List UInt8), v.length = 8 → b.length = 64 * m → m ≤ f → NSha.Fq f (lN v) (bN b) = lN (sumB v b)
 | 0, f, v, b, hv, hb, hf => by
   match b, hb with
   | [], _ =>
     rw [sumB_lt (by simp)]
     cases f <;> rfl
 | m + 1, 0, v, b, hv, hb, hf => by omega
 | m + 1, f + 1, v, b, hv, hb, hf => by
   rw [sumB_ge (by omega)]
   have hc := comp_eq hv (b := b.take 64) (by rw [List.length_take]; omega)
   have hr := sumGo_eq m f (addB v (b.take 64)) (b.drop 64) (GH hv _) (by rw [List.length_drop]; omega) (by omega)
   obtain ⟨x, r, hx⟩ : ∃ x r, bN b = x :: r := by
     cases b with
     | nil => rw [List.length_nil] at hb; omega
     | cons x r => exact ⟨_, _, rfl⟩
   unfold NSha.Fq
   rw [hx]
   simp only
   rw [← hx, force_eq, bN_take, bN_drop, hc, hr]
theorem be_eq (x : UInt32) : NSha.be x.toNat = bN (ShaS.be x) := by
 have := x.toNat_lt
 unfold NSha.be ShaS.be bN
 simp only [List.map_cons, List.map_nil, UInt8.toNat_ofNat']
 show [x.toNat / 16777216, x.toNat / 65536 % 256, x.toNat / 256 % 256, x.toNat % 256] = _
 congr 1
 omega
theorem flat_eq : ∀ l : List UInt32, (lN l).flatMap NSha.be = bN (l.flatMap ShaS.be)
 | [] => rfl
 | x :: l => by
   have h := flat_eq l
   simp only [lN, List.map_cons, List.flatMap_cons, bN, List.map_append] at h ⊢
   rw [h]
   congr 1
   exact be_eq x
theorem fill_eq (n : Nat) : NSha.fill n = bN (ShaS.fill n) := by
 unfold NSha.fill ShaS.fill bN
 simp only [List.map_cons, List.map_append, List.map_replicate, List.map_map]
 congr 2
theorem sum_eq (s : List UInt8) : NSha.sum (bN s) = bN (ShaS.sum s) := by
 unfold NSha.sum ShaS.sum
 have h : bN s ++ NSha.fill (bN s).length = bN (pad s) := by
  rw [fill_eq]
  unfold pad bN
  rw [List.map_append, List.length_map]
 have hp := Gx s
 have hf := Eu s.length
 have hl : (pad s).length = s.length + (ShaS.fill s.length).length := by unfold pad; rw [List.length_append]
 rw [h, begN_eq, sumGo_eq ((pad s).length / 64) _ _ _ (by rfl) (by omega) (by rw [show (bN s).length = s.length from by unfold bN; rw [List.length_map]]; omega), flat_eq]
theorem mid_eq (s : List UInt8) : NSha.mid (bN s) = bN (ShaS.mid s) := by
 unfold NSha.mid ShaS.mid
 rw [sum_eq, bN_take]
end NSha
end
noncomputable section
namespace KeyN
open ShaS KeyS NSha
set_option maxRecDepth 100000
def onN : Nat → List Nat → List Nat
 | 0, x => x
 | n + 1, x => onN n (NSha.mid (2 :: x))
def startN (seed : List Nat) (j : Nat) : List Nat := NSha.mid (3 :: j % 256 :: seed)
def stepsN (seed : List Nat) (m : Nat → Nat) : List Nat := NSha.sum (4 :: (List.range 68).flatMap fun j => onN (m j) (startN seed j))
def steps (seed : List UInt8) (m : Nat → Nat) : List UInt8 := sum (4 :: (List.range 68).flatMap fun j => on (m j) (KeyS.start seed j))
theorem FY (x : UInt8) (l : List UInt8) : bN (x :: l) = x.toNat :: bN l := rfl
theorem bN_append (a b : List UInt8) : bN (a ++ b) = bN a ++ bN b := List.map_append
theorem on_eq : ∀ (n : Nat) (x : List UInt8), bN (on n x) = onN n (bN x)
 | 0, x => rfl
 | n + 1, x => by
   rw [on, onN, on_eq n]
   have h := mid_eq (2 :: x)
   rw [FY] at h
   rw [← h]
   rfl
theorem start_eq (seed : List UInt8) (j : Nat) : bN (KeyS.start seed j) = startN (bN seed) j := by
 unfold KeyS.start startN
 rw [← mid_eq, FY, FY, UInt8.toNat_ofNat']
 rfl
theorem flat_bN (f : Nat → List UInt8) (g : Nat → List Nat) (h : ∀ j, bN (f j) = g j) : ∀ l : List Nat, bN (l.flatMap f) = l.flatMap g
 | [] => rfl
 | x :: r => by rw [List.flatMap_cons, List.flatMap_cons, bN_append, h, flat_bN f g h r]
theorem steps_eq (seed : List UInt8) (m : Nat → Nat) : bN (steps seed m) = stepsN (bN seed) m := by
 unfold steps stepsN
 rw [← sum_eq, FY, flat_bN _ (fun j => onN (m j) (startN (bN seed) j)) (fun j => by rw [on_eq, start_eq])]
 rfl
theorem pub_steps (seed : List UInt8) : pub seed = steps seed (fun _ => 3) := rfl
theorem above_eq (l r : List UInt8) : bN (above l r) = NSha.sum (1 :: (bN l ++ bN r)) := by
 unfold above
 rw [← sum_eq, FY, bN_append]
 rfl
theorem place_eq (seed : List UInt8) (i : Nat) : bN (A7 seed i) = NSha.mid (5 :: i % 256 :: bN seed) := by
 unfold A7
 rw [← mid_eq, FY, FY, UInt8.toNat_ofNat']
 rfl
theorem steps_of {seed : List UInt8} {m : Nat → Nat} {s l : List Nat} (hs : bN seed = s) (h : (stepsN s m == l) = true) : bN (steps seed m) = l := by
 rw [steps_eq, hs]
 exact eq_of_beq h
/-! ### The key that the statements' own checks use: seed "s", height one -/
def p0 : List Nat := [102, 156, 13, 65, 161, 239, 112, 28, 109, 250, 112, 69, 244, 65, 172, 77]
def p1 : List Nat := [152, 117, 106, 139, 83, 164, 80, 143, 201, 124, 249, 93, 236, 98, 30, 89]
theorem p0_eq : bN (A7 [115] 0) = p0 := by
 rw [place_eq]
 exact eq_of_beq (by decide +kernel)
theorem p1_eq : bN (A7 [115] 1) = p1 := by
 rw [place_eq]
 exact eq_of_beq (by decide +kernel)
theorem leaf0 : bN (pub (A7 [115] 0)) = [133, 132, 226, 9, 67, 101, 124, 7, 112, 140, 113, 84, 118, 64, 209, 109, 80, 56, 159, 43, 199, 54, 251, 52, 131, 108, 173, 108, 134, 93, 87, 198] := by
 rw [pub_steps]
 exact steps_of p0_eq (by decide +kernel)
theorem leaf1 : bN (pub (A7 [115] 1)) = [116, 114, 126, 235, 204, 156, 53, 229, 79, 85, 47, 115, 7, 142, 228, 51, 173, 35, 236, 27, 117, 190, 31, 217, 22, 236, 238, 183, 255, 165, 187, 204] := by
 rw [pub_steps]
 exact steps_of p1_eq (by decide +kernel)
theorem map_two {α : Type} (f : Nat → α) : (List.range (2 ^ 1)).map f = [f 0, f 1] := rfl
theorem root_pair (a b : List UInt8) : root 1 [a, b] = above a b := rfl
theorem root_two (seed : List UInt8) : rootOf seed 1 = above (pub (A7 seed 0)) (pub (A7 seed 1)) := by
 unfold rootOf Dh
 rw [map_two, root_pair]
theorem root_s : bN (rootOf [115] 1) = [1, 182, 6, 211, 135, 147, 53, 5, 245, 241, 205, 252, 197, 223, 231, 32, 130, 117, 182, 46, 173, 16, 191, 101, 209, 159, 7, 102, 245, 140, 192, 251] := by
 rw [root_two, above_eq, leaf0, leaf1]
 exact eq_of_beq (by decide +kernel)
end KeyN
end
end Go.Proofs.YtadofbbpfgmclaaGreatDoor
