/-
  WHAT IS PROVED: contracts and plain laws. Condition: each names its own.
-/
import Derived.Test.YtceiajepcokacaaGreatDoorS0
import Derived.Test.YtceiajepcokacaaGreatDoorZHF09
import Derived.ChangeKeysEq
import Derived.Deep.MidRow
import Derived.KernelRfl
import Derived.LaidHandle
import Derived.LaidLaws
import Derived.LaidMore
import Derived.LaidSub
import Derived.Laws.StructEq
import Derived.MakeChecks
import Derived.StillTactics
import Derived.Stop.LaidErr
import Derived.Tactics
import Derived.Tactics2
import Derived.Test.YtceiajepcokacaaGreatDoorChecked
set_option linter.unusedVariables false
set_option linter.unusedSimpArgs false
set_option maxRecDepth 100000
set_option maxHeartbeats 4000000
namespace Go.Proofs.YtceiajepcokacaaGreatDoor
open Go.Proofs.Tryz hiding parts
namespace BookA
open Go Go.RowKit Go.Shelf Steps KeyA TreeA
structure Gr' where
 sv : Int
 fr : Int
 to : Int
 hi : Int
 rt : H32
def Gr'.cs (g : Gr') : List Value := [.int .i64 g.sv, .int .i64 g.fr, .int .i64 g.to, .int .i64 g.hi] ++ byV g.rt.l
def Gr'.A (g : Gr') : Array Value := g.cs.toArray
theorem grF : RowsX.El 36 Gr'.cs := ⟨fun g => by unfold Gr'.cs; simp [AZ, g.rt.len], fun g u hu => by
 unfold Gr'.cs at hu
 rcases List.mem_append.1 hu with h | h
 ·simp only [List.mem_cons, List.not_mem_nil, or_false] at h
  rcases h with rfl | rfl | rfl | rfl <;> rfl
 ·obtain ⟨b, _, rfl⟩ := List.mem_map.1 h
  rfl⟩
theorem Gr'.c0 (g : Gr') : g.A[0]? = some (.int .i64 g.sv) := rfl
theorem Gr'.c1 (g : Gr') : g.A[1]? = some (.int .i64 g.fr) := rfl
theorem Gr'.c2 (g : Gr') : g.A[2]? = some (.int .i64 g.to) := rfl
theorem Gr'.c3 (g : Gr') : g.A[3]? = some (.int .i64 g.hi) := rfl
structure Gr'.Right (g : Gr') : Prop where
 s0 : 0 ≤ g.sv
 s1 : g.sv ≤ 63
 f0 : 0 ≤ g.fr
 f1 : g.fr ≤ g.to
 t1 : g.to ≤ 1099511627776
 h0 : 0 ≤ g.hi
 h1 : g.hi ≤ 7
def Bo (g : Gr') (sv at' : Int) : Bool := g.sv == sv && (decide (g.fr ≤ at') && decide (at' ≤ g.to))
theorem UC (w : World) (g : Gr') (b1 b2 : Nat) (sv at' : Int) (h1 : w.heap[b1]? = some (.cells #[.int .i64 sv] 3 (0, 0))) (h2 : w.heap[b2]? = some (.cells #[.int .i64 at'] 2 (0, 0))) :
 Calls Tryz.prog 76 #[.agg g.A, .pointer (some ⟨b1, 0, none⟩), .pointer (some ⟨b2, 0, none⟩)] w (RB (.bool (Bo g sv at')) w) := by
 unfold Bo
 obtain ⟨p, hp⟩ := nXe (g.A)
 have p0 := g.c0
 have p1 := g.c1
 have p2 := g.c2
 rw [← hp] at p0 p1 p2 ⊢
 obtain ⟨s2, hsv⟩ := nXe (g.sv)
 obtain ⟨fr, hfr⟩ := nXe (g.fr)
 obtain ⟨to, hto⟩ := nXe (g.to)
 rw [← hsv] at p0 ⊢
 rw [← hfr] at p1 ⊢
 rw [← hto] at p2 ⊢
 have l1 := AJ h1
 have l2 := AJ h2
 have n1 : ¬ b1 = w.heap.size := by omega
 have n2 : ¬ b2 = w.heap.size := by omega
 have c1 := AO (j := 0) h1
 have c2 := AO (j := 0) h2
 clear hsv hfr hto hp h1 h2
 cases e1 : (s2 == sv) <;> cases e2 : decide (fr ≤ at') <;> cases e3 : decide (at' ≤ to)
 all_goals
  go_enter func76, ntmps76
  go_wp2
  go_ret
  exact ⟨by first | rfl | simp_all, bAx⟩
end BookA
namespace BookB
open Go Go.RowKit Go.Shelf Steps RowsX Lift KeyA TreeA BookA
def EE (sv at' : Int) : List Gr' → Nat → Int
 | [], _ => -1
 | g :: r, k => if Bo g sv at' = true then (k : Int) else EE sv at' r (k + 1)
theorem DL (g : Gr') : g.A.size = 36 := by unfold Gr'.A; simp [grF.len]
theorem DN (g : Gr') : (Tryz.prog.info? 65).map (·.size) = some g.A.size := by rw [DL]; kernel_rfl
theorem IR (w : World) (v : Value) (L : List Gr') (b1 b2 : Nat) (sv at' : Int) (hv : Sl w v 36 L.length (L.flatMap Gr'.cs)) (hL : L.length ≤ 100000) (h1 : w.heap[b1]? = some (.cells #[.int .i64 sv] 3 (0, 0))) (h2 : w.heap[b2]? = some (.cells #[.int .i64 at'] 2 (0, 0))) :
 Calls Tryz.prog 75 #[v, .func (.func 76) #[] #[.pointer (some ⟨b1, 0, none⟩), .pointer (some ⟨b2, 0, none⟩)]] w (RB (.int .i64 (EE sv at' L 0)) w) := by
 obtain ⟨a, cap, rfl, hcap, hm⟩ := hv.form
 obtain ⟨R, hR⟩ := nXe (EE sv at' L 0)
 obtain ⟨n, hn⟩ := nXe (L.length)
 rw [← hR]
 rw [← hn] at hv hL hcap ⊢
 obtain ⟨HR, Hn, Hv, H1, H2⟩ := l5h hR hn hv h1 h2
 clear hR hn hv h1 h2 hm hcap
 go_enter func75, ntmps75
 go_wp2
 go_loopw [8] (fun j wr => ∃ (k : Nat), j = .int .i64 k ∧ k ≤ n ∧ Hid (EE sv at' (L.drop k) k = R) ∧ Below w.heap.size w wr)
  (fun j _ => n - (intOf j).toNat)
 case atStart => exact ⟨0, rfl, by omega, lh HR.out.symm, Below.refl _ _⟩
 case round =>
  obtain ⟨k, rfl, hk, hR, hb⟩ := hrel
  have HB := lh hb
  have hvw := Hv.out.ext (Ext.of_below (S := fun _ => False) hb) (fun _ _ h => h)
  clear hb
  by_cases hlt : k < n
  ·skip
   obtain ⟨c, hc⟩ : ∃ c, L[k]? = some c := ⟨_, List.getElem?_eq_getElem (by rw [← Hn.out]; exact hlt)⟩
   rw [Hn.out] at hvw
   obtain ⟨b, o, rfl, hblt, hcc⟩ := BU grF (by omega) hvw hc
   have hdr : L.drop k = c :: L.drop (k + 1) := by
        have hl : k < L.length := by rw [← Hn.out]; exact hlt
        rw [List.drop_eq_getElem_cons hl]
        rw [List.getElem?_eq_getElem hl] at hc
        rw [Option.some.inj hc]
   have hR' := hR.out
   rw [hdr, EE] at hR'
   have Hcc := lh (show ∀ (j : Nat) (u : Value), c.A.toList[j]? = some u → wr.cell? ⟨b, o + k * 36 + j, none⟩ = some u from hcc)
   have hF := UC wr c b1 b2 sv at' ((HB.out.block _ (AJ H1.out)).trans H1.out) ((HB.out.block _ (AJ H2.out)).trans H2.out)
   obtain ⟨C, hC⟩ := nXe (c.A)
   rw [← hC] at Hcc hF
   have HCS := lh (show (Tryz.prog.info? 65).map (·.size) = some C.size by rw [hC]; exact DN c)
   obtain ⟨q, hq⟩ := nXe (Bo c sv at')
   rw [← hq] at hF hR'
   obtain ⟨HF, HR2⟩ := l2h hF hR'
   clear hc hdr hR' hvw hcc hC hF hq
   go_wp2_with (first | (refine Ah rfl _ _ rfl b (o + k * 36) rfl C Hcc.out underlying65 rfl HCS.out ?_) | fail)
   refine HF.out.mono ?_
   rintro e w2 ⟨rfl, hb⟩
   have HB2 := tbB HB hb
   clear hb
   cases q
   ·have h3 := HR2.out
    rw [if_neg (by simp)] at h3
    go_wp2
    go_roundw
    case rel => exact ⟨k + 1, by go_num, by omega, lh h3, HB2.out⟩
    case measure => simp [intOf]; omega
   ·have h3 := HR2.out
    rw [if_pos rfl] at h3
    subst h3
    go_wp2
    go_ret
    exact ⟨rfl, HB2.out⟩
  ·skip
   obtain rfl : k = n := by omega
   have hR' := hR.out
   rw [List.drop_of_length_le (by rw [← Hn.out]; exact Nat.le_refl _), EE] at hR'
   subst hR'
   go_wp2
   go_ret
   exact ⟨rfl, HB.out⟩
end BookB
namespace BookD
open Go Go.RowKit Go.Shelf Steps RowsX Lift KeyA TreeA BookA BookB
def FY : Gr' := ⟨0, 0, 0, 0, CQ⟩
end BookD
namespace Laid
open Go Go.RowKit IdentP
theorem G6 {P : Program} {W : World} {name : String} {ls : List (List UInt8)} {rest : List (String × DataW Unit)} {g : Nat} {t e : TypeId} {n : Nat}
 (hg : P.globalNamed name = some g) (hty : (P.globals[g]?).map (·.type) = some t) (ht : P.underlying t = some (.array n e)) (he : P.underlying e = some .string) (hce : P.cellsOf e = 1)
 (h : laidMet P ((name, .agg (ls.map fun l => .lit (.string l))) :: rest) W) (i : Nat) (l : List UInt8) (hi : ls[i]? = some l) : W.cell? ⟨g, i, none⟩ = some (.string (bsOf l)) := by
 obtain ⟨ps, ⟨g', t', cs, fuel, p, q, hg', ht', hvar, hd, _, _⟩, _⟩ := h
 obtain rfl := Option.some.inj (hg.symm.trans hg')
 obtain rfl := Option.some.inj (hty.symm.trans ht')
 obtain ⟨xs, m, rfl, hx, hlen, hn, hel⟩ := DataW.trod_array ht hd
 simp only [Prod.mk.injEq, DataW.agg.injEq] at hx
 have hxs := hx.1
 have hil : i < ls.length := (List.getElem?_eq_some_iff.1 hi).1
 have hin : i < n := by
  have := congrArg List.length hxs
  simp at this
  omega
 have h1 := hel i hin
 rw [hce, Nat.mul_one, List.getElem?_eq_getElem (by omega)] at h1
 obtain ⟨s, e1, e2, _⟩ := DataW.trod_string he h1
 have h2 : (xs.map (·.1))[i]? = (ls.map fun l => (DataW.lit (.string l) : DataW Unit))[i]? := by rw [hxs]
 rw [List.getElem?_map, List.getElem?_map, hi, List.getElem?_eq_getElem (by omega), e2] at h2
 simp only [Option.map_some, Option.some.injEq, DataW.lit.injEq, Lit.string.injEq] at h2
 have h3 := World.var?_cell hg hvar i
 rw [h3]
 have h4 : cs[i]? = some (.string s) := by
  have := congrArg (·[0]?) e1
  simpa [List.getElem?_take, List.getElem?_drop] using this
 rw [h4]
 congr 2
 rw [← h2]
 exact (CG s).symm
theorem NV {P : Program} {W : World} {name nm : String} {d : DataW Unit} {rest : List (String × DataW Unit)} {g : Nat} {t : TypeId}
 (hg : P.globalNamed name = some g) (hty : (P.globals[g]?).map (·.type) = some t) (hi : ∃ ms, P.underlying t = some (.interface ms))
 (h : laidMet P ((name, .iface nm d) :: rest) W) : ∃ ev, W.cell? ⟨g, 0, none⟩ = some ev ∧ (ev = .nilIface ∨ ∃ te pe, ev = .iface te pe) := by
 obtain ⟨ms, hi⟩ := hi
 obtain ⟨ps, ⟨g', t', cs, fuel, p, q, hg', ht', hvar, hd, _, _⟩, _⟩ := h
 obtain rfl := Option.some.inj (hg.symm.trans hg')
 obtain rfl := Option.some.inj (hty.symm.trans ht')
 obtain ⟨f1, u, v, hcs, _⟩ := iface_of_trod hi hd
 refine ⟨.iface u v, ?_, .inr ⟨u, v, rfl⟩⟩
 have h3 := World.var?_cell hg hvar 0
 rw [h3]
 have := congrArg (·[0]?) hcs
 simpa using this
theorem Su {W : World} {rest : List (String × DataW Unit)} (h : laidMet Tryz.prog (("strconv.ErrRange", Rows.laid_strconv_ErrRange) :: ("strconv.ErrSyntax", Rows.laid_strconv_ErrSyntax) :: ("palaver/ident.signs", Rows.laid_palaver_ident_signs) :: rest) W) : Am W := by
 have gR : Tryz.prog.globalNamed "strconv.ErrRange" = some 5 := by kernel_rfl
 have gS : Tryz.prog.globalNamed "strconv.ErrSyntax" = some 4 := by kernel_rfl
 have gI : Tryz.prog.globalNamed "palaver/ident.signs" = some 2 := by kernel_rfl
 have tS : (Tryz.prog.globals[4]?).map (·.type) = some 186 := by kernel_rfl
 have tR : (Tryz.prog.globals[5]?).map (·.type) = some 186 := by kernel_rfl
 have uE : ∃ ms, Tryz.prog.underlying 186 = some (.interface ms) := ⟨_, underlying186⟩
 have tI : (Tryz.prog.globals[2]?).map (·.type) = some 193 := by kernel_rfl
 have a3 : Tryz.prog.underlying 193 = some (.array 3 9) := by kernel_rfl
 have a9 : Tryz.prog.underlying 9 = some .string := by kernel_rfl
 have c9 : Tryz.prog.cellsOf 9 = 1 := by kernel_rfl
 have hS : laidMet Tryz.prog (("palaver/ident.signs", .agg (([[], [64], [33]] : List (List UInt8)).map fun l => .lit (.string l))) :: rest) W := h.tail.tail
 refine ⟨G6 gI tI a3 a9 c9 hS 1 [64] rfl, G6 gI tI a3 a9 c9 hS 2 [33] rfl, ?_, ?_⟩
 ·exact NV gS tS uE h.tail
 ·exact NV gR tR uE h
end Laid
namespace LaidE
open Go Go.ChangeShapes Go.WideShapes Go.RowKit EventS EventP
section
variable {H : Type} {enc : TypeId × Value → H} {w : World} {base : Nat} {spare : Nat → Bool} {held : Bool} {fuel : Nat} {cs : List Value} {x : DataW H × List MemPlace}
theorem OZ {n : Nat} {y : Option (DataW H × List MemPlace)} (v : DataW H × List MemPlace) (h : DataW.trod enc Tryz.prog w base spare held n 9 ((cs.drop fuel).take (Tryz.prog.cellsOf 9)) = some v) :
 ∃ s : ByteArray, cs[fuel]? = some (.string s) ∧ v.1 = .lit (.string (bl s)) ∧ s.size ≤ maxLen := by
 have a9 : Tryz.prog.underlying 9 = some .string := by kernel_rfl
 have c9 : Tryz.prog.cellsOf 9 = 1 := by kernel_rfl
 rw [c9] at h
 obtain ⟨s, e1, e2, e3⟩ := DataW.trod_string a9 h
 refine ⟨s, ?_, by rw [e2]; rfl, e3⟩
 have := congrArg (·[0]?) e1
 simpa [List.getElem?_take, List.getElem?_drop] using this
theorem R9 {n : Nat} {t : TypeId} {k : IntKind} (v : DataW H × List MemPlace) (ht : Tryz.prog.underlying t = some (.int k)) (hc : Tryz.prog.cellsOf t = 1) (h : DataW.trod enc Tryz.prog w base spare held n t ((cs.drop fuel).take (Tryz.prog.cellsOf t)) = some v) :
 ∃ m : Int, cs[fuel]? = some (.int k m) ∧ v.1 = .lit (.int k m) := by
 rw [hc] at h
 obtain ⟨s, e1, e2, e3⟩ := DataW.trod_int ht h
 refine ⟨s, ?_, by rw [e2]⟩
 have := congrArg (·[0]?) e1
 simpa [List.getElem?_take, List.getElem?_drop] using this
end
end LaidE
namespace WireA
open Go Go.RowKit Go.Shelf OctetS IdentS EntS WireS OctP OctQ IdentP IdentR EventP EventC WireT
theorem E8 (w : World) (s : ByteArray) (hs : s.size ≤ maxLen) : Calls Tryz.prog 49 #[.string s] w fun e w' => e = .returned (.int .i64 (M3 4096 (bl s))) ∧ w = w' := by
 obtain ⟨n, u, y, hg⟩ : ∃ n u y, Ae (bl s) = (n, u, y) := ⟨_, _, _, rfl⟩
 have hG := Bu w s hs hg
 obtain ⟨z, hz⟩ := nXe (M3 4096 (bl s))
 rw [← hz]
 have hcase : ((y != 0) = true ∧ z = -1) ∨ (y = 0 ∧ u < s.size ∧ z = -1) ∨ (y = 0 ∧ u = s.size ∧ 4096 < n ∧ n ≤ BC ∧ z = -1) ∨ (y = 0 ∧ u = s.size ∧ n ≤ 4096 ∧ z = n) := by
  rw [hz]
  rcases Ei 4096 hg with ⟨h, h'⟩ | ⟨h, h1, h'⟩ | ⟨h, h1, h2, h3, h'⟩ | ⟨h, h1, h2, h3, h'⟩
  ·exact .inl ⟨by simpa using h, D7 h'⟩
  ·exact .inr (.inl ⟨h, by rw [← AP]; exact h1, D7 h'⟩)
  ·exact .inr (.inr (.inl ⟨h, by rw [← AP]; exact h1, h2, h3, D7 h'⟩))
  ·exact .inr (.inr (.inr ⟨h, by rw [← AP]; exact h1, h2, Cn h'⟩))
 have HG := lh hG
 clear hG hg hz
 unfold BC at hcase
 unfold maxLen at hs
 rcases hcase with ⟨hy, rfl⟩ | ⟨rfl, hy, rfl⟩ | ⟨rfl, rfl, hy, hn, rfl⟩ | ⟨rfl, rfl, hy, rfl⟩
 all_goals
  go_enter func49, ntmps49
  go_wp2_with fail
  refine HG.out.mono ?_
  rintro e w1 ⟨rfl, rfl⟩
  go_wp2
  go_ret
  exact ⟨rfl, rfl⟩
theorem Ez (w : World) (s : ByteArray) (hs : s.size ≤ maxLen) : Calls Tryz.prog 51 #[.string s] w fun e w' => e = .returned (.int .i64 (M3 4096 (bl s))) ∧ w = w' := by
 obtain ⟨n, u, y, hg⟩ : ∃ n u y, Ae (bl s) = (n, u, y) := ⟨_, _, _, rfl⟩
 have hG := Bu w s hs hg
 obtain ⟨z, hz⟩ := nXe (M3 4096 (bl s))
 rw [← hz]
 have hcase : ((y != 0) = true ∧ z = -1) ∨ (y = 0 ∧ u < s.size ∧ z = -1) ∨ (y = 0 ∧ u = s.size ∧ 4096 < n ∧ n ≤ BC ∧ z = -1) ∨ (y = 0 ∧ u = s.size ∧ n ≤ 4096 ∧ z = n) := by
  rw [hz]
  rcases Ei 4096 hg with ⟨h, h'⟩ | ⟨h, h1, h'⟩ | ⟨h, h1, h2, h3, h'⟩ | ⟨h, h1, h2, h3, h'⟩
  ·exact .inl ⟨by simpa using h, D7 h'⟩
  ·exact .inr (.inl ⟨h, by rw [← AP]; exact h1, D7 h'⟩)
  ·exact .inr (.inr (.inl ⟨h, by rw [← AP]; exact h1, h2, h3, D7 h'⟩))
  ·exact .inr (.inr (.inr ⟨h, by rw [← AP]; exact h1, h2, Cn h'⟩))
 have HG := lh hG
 clear hG hg hz
 unfold BC at hcase
 unfold maxLen at hs
 rcases hcase with ⟨hy, rfl⟩ | ⟨rfl, hy, rfl⟩ | ⟨rfl, rfl, hy, hn, rfl⟩ | ⟨rfl, rfl, hy, rfl⟩
 all_goals
  go_enter func51, ntmps51
  go_wp2_with fail
  refine HG.out.mono ?_
  rintro e w1 ⟨rfl, rfl⟩
  go_wp2
  go_ret
  exact ⟨rfl, rfl⟩
theorem RO (w : World) (n : Int) : Calls Tryz.prog 64 #[.int .i64 n] w fun e w' => e = .returned (.bool (Bj n)) ∧ w = w' := by
 by_cases h0 : 0 ≤ n
 ·go_enter func64, ntmps64
  go_wp2
  go_ret
  exact ⟨by simp [Bj, h0], rfl⟩
 ·have h1 : decide (0 ≤ n) = false := by simpa using h0
  go_enter func64, ntmps64
  go_wp2
  go_ret
  exact ⟨by simp [Bj, h1], rfl⟩
end WireA
namespace LaidW
open Go Go.ChangeShapes Go.WideShapes Go.RowKit
section
variable {H : Type} {enc : TypeId × Value → H} {w : World} {base : Nat} {spare : Nat → Bool} {held : Bool} {fuel : Nat} {cs : List Value} {x : DataW H × List MemPlace}
theorem YK {n : Int} (h : (Lit.int .u8 n).wf = true) : 0 ≤ n ∧ n ≤ 255 := by
 simp [Lit.wf, IntKind.min, IntKind.max, IntKind.signed, IntKind.bits] at h
 omega
theorem VJ (hf : Fits (List.replicate 32 (some (some .u8))) cs) : ∃ l : List UInt8, l.length = 32 ∧ cs = byV l := by
 obtain ⟨hl, hk⟩ := hf
 have hl' : cs.length = 32 := by rw [← hl]; simp
 refine ⟨cs.map (fun v => match v with | .int _ n => UInt8.ofNat n.toNat | _ => 0), by rw [List.length_map]; exact hl', ?_⟩
 unfold byV
 rw [List.map_map]
 apply List.ext_getElem?
 intro i
 rw [List.getElem?_map]
 by_cases hi : i < 32
 ·obtain ⟨v, hv, n, rfl, hw⟩ := hk i (some (some .u8)) (by rw [List.getElem?_replicate]; simp [hi])
  rw [hv]
  obtain ⟨h0, h1⟩ := YK hw
  simp only [Option.map_some, Function.comp]
  congr 2
  have : (UInt8.ofNat n.toNat).toNat = n.toNat % 256 := rfl
  rw [this]
  omega
 ·rw [List.getElem?_eq_none (by omega)]
  rfl
end
end LaidW
namespace LaidI
open Go Go.ChangeShapes Go.WideShapes Go.RowKit U32 ShaS ShaA IdentP EntP
theorem IQ {P : Program} {W : World} {name : String} {ls : List Int} {kd : IntKind} {rest : List (String × DataW Unit)} {g : Nat} {t e : TypeId} {n : Nat}
 (hg : P.globalNamed name = some g) (hty : (P.globals[g]?).map (·.type) = some t) (ht : P.underlying t = some (.array n e)) (he : P.underlying e = some (.int kd)) (hce : P.cellsOf e = 1)
 (h : laidMet P ((name, .agg (ls.map fun l => .lit (.int kd l))) :: rest) W) (i : Nat) (l : Int) (hi : ls[i]? = some l) : W.cell? ⟨g, i, none⟩ = some (.int kd l) := by
 obtain ⟨ps, ⟨g', t', cs, fuel, p, q, hg', ht', hvar, hd, _, _⟩, _⟩ := h
 obtain rfl := Option.some.inj (hg.symm.trans hg')
 obtain rfl := Option.some.inj (hty.symm.trans ht')
 obtain ⟨xs, m, rfl, hx, hlen, hn, hel⟩ := DataW.trod_array ht hd
 simp only [Prod.mk.injEq, DataW.agg.injEq] at hx
 have hxs := hx.1
 have hil : i < ls.length := (List.getElem?_eq_some_iff.1 hi).1
 have hin : i < n := by
  have := congrArg List.length hxs
  simp at this
  omega
 have h1 := hel i hin
 rw [hce, Nat.mul_one, List.getElem?_eq_getElem (by omega)] at h1
 obtain ⟨s, e1, e2, _⟩ := DataW.trod_int he h1
 have h2 : (xs.map (·.1))[i]? = (ls.map fun l => (DataW.lit (.int kd l) : DataW Unit))[i]? := by rw [hxs]
 rw [List.getElem?_map, List.getElem?_map, hi, List.getElem?_eq_getElem (by omega), e2] at h2
 simp only [Option.map_some, Option.some.injEq, DataW.lit.injEq, Lit.int.injEq, true_and] at h2
 have h3 := World.var?_cell hg hvar i
 rw [h3]
 have h4 : cs[i]? = some (.int kd s) := by
  have := congrArg (·[0]?) e1
  simpa [List.getElem?_take, List.getElem?_drop] using this
 rw [h4, h2]
theorem ZA {l : List UInt32} {i : Nat} (h : i < l.length) : (l.map u)[i]? = some (u (l.getD i 0)) := by
 rw [List.getElem?_map, List.getD_eq_getElem?_getD, List.getElem?_eq_getElem h]
 rfl
theorem Sv {W : World} {rest : List (String × DataW Unit)} (h : laidMet Tryz.prog (("palaver/sha.k", Rows.laid_palaver_sha_k) :: ("palaver/sha.begin", Rows.laid_palaver_sha_begin) :: rest) W) : Au W := by
 have gK : Tryz.prog.globalNamed "palaver/sha.k" = some 1 := by kernel_rfl
 have gB : Tryz.prog.globalNamed "palaver/sha.begin" = some 0 := by kernel_rfl
 have tK : (Tryz.prog.globals[1]?).map (·.type) = some 164 := by kernel_rfl
 have tB : (Tryz.prog.globals[0]?).map (·.type) = some 142 := by kernel_rfl
 have aK : Tryz.prog.underlying 164 = some (.array 64 140) := by kernel_rfl
 have aB : Tryz.prog.underlying 142 = some (.array 8 140) := by kernel_rfl
 have u4 : Tryz.prog.underlying 140 = some (.int .u32) := by kernel_rfl
 have c4 : Tryz.prog.cellsOf 140 = 1 := by kernel_rfl
 have eK : (Rows.laid_palaver_sha_k : DataW Unit) = .agg ((kL.map u).map fun l => .lit (.int .u32 l)) := by kernel_rfl
 have eB : (Rows.laid_palaver_sha_begin : DataW Unit) = .agg ((Bz.map u).map fun l => .lit (.int .u32 l)) := by kernel_rfl
 have hT := h.tail
 rw [eK] at h
 rw [eB] at hT
 exact ⟨fun t ht => IQ gK tK aK u4 c4 h t _ (ZA (show t < kL.length from ht)), fun i hi => IQ gB tB aB u4 c4 hT i _ (ZA (show i < Bz.length from hi))⟩
theorem varsE_of {W : World} {a b c : String × DataW Unit} {rest : List (String × DataW Unit)} (h : laidMet Tryz.prog (a :: b :: c :: ("palaver/sha.k", Rows.laid_palaver_sha_k) :: ("palaver/sha.begin", Rows.laid_palaver_sha_begin) :: ("strconv.ErrRange", Rows.laid_strconv_ErrRange) :: ("strconv.ErrSyntax", Rows.laid_strconv_ErrSyntax) :: ("palaver/ident.signs", Rows.laid_palaver_ident_signs) :: rest) W) : Am W ∧ Au W :=
 ⟨Laid.Su h.tail.tail.tail.tail.tail, Sv h.tail.tail.tail⟩
end LaidI
namespace LaidG
open Go Go.ChangeShapes Go.WideShapes Go.RowKit EntP WireT TreeA BookA
abbrev IU : List CK := [some (some .i64), some (some .i64), some (some .i64), some (some .i64)] ++ List.replicate 32 (some (some .u8))
theorem flatGrant : flat Tryz.prog 5 65 = some IU := by kernel_rfl
instance : Inhabited Gr' := ⟨⟨0, 0, 0, 0, CQ⟩⟩
theorem Y2 (cs : List Value) (h : Fits IU cs) : ∃ x : Gr', cs = x.cs ∧ True := by
 have hl : cs.length = 36 := h.1.symm.trans (by simp [IU])
 have hi : ∀ j, j < 4 → ∃ n : Int, cs[j]? = some (.int .i64 n) := fun j hj => by
  obtain ⟨v, hv, n, rfl, _⟩ := h.2 j (some (some .i64)) (by
   match j, hj with
   | 0, _ => rfl
   | 1, _ => rfl
   | 2, _ => rfl
   | 3, _ => rfl)
  exact ⟨n, hv⟩
 obtain ⟨a, ha⟩ := hi 0 (by omega)
 obtain ⟨b, hb⟩ := hi 1 (by omega)
 obtain ⟨c, hc⟩ := hi 2 (by omega)
 obtain ⟨d, hd⟩ := hi 3 (by omega)
 have hf : Fits (List.replicate 32 (some (some .u8))) (cs.drop 4) := ⟨by simp [hl], fun i k hk => by
  have hk2 : IU[4 + i]? = some k := by
   rw [List.getElem?_append_right (by simp), show 4 + i - ([some (some .i64), some (some .i64), some (some .i64), some (some .i64)] : List CK).length = i by simp]
   exact hk
  obtain ⟨v, hv, hok⟩ := h.2 (4 + i) k hk2
  exact ⟨v, by rw [List.getElem?_drop]; exact hv, hok⟩⟩
 obtain ⟨pv, hpv, hcp⟩ := LaidW.VJ hf
 refine ⟨⟨a, b, c, d, ⟨pv, hpv⟩⟩, ?_, trivial⟩
 unfold Gr'.cs
 apply List.ext_getElem?
 intro i
 rcases Nat.lt_or_ge i 4 with hi4 | hi4
 ·rw [List.getElem?_append_left (by simpa using hi4)]
  rcases i with _ | _ | _ | _ | i
  ·exact ha
  ·exact hb
  ·exact hc
  ·exact hd
  ·omega
 ·rw [List.getElem?_append_right (by simpa using hi4), show i - ([.int .i64 a, .int .i64 b, .int .i64 c, .int .i64 d] : List Value).length = i - 4 by simp]
  show cs[i]? = (byV pv)[i - 4]?
  rw [← hcp, List.getElem?_drop, show 4 + (i - 4) = i by omega]
end LaidG
namespace EntB
open OctetS IdentS ShaS EntS WireS
theorem IE {s : List UInt8} {e : Ent} (h : WireS.read s = some e) : Right e ∧ e.prev.length = 32 ∧ e.sig = [] ∧ text e = s := by
 unfold WireS.read at h
 split at h
 ·rename_i h0
  obtain ⟨l, y, ha⟩ : ∃ l y, all s = (l, y) := ⟨_, _, rfl⟩
  rw [ha] at h h0
  simp only at h h0
  subst h0
  obtain ⟨hfit, hlist⟩ := O9 ha
  match l, h with
  | [k, r, a, b, p, v], h =>
    simp only [Fa] at h
    split at h
    ·rename_i hk
     cases hx : small 4096 a with
     | none => rw [hx] at h; cases h
     | some x =>
       cases hy : small 4096 b with
       | none => rw [hx, hy] at h; cases h
       | some y =>
         rw [hx, hy] at h
         simp only [Option.bind_some] at h
         split at h
         ·rename_i hc
          cases h
          obtain ⟨hx1, hx2⟩ := EU hx
          obtain ⟨hy1, hy2⟩ := EU hy
          have hv := (Cq.1 hfit).2 v (by simp)
          refine ⟨⟨hc.2, ?_, ?_, ?_, ?_, hv, by simp⟩, hc.1, rfl, ?_⟩
          ·exact Int.natCast_nonneg _
          ·show (x : Int) ≤ 4096; omega
          ·exact Int.natCast_nonneg _
          ·show (y : Int) ≤ 4096; omega
          ·rw [← hlist, hk]
           unfold EntS.text
           simp only [EntS.parts, Int.toNat_natCast]
           rw [hx2, hy2]
         ·cases h
    ·cases h
  | [], h => simp [Fa] at h
  | [_], h => simp [Fa] at h
  | [_, _], h => simp [Fa] at h
  | [_, _, _], h => simp [Fa] at h
  | [_, _, _, _], h => simp [Fa] at h
  | [_, _, _, _, _], h => simp [Fa] at h
  | _ :: _ :: _ :: _ :: _ :: _ :: _ :: _, h => simp [Fa] at h
 ·cases h
end EntB
noncomputable section
namespace NSha
open ShaS
set_option maxRecDepth 100000
def kN : List Nat := [1116352408, 1899447441, 3049323471, 3921009573, 961987163, 1508970993, 2453635748, 2870763221, 3624381080, 310598401, 607225278, 1426881987, 1925078388, 2162078206, 2614888103, 3248222580, 3835390401, 4022224774, 264347078, 604807628, 770255983, 1249150122, 1555081692, 1996064986, 2554220882, 2821834349, 2952996808, 3210313671, 3336571891, 3584528711, 113926993, 338241895, 666307205, 773529912, 1294757372, 1396182291, 1695183700, 1986661051, 2177026350, 2456956037, 2730485921, 2820302411, 3259730800, 3345764771, 3516065817, 3600352804, 4094571909, 275423344, 430227734, 506948616, 659060556, 883997877, 958139571, 1322822218, 1537002063, 1747873779, 1955562222, 2024104815, 2227730452, 2361852424, 2428436474, 2756734187, 3204031479, 3329325298]
def S1 (y : Nat) : Nat := Nat.mod (Nat.xor (Nat.xor (Nat.shiftRight y 6) (Nat.shiftRight y 11)) (Nat.shiftRight y 25)) 4294967296
def S0 (y : Nat) : Nat := Nat.mod (Nat.xor (Nat.xor (Nat.shiftRight y 2) (Nat.shiftRight y 13)) (Nat.shiftRight y 22)) 4294967296
def s0 (x y : Nat) : Nat := Nat.xor (Nat.mod (Nat.xor (Nat.shiftRight y 7) (Nat.shiftRight y 18)) 4294967296) (Nat.shiftRight x 3)
def s1 (x y : Nat) : Nat := Nat.xor (Nat.mod (Nat.xor (Nat.shiftRight y 17) (Nat.shiftRight y 19)) 4294967296) (Nat.shiftRight x 10)
def Uc (x : Nat) : Nat := Nat.mul x 4294967297
def t1 (e f g h k w : Nat) : Nat := Nat.add (Nat.add (Nat.add (Nat.add h (S1 (Uc e))) (Nat.xor (Nat.land e f) (Nat.land (Nat.sub 4294967295 e) g))) k) w
def t2 (a b c : Nat) : Nat := Nat.add (S0 (Uc a)) (Nat.xor (Nat.xor (Nat.land a b) (Nat.land a c)) (Nat.land b c))
def NZ (x : Nat) : Nat := Nat.mod x 4294967296
def Z9 (w0 w1 w9 w14 : Nat) : Nat := NZ (Nat.add (Nat.add (Nat.add w0 (s0 w1 (Uc w1))) w9) (s1 w14 (Uc w14)))
def go (l : List Nat) : (a b c d e f g h w0 w1 w2 w3 w4 w5 w6 w7 w8 w9 w10 w11 w12 w13 w14 w15 : Nat) → List Nat :=
 List.rec (motive := fun _ => (a b c d e f g h w0 w1 w2 w3 w4 w5 w6 w7 w8 w9 w10 w11 w12 w13 w14 w15 : Nat) → List Nat) (fun a b c d e f g h _ _ _ _ _ _ _ _ _ _ _ _ _ _ _ _ => [a, b, c, d, e, f, g, h])
    (fun k _ r a b c d e f g h w0 w1 w2 w3 w4 w5 w6 w7 w8 w9 w10 w11 w12 w13 w14 w15 => r (NZ (Nat.add (t1 e f g h k w0) (t2 a b c))) a b c (NZ (Nat.add d (t1 e f g h k w0))) e f g w1 w2 w3 w4 w5 w6 w7 w8 w9 w10 w11 w12 w13 w14 w15 (Z9 w0 w1 w9 w14)) l
def comp (v w : List Nat) : List Nat := match v, w with
 | [a, b, c, d, e, f, g, h], [w0, w1, w2, w3, w4, w5, w6, w7, w8, w9, w10, w11, w12, w13, w14, w15] => match go kN a b c d e f g h w0 w1 w2 w3 w4 w5 w6 w7 w8 w9 w10 w11 w12 w13 w14 w15 with
   | [a', b', c', d', e', f', g', h'] => [NZ (Nat.add a a'), NZ (Nat.add b b'), NZ (Nat.add c c'), NZ (Nat.add d d'), NZ (Nat.add e e'), NZ (Nat.add f f'), NZ (Nat.add g g'), NZ (Nat.add h h')]
   | _ => []
 | _, _ => []
def w4 (a b c d : Nat) : Nat := Nat.add (Nat.add (Nat.add (Nat.mul a 16777216) (Nat.mul b 65536)) (Nat.mul c 256)) d
def YG : List Nat → List Nat
 | a :: b :: c :: d :: r => w4 a b c d :: YG r
 | _ => []
def force {α : Type} (l : List Nat) (r : α) : α := List.rec (motive := fun _ => α) r (fun x _ h => cond (Nat.beq x x) h h) l
def Fh : Nat → List Nat → List Nat → List Nat
 | 0, v, _ => v
 | f + 1, v, b => match b with
   | [] => v
   | _ => force v (Fh f (comp v (YG (b.take 64))) (b.drop 64))
def be (x : Nat) : List Nat := [Nat.div x 16777216, Nat.mod (Nat.div x 65536) 256, Nat.mod (Nat.div x 256) 256, Nat.mod x 256]
def fill (n : Nat) : List Nat := 0x80 :: (List.replicate ((119 - n % 64) % 64) 0 ++ (List.range 8).map fun i => (n * 8 / 2 ^ (56 - 8 * i)) % 256)
def Y8 : List Nat := [1779033703, 3144134277, 1013904242, 2773480762, 1359893119, 2600822924, 528734635, 1541459225]
def sum (s : List Nat) : List Nat := (Fh (s.length / 64 + 2) Y8 (s ++ fill s.length)).flatMap be
def mid (s : List Nat) : List Nat := (sum s).take 16
/-! ### One word -/
theorem F9 (a b : Nat) : Nat.mod (Nat.xor a b) 4294967296 = Nat.xor (Nat.mod a 4294967296) (Nat.mod b 4294967296) := by
 show (a ^^^ b) % 2 ^ 32 = (a % 2 ^ 32) ^^^ (b % 2 ^ 32)
 exact Nat.xor_mod_two_pow
theorem Ub (x : UInt32) (n : Nat) (h0 : 0 < n) (h : n < 32) : Nat.mod (Nat.shiftRight (Uc x.toNat) n) 4294967296 = (rotr x n).toNat := by
 have hx : x.toNat < 4294967296 := x.toNat_lt
 unfold rotr Uc
 rw [UInt32.toNat_or, UInt32.toNat_shiftRight, UInt32.toNat_shiftLeft]
 have e1 : (UInt32.ofNat n).toNat % 32 = n := by
  rw [UInt32.toNat_ofNat']; omega
 have e2 : (UInt32.ofNat (32 - n)).toNat % 32 = 32 - n := by
  rw [UInt32.toNat_ofNat']; omega
 rw [e1, e2, Nat.shiftRight_eq_div_pow, Nat.shiftLeft_eq]
 show (x.toNat * 4294967297) >>> n % 4294967296 = _
 rw [Nat.shiftRight_eq_div_pow]
 have hp : 2 ^ n * 2 ^ (32 - n) = 4294967296 := by rw [← Nat.pow_add, show n + (32 - n) = 32 by omega]
 have hn : 0 < 2 ^ n := Nat.two_pow_pos n
 have hm : 0 < 2 ^ (32 - n) := Nat.two_pow_pos _
 obtain ⟨q, r, hq, hr⟩ : ∃ q r, x.toNat = 2 ^ n * q + r ∧ r < 2 ^ n := ⟨x.toNat / 2 ^ n, x.toNat % 2 ^ n, (Nat.div_add_mod _ _).symm, Nat.mod_lt _ hn⟩
 have hqd : x.toNat / 2 ^ n = q := by rw [hq, Nat.mul_add_div hn, Nat.div_eq_of_lt hr, Nat.add_zero]
 have hql : q < 2 ^ (32 - n) := by
  refine Nat.lt_of_mul_lt_mul_left (a := 2 ^ n) ?_
  rw [hp]
  omega
 have e3 : x.toNat * 4294967297 / 2 ^ n = x.toNat * 2 ^ (32 - n) + q := by
  have : x.toNat * 4294967297 = 2 ^ n * (x.toNat * 2 ^ (32 - n)) + x.toNat := by
   rw [← Nat.mul_assoc, Nat.mul_comm (2 ^ n) x.toNat, Nat.mul_assoc, hp]
   omega
  rw [this, Nat.mul_add_div hn, hqd]
 have e4 : x.toNat * 2 ^ (32 - n) = 4294967296 * q + r * 2 ^ (32 - n) := by
  rw [hq, Nat.add_mul, ← hp, Nat.mul_assoc, Nat.mul_assoc, Nat.mul_comm q (2 ^ (32 - n))]
 have hrl : r * 2 ^ (32 - n) + 2 ^ (32 - n) ≤ 4294967296 := by
  rw [← hp, ← Nat.succ_mul]
  exact Nat.mul_le_mul_right _ hr
 have e5 : x.toNat * 2 ^ (32 - n) % 2 ^ 32 = 2 ^ (32 - n) * r := by
  rw [e4, show (2 : Nat) ^ 32 = 4294967296 from rfl, Nat.mul_add_mod, Nat.mod_eq_of_lt (by omega), Nat.mul_comm]
 rw [e3, e5, hqd, Nat.or_comm, ← Nat.two_pow_add_eq_or_of_lt hql]
 rw [e4, Nat.mul_comm (2 ^ (32 - n)) r, Nat.add_assoc, Nat.mul_add_mod, Nat.mod_eq_of_lt (by omega)]
theorem ZE (e : UInt32) : S1 (Uc e.toNat) = (rotr e 6 ^^^ rotr e 11 ^^^ rotr e 25).toNat := by
 unfold S1
 rw [F9, F9, Ub e 6 (by omega) (by omega), Ub e 11 (by omega) (by omega), Ub e 25 (by omega) (by omega), UInt32.toNat_xor, UInt32.toNat_xor]
 rfl
theorem ZF (e : UInt32) : S0 (Uc e.toNat) = (rotr e 2 ^^^ rotr e 13 ^^^ rotr e 22).toNat := by
 unfold S0
 rw [F9, F9, Ub e 2 (by omega) (by omega), Ub e 13 (by omega) (by omega), Ub e 22 (by omega) (by omega), UInt32.toNat_xor, UInt32.toNat_xor]
 rfl
theorem YO (x : UInt32) : s0 x.toNat (Uc x.toNat) = (rotr x 7 ^^^ rotr x 18 ^^^ x >>> 3).toNat := by
 unfold s0
 rw [F9, Ub x 7 (by omega) (by omega), Ub x 18 (by omega) (by omega), UInt32.toNat_xor, UInt32.toNat_xor, UInt32.toNat_shiftRight]
 rfl
theorem YN (x : UInt32) : s1 x.toNat (Uc x.toNat) = (rotr x 17 ^^^ rotr x 19 ^^^ x >>> 10).toNat := by
 unfold s1
 rw [F9, Ub x 17 (by omega) (by omega), Ub x 19 (by omega) (by omega), UInt32.toNat_xor, UInt32.toNat_xor, UInt32.toNat_shiftRight]
 rfl
theorem Y6 (e f g : UInt32) : Nat.xor (Nat.land e.toNat f.toNat) (Nat.land (Nat.sub 4294967295 e.toNat) g.toNat) = (e &&& f ^^^ ~~~e &&& g).toNat := by
 rw [UInt32.toNat_xor, UInt32.toNat_and, UInt32.toNat_and, UInt32.toNat_not]
 rfl
theorem XI (a b c : UInt32) : Nat.xor (Nat.xor (Nat.land a.toNat b.toNat) (Nat.land a.toNat c.toNat)) (Nat.land b.toNat c.toNat) = (a &&& b ^^^ a &&& c ^^^ b &&& c).toNat := by
 rw [UInt32.toNat_xor, UInt32.toNat_xor, UInt32.toNat_and, UInt32.toNat_and, UInt32.toNat_and]
 rfl
def T1 (e f g h k w : UInt32) : UInt32 := h + (rotr e 6 ^^^ rotr e 11 ^^^ rotr e 25) + (e &&& f ^^^ ~~~e &&& g) + k + w
def T2 (a b c : UInt32) : UInt32 := (rotr a 2 ^^^ rotr a 13 ^^^ rotr a 22) + (a &&& b ^^^ a &&& c ^^^ b &&& c)
def NX (w0 w1 w9 w14 : UInt32) : UInt32 := w0 + (rotr w1 7 ^^^ rotr w1 18 ^^^ w1 >>> 3) + w9 + (rotr w14 17 ^^^ rotr w14 19 ^^^ w14 >>> 10)
theorem Vx (e f g h k w : UInt32) : t1 e.toNat f.toNat g.toNat h.toNat k.toNat w.toNat % 4294967296 = (T1 e f g h k w).toNat := by
 unfold t1 T1
 rw [ZE, Y6]
 simp only [UInt32.toNat_add]
 show ((_ : Nat) + _ + _ + _ + _) % 4294967296 = _
 omega
theorem YL (a b c : UInt32) : t2 a.toNat b.toNat c.toNat % 4294967296 = (T2 a b c).toNat := by
 unfold t2 T2
 rw [ZF, XI]
 simp only [UInt32.toNat_add]
 rfl
theorem aj (a b c e f g h k w : UInt32) : NZ (Nat.add (t1 e.toNat f.toNat g.toNat h.toNat k.toNat w.toNat) (t2 a.toNat b.toNat c.toNat)) = (T1 e f g h k w + T2 a b c).toNat := by
 rw [UInt32.toNat_add, ← Vx, ← YL]
 show ((_ : Nat) + _) % 4294967296 = _
 omega
theorem aa (d e f g h k w : UInt32) : NZ (Nat.add d.toNat (t1 e.toNat f.toNat g.toNat h.toNat k.toNat w.toNat)) = (d + T1 e f g h k w).toNat := by
 rw [UInt32.toNat_add, ← Vx]
 show ((_ : Nat) + _) % 4294967296 = _
 omega
theorem XG (w0 w1 w9 w14 : UInt32) : Z9 w0.toNat w1.toNat w9.toNat w14.toNat = (NX w0 w1 w9 w14).toNat := by
 unfold Z9 NX
 rw [YO, YN]
 simp only [UInt32.toNat_add]
 show ((_ : Nat) + _ + _ + _) % 4294967296 = _
 omega
/-! ### A block -/
def WJ : List UInt32 → List UInt32 → List UInt32 → List UInt32
 | [], x, _ => x
 | k :: ks, x, w => WJ ks (Q4 x k (w.getD 0 0)) (w.drop 1 ++ [NX (w.getD 0 0) (w.getD 1 0) (w.getD 9 0) (w.getD 14 0)])
def lN (l : List UInt32) : List Nat := l.map UInt32.toNat
theorem VM (ks : List Nat) (k a b c d e f g h w0 w1 w2 w3 w4 w5 w6 w7 w8 w9 w10 w11 w12 w13 w14 w15 : Nat) : go (k :: ks) a b c d e f g h w0 w1 w2 w3 w4 w5 w6 w7 w8 w9 w10 w11 w12 w13 w14 w15 = go ks (NZ (Nat.add (t1 e f g h k w0) (t2 a b c))) a b c (NZ (Nat.add d (t1 e f g h k w0))) e f g w1 w2 w3 w4 w5 w6 w7 w8 w9 w10 w11 w12 w13 w14 w15 (Z9 w0 w1 w9 w14) := by
 unfold go
 dsimp only
theorem Tz (ks : List UInt32) (k a b c d e f g h w0 w1 w2 w3 w4 w5 w6 w7 w8 w9 w10 w11 w12 w13 w14 w15 : UInt32) : WJ (k :: ks) [a, b, c, d, e, f, g, h] [w0, w1, w2, w3, w4, w5, w6, w7, w8, w9, w10, w11, w12, w13, w14, w15] = WJ ks [T1 e f g h k w0 + T2 a b c, a, b, c, d + T1 e f g h k w0, e, f, g] [w1, w2, w3, w4, w5, w6, w7, w8, w9, w10, w11, w12, w13, w14, w15, NX w0 w1 w9 w14] := by
 rw [WJ]
 rfl
theorem WI : ∀ (ks : List UInt32) (a b c d e f g h w0 w1 w2 w3 w4 w5 w6 w7 w8 w9 w10 w11 w12 w13 w14 w15 : UInt32), go (lN ks) a.toNat b.toNat c.toNat d.toNat e.toNat f.toNat g.toNat h.toNat w0.toNat w1.toNat w2.toNat w3.toNat w4.toNat w5.toNat w6.toNat w7.toNat w8.toNat w9.toNat w10.toNat w11.toNat w12.toNat w13.toNat w14.toNat w15.toNat = lN (WJ ks [a, b, c, d, e, f, g, h] [w0, w1, w2, w3, w4, w5, w6, w7, w8, w9, w10, w11, w12, w13, w14, w15])
 | [], a, b, c, d, e, f, g, h, w0, w1, w2, w3, w4, w5, w6, w7, w8, w9, w10, w11, w12, w13, w14, w15 => rfl
 | k :: ks, a, b, c, d, e, f, g, h, w0, w1, w2, w3, w4, w5, w6, w7, w8, w9, w10, w11, w12, w13, w14, w15 => by
   rw [lN, List.map_cons, VM, Tz, aj, aa, XG]
   exact WI ks _ a b c _ e f g w1 w2 w3 w4 w5 w6 w7 w8 w9 w10 w11 w12 w13 w14 w15 _
def wd (b : List UInt8) (t : Nat) : UInt32 := (wN b 80).getD t 0
theorem Nf {b : List UInt8} {t n : Nat} (h : t < n) (hn : n ≤ 80) : (wN b n).getD t 0 = wd b t := by
 unfold wd
 have h1 := Qx b n (80 - n)
 rw [show n + (80 - n) = 80 by omega] at h1
 rw [← h1, List.getD_eq_getElem?_getD, List.getD_eq_getElem?_getD, List.getElem?_take, if_pos h]
theorem Qy (b : List UInt8) (t : Nat) (x : UInt32) : (wN b t ++ [x]).getD t 0 = x := by
 rw [List.getD_eq_getElem?_getD, List.getElem?_append_right (by rw [BS]; omega), BS, Nat.sub_self]
 rfl
theorem Ue (b : List UInt8) (t : Nat) (h : t + 16 < 80) : wd b (t + 16) = NX (wd b t) (wd b (t + 1)) (wd b (t + 9)) (wd b (t + 14)) := by
 rw [← Nf (n := t + 17) (by omega) (by omega)]
 rw [show t + 17 = (t + 16) + 1 from rfl, wN, Qy, if_neg (by omega)]
 unfold nextW NX
 rw [show t + 16 - 15 = t + 1 by omega, show t + 16 - 2 = t + 14 by omega, show t + 16 - 16 = t by omega, show t + 16 - 7 = t + 9 by omega]
 rw [Nf (by omega) (by omega), Nf (by omega) (by omega), Nf (by omega) (by omega), Nf (by omega) (by omega)]
theorem Sj (b : List UInt8) (t : Nat) (h : t < 16) : wd b t = Gy (b.getD (4 * t) 0) (b.getD (4 * t + 1) 0) (b.getD (4 * t + 2) 0) (b.getD (4 * t + 3) 0) := by
 rw [← Nf (n := t + 1) (by omega) (by omega), wN, Qy, if_pos h]
def win (b : List UInt8) (t : Nat) : List UInt32 := (List.range 16).map fun i => wd b (t + i)
theorem Gz (b : List UInt8) (t i : Nat) (h : i < 16) : (win b t).getD i 0 = wd b (t + i) := by
 unfold win
 rw [List.getD_eq_getElem?_getD, List.getElem?_map, List.getElem?_range h, Option.map_some, Option.getD_some]
theorem YX {α : Type} (f : Nat → α) : (List.range 16).map f = [f 0, f 1, f 2, f 3, f 4, f 5, f 6, f 7, f 8, f 9, f 10, f 11, f 12, f 13, f 14, f 15] := rfl
theorem Sg (b : List UInt8) (t : Nat) : win b t = [wd b (t + 0), wd b (t + 1), wd b (t + 2), wd b (t + 3), wd b (t + 4), wd b (t + 5), wd b (t + 6), wd b (t + 7), wd b (t + 8), wd b (t + 9), wd b (t + 10), wd b (t + 11), wd b (t + 12), wd b (t + 13), wd b (t + 14), wd b (t + 15)] := YX _
theorem Sc (b : List UInt8) (t : Nat) (h : t + 16 < 80) : (win b t).drop 1 ++ [NX ((win b t).getD 0 0) ((win b t).getD 1 0) ((win b t).getD 9 0) ((win b t).getD 14 0)] = win b (t + 1) := by
 have hx := Ue b t h
 rw [Gz b t 0 (by omega), Gz b t 1 (by omega), Gz b t 9 (by omega), Gz b t 14 (by omega)]
 have e0 : t + 0 = t := rfl
 rw [e0, ← hx, Sg, Sg]
 have e : ∀ i, t + 1 + i = t + (i + 1) := fun i => by omega
 simp only [e, List.drop_succ_cons, List.drop_zero, List.cons_append, List.nil_append]
theorem P8 (b : List UInt8) (v : List UInt32) : ∀ n t, n + t = 64 → WJ (kL.drop t) (Cv v (words b) t) (win b t) = Cv v (words b) 64
 | 0, t, h => by
   obtain rfl : t = 64 := by omega
   rfl
 | n + 1, t, h => by
   have hk : kL.drop t = kL.getD t 0 :: kL.drop (t + 1) := by
     have hl : t < kL.length := by rw [show kL.length = 64 from rfl]; omega
     rw [List.drop_eq_getElem_cons hl, List.getD_eq_getElem?_getD, List.getElem?_eq_getElem hl]
     rfl
   have h0 := Gz b t 0 (by omega)
   have e0 : t + 0 = t := rfl
   rw [e0] at h0
   rw [hk, WJ, Sc b t (by omega), h0]
   have : Q4 (Cv v (words b) t) (kL.getD t 0) (wd b t) = Cv v (words b) (t + 1) := by
     rw [Cv]
     unfold words
     rw [Nf (by omega) (by omega)]
   rw [this]
   exact P8 b v n (t + 1) (by omega)
theorem Yb : kN = lN kL := by decide +kernel
theorem VZ : Y8 = lN Bz := by decide +kernel
def bN (l : List UInt8) : List Nat := l.map UInt8.toNat
theorem YI (a b c d : UInt8) : w4 a.toNat b.toNat c.toNat d.toNat = (Gy a b c d).toNat := by
 have := a.toNat_lt; have := b.toNat_lt; have := c.toNat_lt; have := d.toNat_lt
 unfold Gy
 rw [UInt32.toNat_ofNat']
 show a.toNat * 16777216 + b.toNat * 65536 + c.toNat * 256 + d.toNat = _
 omega
theorem Si : ∀ (n : Nat) (b : List UInt8), b.length = 4 * n → YG (bN b) = (List.range n).map fun t => (Gy (b.getD (4 * t) 0) (b.getD (4 * t + 1) 0) (b.getD (4 * t + 2) 0) (b.getD (4 * t + 3) 0)).toNat
 | 0, b, h => by
   match b, h with
   | [], _ => rfl
 | n + 1, b, h => by
   match b, h with
   | p :: q :: r :: s :: l, h =>
     have hl : l.length = 4 * n := by simp at h; omega
     rw [List.range_succ_eq_map, List.map_cons, List.map_map]
     show w4 p.toNat q.toNat r.toNat s.toNat :: YG (bN l) = _
     rw [YI, Si n l hl]
     congr 1
   | [], h => simp at h
   | [_], h => simp at h; omega
   | [_, _], h => simp at h; omega
   | [_, _, _], h => simp at h; omega
theorem VV (a b c d e f g h w0 w1 w2 w3 w4 w5 w6 w7 w8 w9 w10 w11 w12 w13 w14 w15 a' b' c' d' e' f' g' h' : Nat) (hgo : go kN a b c d e f g h w0 w1 w2 w3 w4 w5 w6 w7 w8 w9 w10 w11 w12 w13 w14 w15 = [a', b', c', d', e', f', g', h']) : NSha.comp [a, b, c, d, e, f, g, h] [w0, w1, w2, w3, w4, w5, w6, w7, w8, w9, w10, w11, w12, w13, w14, w15] = [NZ (Nat.add a a'), NZ (Nat.add b b'), NZ (Nat.add c c'), NZ (Nat.add d d'), NZ (Nat.add e e'), NZ (Nat.add f f'), NZ (Nat.add g g'), NZ (Nat.add h h')] := by
 unfold NSha.comp
 simp only
 rw [hgo]
theorem Xv (a b : UInt32) : NZ (Nat.add a.toNat b.toNat) = (a + b).toNat := by rw [UInt32.toNat_add]; rfl
theorem VW {v : List UInt32} (hv : v.length = 8) {b : List UInt8} (hb : b.length = 64) : NSha.comp (lN v) (YG (bN b)) = lN (addB v b) := by
 have hw : YG (bN b) = lN (win b 0) := by
  rw [Si 16 b (by omega)]
  unfold win lN
  rw [List.map_map]
  refine List.map_congr_left fun t ht => ?_
  have ht' : t < 16 := by simpa using ht
  simp only [Function.comp, Nat.zero_add]
  rw [Sj b t ht']
 have hg := P8 b v 64 0 (by omega)
 obtain ⟨L, hL⟩ := nXe (win b 0)
 rw [hw]
 rw [← hL] at hg ⊢
 have hl : L.length = 16 := by rw [hL]; rfl
 clear hw hL
 have hz := Br hv (words b) 64
 unfold addB ShaS.comp
 obtain ⟨R, hR⟩ := nXe (Cv v (words b) 64)
 rw [← hR] at hg hz ⊢
 clear hR
 match v, hv, L, hl, R, hz with
 | [a, b, c, d, e, f, g, h], _, [w0, w1, w2, w3, w4, w5, w6, w7, w8, w9, w10, w11, w12, w13, w14, w15], _, [a', b', c', d', e', f', g', h'], _ =>
   have hgo := WI kL a b c d e f g h w0 w1 w2 w3 w4 w5 w6 w7 w8 w9 w10 w11 w12 w13 w14 w15
   rw [show WJ kL [a, b, c, d, e, f, g, h] [w0, w1, w2, w3, w4, w5, w6, w7, w8, w9, w10, w11, w12, w13, w14, w15] = [a', b', c', d', e', f', g', h'] from hg, ← Yb] at hgo
   simp only [lN, List.map_cons, List.map_nil] at hgo ⊢
   rw [VV _ _ _ _ _ _ _ _ _ _ _ _ _ _ _ _ _ _ _ _ _ _ _ _ _ _ _ _ _ _ _ _ hgo]
   simp only [Xv]
   rfl
/-! ### A text -/
theorem force_eq {α : Type} (r : α) : ∀ l, force l r = r
 | [] => rfl
 | x :: l => by
   show cond (Nat.beq x x) (force l r) (force l r) = r
   rw [force_eq r l]
   cases Nat.beq x x <;> rfl
theorem RX (l : List UInt8) (n : Nat) : (bN l).take n = bN (l.take n) := by unfold bN; rw [List.map_take]
theorem Va (l : List UInt8) (n : Nat) : (bN l).drop n = bN (l.drop n) := by unfold bN; rw [List.map_drop]
theorem PM : ∀ (m f : Nat) (v : List UInt32) (b : List UInt8), v.length = 8 → b.length = 64 * m → m ≤ f → NSha.Fh f (lN v) (bN b) = lN (Ol v b)
 | 0, f, v, b, hv, hb, hf => by
   match b, hb with
   | [], _ =>
     rw [Q0 (by simp)]
     cases f <;> rfl
 | m + 1, 0, v, b, hv, hb, hf => by omega
 | m + 1, f + 1, v, b, hv, hb, hf => by
   rw [Q3 (by omega)]
   have hc := VW hv (b := b.take 64) (by rw [List.length_take]; omega)
   have hr := PM m f (addB v (b.take 64)) (b.drop 64) (F7 hv _) (by rw [List.length_drop]; omega) (by omega)
   obtain ⟨x, r, hx⟩ : ∃ x r, bN b = x :: r := by
     cases b with
     | nil => rw [List.length_nil] at hb; omega
     | cons x r => exact ⟨_, _, rfl⟩
   unfold NSha.Fh
   rw [hx]
   simp only
   rw [← hx, force_eq, RX, Va, hc, hr]
theorem Y9 (x : UInt32) : NSha.be x.toNat = bN (ShaS.be x) := by
 have := x.toNat_lt
 unfold NSha.be ShaS.be bN
 simp only [List.map_cons, List.map_nil, UInt8.toNat_ofNat']
 show [x.toNat / 16777216, x.toNat / 65536 % 256, x.toNat / 256 % 256, x.toNat % 256] = _
 congr 1
 omega
theorem RS : ∀ l : List UInt32, (lN l).flatMap NSha.be = bN (l.flatMap ShaS.be)
 | [] => rfl
 | x :: l => by
   have h := RS l
   simp only [lN, List.map_cons, List.flatMap_cons, bN, List.map_append] at h ⊢
   rw [h]
   congr 1
   exact Y9 x
theorem fill_eq (n : Nat) : NSha.fill n = bN (ShaS.fill n) := by
 unfold NSha.fill ShaS.fill bN
 simp only [List.map_cons, List.map_append, List.map_replicate, List.map_map]
 congr 2
theorem Fg (s : List UInt8) : NSha.sum (bN s) = bN (ShaS.sum s) := by
 unfold NSha.sum ShaS.sum
 have h : bN s ++ NSha.fill (bN s).length = bN (pad s) := by
  rw [fill_eq]
  unfold pad bN
  rw [List.map_append, List.length_map]
 have hp := Gh s
 have hf := Ej s.length
 have hl : (pad s).length = s.length + (ShaS.fill s.length).length := by unfold pad; rw [List.length_append]
 rw [h, VZ, PM ((pad s).length / 64) _ _ _ (by rfl) (by omega) (by rw [show (bN s).length = s.length from by unfold bN; rw [List.length_map]]; omega), RS]
theorem Qc (s : List UInt8) : NSha.mid (bN s) = bN (ShaS.mid s) := by
 unfold NSha.mid ShaS.mid
 rw [Fg, RX]
end NSha
end
noncomputable section
namespace KeyN
open ShaS KeyS NSha
set_option maxRecDepth 100000
def YU : Nat → List Nat → List Nat
 | 0, x => x
 | n + 1, x => YU n (NSha.mid (2 :: x))
def Oo (seed : List Nat) (j : Nat) : List Nat := NSha.mid (3 :: j % 256 :: seed)
def QP (seed : List Nat) (m : Nat → Nat) : List Nat := NSha.sum (4 :: (List.range 68).flatMap fun j => YU (m j) (Oo seed j))
def steps (seed : List UInt8) (m : Nat → Nat) : List UInt8 := sum (4 :: (List.range 68).flatMap fun j => on (m j) (KeyS.start seed j))
theorem FT (x : UInt8) (l : List UInt8) : bN (x :: l) = x.toNat :: bN l := rfl
theorem Oc (a b : List UInt8) : bN (a ++ b) = bN a ++ bN b := List.map_append
theorem WE : ∀ (n : Nat) (x : List UInt8), bN (on n x) = YU n (bN x)
 | 0, x => rfl
 | n + 1, x => by
   rw [on, YU, WE n]
   have h := Qc (2 :: x)
   rw [FT] at h
   rw [← h]
   rfl
theorem start_eq (seed : List UInt8) (j : Nat) : bN (KeyS.start seed j) = Oo (bN seed) j := by
 unfold KeyS.start Oo
 rw [← Qc, FT, FT, UInt8.toNat_ofNat']
 rfl
theorem RU (f : Nat → List UInt8) (g : Nat → List Nat) (h : ∀ j, bN (f j) = g j) : ∀ l : List Nat, bN (l.flatMap f) = l.flatMap g
 | [] => rfl
 | x :: r => by rw [List.flatMap_cons, List.flatMap_cons, Oc, h, RU f g h r]
theorem S9 (seed : List UInt8) (m : Nat → Nat) : bN (steps seed m) = QP (bN seed) m := by
 unfold steps QP
 rw [← Fg, FT, RU _ (fun j => YU (m j) (Oo (bN seed) j)) (fun j => by rw [WE, start_eq])]
 rfl
theorem OQ (seed : List UInt8) : QX seed = steps seed (fun _ => 3) := rfl
theorem UR (l r : List UInt8) : bN (above l r) = NSha.sum (1 :: (bN l ++ bN r)) := by
 unfold above
 rw [← Fg, FT, Oc]
 rfl
theorem Pd (seed : List UInt8) (i : Nat) : bN (Az seed i) = NSha.mid (5 :: i % 256 :: bN seed) := by
 unfold Az
 rw [← Qc, FT, FT, UInt8.toNat_ofNat']
 rfl
theorem PO {seed : List UInt8} {m : Nat → Nat} {s l : List Nat} (hs : bN seed = s) (h : (QP s m == l) = true) : bN (steps seed m) = l := by
 rw [S9, hs]
 exact eq_of_beq h
/-! ### The key that the statements' own checks use: seed "s", height one -/
def p0 : List Nat := [102, 156, 13, 65, 161, 239, 112, 28, 109, 250, 112, 69, 244, 65, 172, 77]
def p1 : List Nat := [152, 117, 106, 139, 83, 164, 80, 143, 201, 124, 249, 93, 236, 98, 30, 89]
theorem p0_eq : bN (Az [115] 0) = p0 := by
 rw [Pd]
 exact eq_of_beq (by decide +kernel)
theorem p1_eq : bN (Az [115] 1) = p1 := by
 rw [Pd]
 exact eq_of_beq (by decide +kernel)
theorem YZ : bN (QX (Az [115] 0)) = [133, 132, 226, 9, 67, 101, 124, 7, 112, 140, 113, 84, 118, 64, 209, 109, 80, 56, 159, 43, 199, 54, 251, 52, 131, 108, 173, 108, 134, 93, 87, 198] := by
 rw [OQ]
 exact PO p0_eq (by decide +kernel)
theorem YY : bN (QX (Az [115] 1)) = [116, 114, 126, 235, 204, 156, 53, 229, 79, 85, 47, 115, 7, 142, 228, 51, 173, 35, 236, 27, 117, 190, 31, 217, 22, 236, 238, 183, 255, 165, 187, 204] := by
 rw [OQ]
 exact PO p1_eq (by decide +kernel)
theorem U4 {α : Type} (f : Nat → α) : (List.range (2 ^ 1)).map f = [f 0, f 1] := rfl
theorem Rn (a b : List UInt8) : root 1 [a, b] = above a b := rfl
theorem TM (seed : List UInt8) : rootOf seed 1 = above (QX (Az seed 0)) (QX (Az seed 1)) := by
 unfold rootOf Db
 rw [U4, Rn]
theorem TN : bN (rootOf [115] 1) = [1, 182, 6, 211, 135, 147, 53, 5, 245, 241, 205, 252, 197, 223, 231, 32, 130, 117, 182, 46, 173, 16, 191, 101, 209, 159, 7, 102, 245, 140, 192, 251] := by
 rw [TM, UR, YZ, YY]
 exact eq_of_beq (by decide +kernel)
end KeyN
end
end Go.Proofs.YtceiajepcokacaaGreatDoor
