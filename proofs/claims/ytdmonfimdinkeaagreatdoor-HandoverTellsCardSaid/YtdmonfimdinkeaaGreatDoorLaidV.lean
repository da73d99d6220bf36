/-
  WHAT IS PROVED: what the listed variables are in a world that meets a statement's condition. Condition: what each theorem names.
-/
import Derived.Test.YtdmonfimdinkeaaGreatDoorIdent
import Derived.Carry
import Derived.Deep.Slices
import Derived.LaidHandle
import Derived.LaidLaws
import Derived.LaidMore
import Derived.LaidSub
import Derived.MakeChecks
import Derived.OpenShut
import Derived.Stop.LaidErr
namespace Go.Proofs.YtdmonfimdinkeaaGreatDoor.Laid
open Go Go.RowKit Go.Proofs.YtdmonfimdinkeaaGreatDoor Go.Proofs.YtdmonfimdinkeaaGreatDoor.IdentP
set_option linter.unusedVariables false
set_option linter.unusedSimpArgs false

/-- An array of strings that stands first on the list. -/
theorem strs_of_head {P : Program} {W : World} {name : String} {ls : List (List UInt8)} {rest : List (String × DataW Unit)} {g : Nat} {t e : TypeId} {n : Nat}
    (hg : P.globalNamed name = some g) (hty : (P.globals[g]?).map (·.type) = some t) (ht : P.underlying t = some (.array n e)) (he : P.underlying e = some .string) (hce : P.cellsOf e = 1)
    (h : laidMet P ((name, .agg (ls.map fun l => .lit (.string l))) :: rest) W) (i : Nat) (l : List UInt8) (hi : ls[i]? = some l) : W.cell? ⟨g, i, none⟩ = some (.string (bsOf l)) := by
  obtain ⟨ps, ⟨g', t', cs, fuel, p, q, hg', ht', hvar, hd, _, _⟩, _⟩ := h
  obtain rfl := Option.some.inj (hg.symm.trans hg')
  obtain rfl := Option.some.inj (hty.symm.trans ht')
  obtain ⟨xs, m, rfl, hx, hlen, hn, hel⟩ := DataW.trod_array ht hd
  simp only [Prod.mk.injEq, DataW.agg.injEq] at hx
  have hxs := hx.1
  have hil : i < ls.length := (List.getElem?_eq_some_iff.1 hi).1
  have hin : i < n := by
    have := congrArg List.length hxs
    simp at this
    omega
  have h1 := hel i hin
  rw [hce, Nat.mul_one, List.getElem?_eq_getElem (by omega)] at h1
  obtain ⟨s, e1, e2, _⟩ := DataW.trod_string he h1
  have h2 : (xs.map (·.1))[i]? = (ls.map fun l => (DataW.lit (.string l) : DataW Unit))[i]? := by rw [hxs]
  rw [List.getElem?_map, List.getElem?_map, hi, List.getElem?_eq_getElem (by omega), e2] at h2
  simp only [Option.map_some, Option.some.injEq, DataW.lit.injEq, Lit.string.injEq] at h2
  have h3 := World.var?_cell hg hvar i
  rw [h3]
  have h4 : cs[i]? = some (.string s) := by
    have := congrArg (·[0]?) e1
    simpa [List.getElem?_take, List.getElem?_drop] using this
  rw [h4]
  congr 2
  rw [← h2]
  exact (bsOf_bl s).symm

/-- An error that stands first on the list. -/
theorem err_of_head {P : Program} {W : World} {name nm : String} {d : DataW Unit} {rest : List (String × DataW Unit)} {g : Nat} {t : TypeId}
    (hg : P.globalNamed name = some g) (hty : (P.globals[g]?).map (·.type) = some t) (hi : ∃ ms, P.underlying t = some (.interface ms))
    (h : laidMet P ((name, .iface nm d) :: rest) W) : ∃ ev, W.cell? ⟨g, 0, none⟩ = some ev ∧ (ev = .nilIface ∨ ∃ te pe, ev = .iface te pe) := by
  obtain ⟨ms, hi⟩ := hi
  obtain ⟨ps, ⟨g', t', cs, fuel, p, q, hg', ht', hvar, hd, _, _⟩, _⟩ := h
  obtain rfl := Option.some.inj (hg.symm.trans hg')
  obtain rfl := Option.some.inj (hty.symm.trans ht')
  obtain ⟨f1, u, v, hcs, _⟩ := iface_of_trod hi hd
  refine ⟨.iface u v, ?_, .inr ⟨u, v, rfl⟩⟩
  have h3 := World.var?_cell hg hvar 0
  rw [h3]
  have := congrArg (·[0]?) hcs
  simpa using this

theorem varsI_of {W : World} {rest : List (String × DataW Unit)} (h : laidMet Tryz.prog (("strconv.ErrRange", Rows.laid_strconv_ErrRange) :: ("strconv.ErrSyntax", Rows.laid_strconv_ErrSyntax) :: ("palaver/ident.signs", Rows.laid_palaver_ident_signs) :: rest) W) : VarsI W := by
  have gR : Tryz.prog.globalNamed "strconv.ErrRange" = some 6 := by kernel_rfl
  have gS : Tryz.prog.globalNamed "strconv.ErrSyntax" = some 5 := by kernel_rfl
  have gI : Tryz.prog.globalNamed "palaver/ident.signs" = some 3 := by kernel_rfl
  have tS : (Tryz.prog.globals[5]?).map (·.type) = some 164 := by kernel_rfl
  have tR : (Tryz.prog.globals[6]?).map (·.type) = some 164 := by kernel_rfl
  have uE : ∃ ms, Tryz.prog.underlying 164 = some (.interface ms) := ⟨_, Tryz.underlying164⟩
  have tI : (Tryz.prog.globals[3]?).map (·.type) = some 76 := by kernel_rfl
  have a3 : Tryz.prog.underlying 76 = some (.array 3 9) := by kernel_rfl
  have a9 : Tryz.prog.underlying 9 = some .string := by kernel_rfl
  have c9 : Tryz.prog.cellsOf 9 = 1 := by kernel_rfl
  have hS : laidMet Tryz.prog (("palaver/ident.signs", .agg (([[], [64], [33]] : List (List UInt8)).map fun l => .lit (.string l))) :: rest) W := h.tail.tail
  refine ⟨strs_of_head gI tI a3 a9 c9 hS 1 [64] rfl, strs_of_head gI tI a3 a9 c9 hS 2 [33] rfl, ?_, ?_⟩
  · exact err_of_head gS tS uE h.tail
  · exact err_of_head gR tR uE h
end Go.Proofs.YtdmonfimdinkeaaGreatDoor.Laid

namespace Go.Proofs.YtdmonfimdinkeaaGreatDoor.LaidE
open Go Go.ChangeShapes Go.WideShapes Go.RowKit Go.Proofs.YtdmonfimdinkeaaGreatDoor Go.Proofs.YtdmonfimdinkeaaGreatDoor.EventS
set_option linter.unusedVariables false
set_option linter.unusedSimpArgs false

section
variable {H : Type} {enc : TypeId × Value → H} {w : World} {base : Nat} {spare : Nat → Bool} {held : Bool} {fuel : Nat} {cs : List Value} {x : DataW H × List MemPlace}
theorem field_str {n : Nat} {y : Option (DataW H × List MemPlace)} (v : DataW H × List MemPlace) (h : DataW.trod enc Tryz.prog w base spare held n 9 ((cs.drop fuel).take (Tryz.prog.cellsOf 9)) = some v) :
    ∃ s : ByteArray, cs[fuel]? = some (.string s) ∧ v.1 = .lit (.string (bl s)) ∧ s.size ≤ maxLen := by
  have a9 : Tryz.prog.underlying 9 = some .string := by kernel_rfl
  have c9 : Tryz.prog.cellsOf 9 = 1 := by kernel_rfl
  rw [c9] at h
  obtain ⟨s, e1, e2, e3⟩ := DataW.trod_string a9 h
  refine ⟨s, ?_, by rw [e2]; rfl, e3⟩
  have := congrArg (·[0]?) e1
  simpa [List.getElem?_take, List.getElem?_drop] using this
theorem field_int {n : Nat} {t : TypeId} {k : IntKind} (v : DataW H × List MemPlace) (ht : Tryz.prog.underlying t = some (.int k)) (hc : Tryz.prog.cellsOf t = 1) (h : DataW.trod enc Tryz.prog w base spare held n t ((cs.drop fuel).take (Tryz.prog.cellsOf t)) = some v) :
    ∃ m : Int, cs[fuel]? = some (.int k m) ∧ v.1 = .lit (.int k m) := by
  rw [hc] at h
  obtain ⟨s, e1, e2, e3⟩ := DataW.trod_int ht h
  refine ⟨s, ?_, by rw [e2]⟩
  have := congrArg (·[0]?) e1
  simpa [List.getElem?_take, List.getElem?_drop] using this

end
end Go.Proofs.YtdmonfimdinkeaaGreatDoor.LaidE
