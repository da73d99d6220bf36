/-
  WHAT IS PROVED: what the numbers of the sums are in a world that meets a statement's condition on them.
-/
import Derived.Test.YtjiakfblgefioaaGreatDoorLaidV
import Derived.Test.YtjiakfblgefioaaGreatDoorRed
namespace Go.Proofs.YtjiakfblgefioaaGreatDoor.LaidH
open Go Go.ChangeShapes Go.WideShapes Go.RowKit Go.Proofs.YtjiakfblgefioaaGreatDoor Go.Proofs.YtjiakfblgefioaaGreatDoor.U32 Go.Proofs.YtjiakfblgefioaaGreatDoor.ShaS Go.Proofs.YtjiakfblgefioaaGreatDoor.ShaA Go.Proofs.YtjiakfblgefioaaGreatDoor.RedA
set_option linter.unusedVariables false
set_option linter.unusedSimpArgs false

/-- An array of numbers that stands first on the list. -/
theorem ints_of_head {P : Program} {W : World} {name : String} {ls : List Int} {kd : IntKind} {rest : List (String × DataW Unit)} {g : Nat} {t e : TypeId} {n : Nat}
    (hg : P.globalNamed name = some g) (hty : (P.globals[g]?).map (·.type) = some t) (ht : P.underlying t = some (.array n e)) (he : P.underlying e = some (.int kd)) (hce : P.cellsOf e = 1)
    (h : laidMet P ((name, .agg (ls.map fun l => .lit (.int kd l))) :: rest) W) (i : Nat) (l : Int) (hi : ls[i]? = some l) : W.cell? ⟨g, i, none⟩ = some (.int kd l) := by
  obtain ⟨ps, ⟨g', t', cs, fuel, p, q, hg', ht', hvar, hd, _, _⟩, _⟩ := h
  obtain rfl := Option.some.inj (hg.symm.trans hg')
  obtain rfl := Option.some.inj (hty.symm.trans ht')
  obtain ⟨xs, m, rfl, hx, hlen, hn, hel⟩ := DataW.trod_array ht hd
  simp only [Prod.mk.injEq, DataW.agg.injEq] at hx
  have hxs := hx.1
  have hil : i < ls.length := (List.getElem?_eq_some_iff.1 hi).1
  have hin : i < n := by
    have := congrArg List.length hxs
    simp at this
    omega
  have h1 := hel i hin
  rw [hce, Nat.mul_one, List.getElem?_eq_getElem (by omega)] at h1
  obtain ⟨s, e1, e2, _⟩ := DataW.trod_int he h1
  have h2 : (xs.map (·.1))[i]? = (ls.map fun l => (DataW.lit (.int kd l) : DataW Unit))[i]? := by rw [hxs]
  rw [List.getElem?_map, List.getElem?_map, hi, List.getElem?_eq_getElem (by omega), e2] at h2
  simp only [Option.map_some, Option.some.injEq, DataW.lit.injEq, Lit.int.injEq, true_and] at h2
  have h3 := World.var?_cell hg hvar i
  rw [h3]
  have h4 : cs[i]? = some (.int kd s) := by
    have := congrArg (·[0]?) e1
    simpa [List.getElem?_take, List.getElem?_drop] using this
  rw [h4, h2]

theorem at_u {l : List UInt32} {i : Nat} (h : i < l.length) : (l.map u)[i]? = some (u (l.getD i 0)) := by
  rw [List.getElem?_map, List.getD_eq_getElem?_getD, List.getElem?_eq_getElem h]
  rfl

theorem varsH_of {W : World} {rest : List (String × DataW Unit)} (h : laidMet Tryz.prog (("palaver/sha.k", Rows.laid_palaver_sha_k) :: ("palaver/sha.begin", Rows.laid_palaver_sha_begin) :: rest) W) : VarsH W := by
  have gK : Tryz.prog.globalNamed "palaver/sha.k" = some 2 := by kernel_rfl
  have gB : Tryz.prog.globalNamed "palaver/sha.begin" = some 1 := by kernel_rfl
  have tK : (Tryz.prog.globals[2]?).map (·.type) = some 147 := by kernel_rfl
  have tB : (Tryz.prog.globals[1]?).map (·.type) = some 136 := by kernel_rfl
  have aK : Tryz.prog.underlying 147 = some (.array 64 85) := by kernel_rfl
  have aB : Tryz.prog.underlying 136 = some (.array 8 85) := by kernel_rfl
  have u4 : Tryz.prog.underlying 85 = some (.int .u32) := by kernel_rfl
  have c4 : Tryz.prog.cellsOf 85 = 1 := by kernel_rfl
  have eK : (Rows.laid_palaver_sha_k : DataW Unit) = .agg ((kL.map u).map fun l => .lit (.int .u32 l)) := by kernel_rfl
  have eB : (Rows.laid_palaver_sha_begin : DataW Unit) = .agg ((beginL.map u).map fun l => .lit (.int .u32 l)) := by kernel_rfl
  have hT := h.tail
  rw [eK] at h
  rw [eB] at hT
  exact ⟨fun t ht => ints_of_head gK tK aK u4 c4 h t _ (at_u (show t < kL.length from ht)), fun i hi => ints_of_head gB tB aB u4 c4 hT i _ (at_u (show i < beginL.length from hi))⟩
theorem varsR_of {W : World} {a b c : String × DataW Unit} (h : laidMet Tryz.prog (a :: b :: c :: ("palaver/sha.k", Rows.laid_palaver_sha_k) :: ("palaver/sha.begin", Rows.laid_palaver_sha_begin) :: ("strconv.ErrRange", Rows.laid_strconv_ErrRange) :: ("strconv.ErrSyntax", Rows.laid_strconv_ErrSyntax) :: ("palaver/ident.signs", Rows.laid_palaver_ident_signs) :: ("palaver/event.words", Rows.laid_palaver_event_words) :: []) W) : VarsR W :=
  ⟨⟨Laid.varsI_of h.tail.tail.tail.tail.tail, LaidE.words_of h.tail.tail.tail.tail.tail.tail.tail.tail⟩, varsH_of h.tail.tail.tail⟩
end Go.Proofs.YtjiakfblgefioaaGreatDoor.LaidH
