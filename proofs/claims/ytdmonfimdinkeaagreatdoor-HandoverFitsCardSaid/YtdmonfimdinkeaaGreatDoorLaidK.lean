/-
  WHAT IS PROVED: which rows deals among the arguments are, and what the listed variables hold. Condition: what each theorem names.
-/
import Derived.Test.YtdmonfimdinkeaaGreatDoorDlV
import Derived.Test.YtdmonfimdinkeaaGreatDoorLaidI
namespace Go.Proofs.YtdmonfimdinkeaaGreatDoor.LaidK
open Go Go.ChangeShapes Go.WideShapes Go.RowKit Go.Proofs.YtdmonfimdinkeaaGreatDoor Go.Proofs.YtdmonfimdinkeaaGreatDoor.IdentP Go.Proofs.YtdmonfimdinkeaaGreatDoor.ShaA Go.Proofs.YtdmonfimdinkeaaGreatDoor.EntP Go.Proofs.YtdmonfimdinkeaaGreatDoor.WireT Go.Proofs.YtdmonfimdinkeaaGreatDoor.DlV
set_option linter.unusedVariables false
set_option linter.unusedSimpArgs false

theorem varsD_of {W : World} {a b c : String × DataW Unit} {rest : List (String × DataW Unit)} (h : laidMet Tryz.prog (a :: b :: c :: ("palaver/sha.k", Rows.laid_palaver_sha_k) :: ("palaver/sha.begin", Rows.laid_palaver_sha_begin) :: ("strconv.ErrRange", Rows.laid_strconv_ErrRange) :: ("strconv.ErrSyntax", Rows.laid_strconv_ErrSyntax) :: ("palaver/ident.signs", Rows.laid_palaver_ident_signs) :: ("palaver/handover.words", Rows.laid_palaver_handover_words) :: rest) W) : VarsD W ∧ VarsH W :=
  ⟨⟨(LaidI.varsE_of h).1, LaidW.deal_of h.tail.tail.tail.tail.tail.tail.tail.tail⟩, (LaidI.varsE_of h).2⟩

section
variable {H : Type} {enc : TypeId × Value → H} {w : World} {base : Nat} {spare : Nat → Bool} {held : Bool} {fuel : Nat} {cs : List Value} {x : DataW H × List MemPlace}
theorem flatDeal : flat Tryz.prog 4 39 = some [some (some .u8), none, some (some .i64), some (some .i64), some (some .i64), some (some .i64), none] := by kernel_rfl
theorem dl_of (h : DataW.trod enc Tryz.prog w base spare held fuel 39 cs = some x) :
    ∃ (k : Int) (r : ByteArray) (ep ix hub next : Int) (s : ByteArray), cs.toArray = dlA k r ep ix hub next s ∧ 0 ≤ k ∧ k ≤ 255 ∧ s.size ≤ maxLen ∧ x.1 = .agg [.lit (.int .u8 k), .lit (.string (bl r)), .lit (.int .i64 ep), .lit (.int .i64 ix), .lit (.int .i64 hub), .lit (.int .i64 next), .lit (.string (bl s))] := by
  have hS : Tryz.prog.underlying 39 = some (.struct (Tryz.prog.fieldsOf 39)) := by kernel_rfl
  have hF : Tryz.prog.fieldsOf 39 = #[⟨"Kind", 37, 0, false, "", "", 0⟩, ⟨"Room", 9, 1, false, "", "", 8⟩, ⟨"Epoch", 3, 2, false, "", "", 24⟩, ⟨"Index", 3, 3, false, "", "", 32⟩, ⟨"Hub", 3, 4, false, "", "", 40⟩, ⟨"Next", 3, 5, false, "", "", 48⟩, ⟨"Sig", 9, 6, false, "", "", 56⟩] := by kernel_rfl
  have u8 : Tryz.prog.underlying 37 = some (.int .u8) := by kernel_rfl
  have u64 : Tryz.prog.underlying 3 = some (.int .i64) := by kernel_rfl
  have c8 : Tryz.prog.cellsOf 37 = 1 := by kernel_rfl
  have c64 : Tryz.prog.cellsOf 3 = 1 := by kernel_rfl
  have cE : Tryz.prog.cellsOf 39 = 7 := by kernel_rfl
  obtain ⟨_, hkk⟩ := fits_of_trod 4 _ _ flatDeal _ _ _ h
  obtain ⟨v0, hv0, n0, rfl, hw0⟩ := hkk 0 (some (some .u8)) rfl
  have hu := LaidW.u8_of hw0
  rw [hF] at hS
  obtain ⟨xs, n, rfl, hx, hl, hn, hel⟩ := DataW.trod_struct hS h
  rw [cE] at hl
  match xs, hn with
  | [x0, x1, x2, x3, x4, x5, x6], _ =>
    obtain ⟨k, e0, d0⟩ := LaidE.field_int x0 u8 c8 (hel 0 _ rfl)
    obtain ⟨r, e1, d1, _⟩ := LaidE.field_str (y := none) x1 (hel 1 _ rfl)
    obtain ⟨ep, e2, d2⟩ := LaidE.field_int x2 u64 c64 (hel 2 _ rfl)
    obtain ⟨ix, e3, d3⟩ := LaidE.field_int x3 u64 c64 (hel 3 _ rfl)
    obtain ⟨hub, e4, d4⟩ := LaidE.field_int x4 u64 c64 (hel 4 _ rfl)
    obtain ⟨next, e5, d5⟩ := LaidE.field_int x5 u64 c64 (hel 5 _ rfl)
    obtain ⟨s, e6, d6, z6⟩ := LaidE.field_str (y := none) x6 (hel 6 _ rfl)
    have hk0 : k = n0 := by
      have e0' : cs[0]? = some (.int .u8 k) := e0
      rw [hv0] at e0'
      simpa using e0'.symm
    refine ⟨k, r, ep, ix, hub, next, s, ?_, by omega, by omega, z6, ?_⟩
    · unfold dlA
      refine congrArg List.toArray ?_
      apply List.ext_getElem?
      intro i
      rcases i with _ | _ | _ | _ | _ | _ | _ | i
      · exact e0
      · exact e1
      · exact e2
      · exact e3
      · exact e4
      · exact e5
      · exact e6
      · rw [List.getElem?_eq_none (by omega), List.getElem?_eq_none (by simp)]
    · rw [hx]
      simp only [List.map_cons, List.map_nil, d0, d1, d2, d3, d4, d5, d6]
end
end Go.Proofs.YtdmonfimdinkeaaGreatDoor.LaidK
