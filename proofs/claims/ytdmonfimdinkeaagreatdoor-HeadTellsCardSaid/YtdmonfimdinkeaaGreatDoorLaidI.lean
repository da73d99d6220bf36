/-
  WHAT IS PROVED: what the listed variables are, and which rows entries and heads among the arguments are. Condition: what each theorem names.
-/
import Derived.Test.YtdmonfimdinkeaaGreatDoorSha
import Derived.Test.YtdmonfimdinkeaaGreatDoorLaidW
namespace Go.Proofs.YtdmonfimdinkeaaGreatDoor.LaidI
open Go Go.ChangeShapes Go.WideShapes Go.RowKit Go.Proofs.YtdmonfimdinkeaaGreatDoor Go.Proofs.YtdmonfimdinkeaaGreatDoor.U32 Go.Proofs.YtdmonfimdinkeaaGreatDoor.ShaS Go.Proofs.YtdmonfimdinkeaaGreatDoor.ShaA Go.Proofs.YtdmonfimdinkeaaGreatDoor.IdentP Go.Proofs.YtdmonfimdinkeaaGreatDoor.EntP
set_option linter.unusedVariables false
set_option linter.unusedSimpArgs false

/-- An array of numbers that stands first on the list. -/
theorem ints_of_head {P : Program} {W : World} {name : String} {ls : List Int} {kd : IntKind} {rest : List (String × DataW Unit)} {g : Nat} {t e : TypeId} {n : Nat}
    (hg : P.globalNamed name = some g) (hty : (P.globals[g]?).map (·.type) = some t) (ht : P.underlying t = some (.array n e)) (he : P.underlying e = some (.int kd)) (hce : P.cellsOf e = 1)
    (h : laidMet P ((name, .agg (ls.map fun l => .lit (.int kd l))) :: rest) W) (i : Nat) (l : Int) (hi : ls[i]? = some l) : W.cell? ⟨g, i, none⟩ = some (.int kd l) := by
  obtain ⟨ps, ⟨g', t', cs, fuel, p, q, hg', ht', hvar, hd, _, _⟩, _⟩ := h
  obtain rfl := Option.some.inj (hg.symm.trans hg')
  obtain rfl := Option.some.inj (hty.symm.trans ht')
  obtain ⟨xs, m, rfl, hx, hlen, hn, hel⟩ := DataW.trod_array ht hd
  simp only [Prod.mk.injEq, DataW.agg.injEq] at hx
  have hxs := hx.1
  have hil : i < ls.length := (List.getElem?_eq_some_iff.1 hi).1
  have hin : i < n := by
    have := congrArg List.length hxs
    simp at this
    omega
  have h1 := hel i hin
  rw [hce, Nat.mul_one, List.getElem?_eq_getElem (by omega)] at h1
  obtain ⟨s, e1, e2, _⟩ := DataW.trod_int he h1
  have h2 : (xs.map (·.1))[i]? = (ls.map fun l => (DataW.lit (.int kd l) : DataW Unit))[i]? := by rw [hxs]
  rw [List.getElem?_map, List.getElem?_map, hi, List.getElem?_eq_getElem (by omega), e2] at h2
  simp only [Option.map_some, Option.some.injEq, DataW.lit.injEq, Lit.int.injEq, true_and] at h2
  have h3 := World.var?_cell hg hvar i
  rw [h3]
  have h4 : cs[i]? = some (.int kd s) := by
    have := congrArg (·[0]?) e1
    simpa [List.getElem?_take, List.getElem?_drop] using this
  rw [h4, h2]

theorem at_u {l : List UInt32} {i : Nat} (h : i < l.length) : (l.map u)[i]? = some (u (l.getD i 0)) := by
  rw [List.getElem?_map, List.getD_eq_getElem?_getD, List.getElem?_eq_getElem h]
  rfl

theorem varsH_of {W : World} {rest : List (String × DataW Unit)} (h : laidMet Tryz.prog (("palaver/sha.k", Rows.laid_palaver_sha_k) :: ("palaver/sha.begin", Rows.laid_palaver_sha_begin) :: rest) W) : VarsH W := by
  have gK : Tryz.prog.globalNamed "palaver/sha.k" = some 2 := by kernel_rfl
  have gB : Tryz.prog.globalNamed "palaver/sha.begin" = some 1 := by kernel_rfl
  have tK : (Tryz.prog.globals[2]?).map (·.type) = some 135 := by kernel_rfl
  have tB : (Tryz.prog.globals[1]?).map (·.type) = some 117 := by kernel_rfl
  have aK : Tryz.prog.underlying 135 = some (.array 64 115) := by kernel_rfl
  have aB : Tryz.prog.underlying 117 = some (.array 8 115) := by kernel_rfl
  have u4 : Tryz.prog.underlying 115 = some (.int .u32) := by kernel_rfl
  have c4 : Tryz.prog.cellsOf 115 = 1 := by kernel_rfl
  have eK : (Rows.laid_palaver_sha_k : DataW Unit) = .agg ((kL.map u).map fun l => .lit (.int .u32 l)) := by kernel_rfl
  have eB : (Rows.laid_palaver_sha_begin : DataW Unit) = .agg ((beginL.map u).map fun l => .lit (.int .u32 l)) := by kernel_rfl
  have hT := h.tail
  rw [eK] at h
  rw [eB] at hT
  exact ⟨fun t ht => ints_of_head gK tK aK u4 c4 h t _ (at_u (show t < kL.length from ht)), fun i hi => ints_of_head gB tB aB u4 c4 hT i _ (at_u (show i < beginL.length from hi))⟩
theorem varsE_of {W : World} {a b c : String × DataW Unit} {rest : List (String × DataW Unit)} (h : laidMet Tryz.prog (a :: b :: c :: ("palaver/sha.k", Rows.laid_palaver_sha_k) :: ("palaver/sha.begin", Rows.laid_palaver_sha_begin) :: ("strconv.ErrRange", Rows.laid_strconv_ErrRange) :: ("strconv.ErrSyntax", Rows.laid_strconv_ErrSyntax) :: ("palaver/ident.signs", Rows.laid_palaver_ident_signs) :: rest) W) : VarsI W ∧ VarsH W :=
  ⟨Laid.varsI_of h.tail.tail.tail.tail.tail, varsH_of h.tail.tail.tail⟩

section
variable {H : Type} {enc : TypeId × Value → H} {w : World} {base : Nat} {spare : Nat → Bool} {held : Bool} {fuel : Nat} {cs : List Value} {x : DataW H × List MemPlace}
theorem flatHash3 : flat Tryz.prog 4 23 = some (List.replicate 32 (some (some .u8))) := by kernel_rfl
theorem ent_of (h : DataW.trod enc Tryz.prog w base spare held fuel 27 cs = some x) :
    ∃ (r : ByteArray) (ep ix : Int) (pv : List UInt8) (e s : ByteArray) (d3 : DataW H), cs.toArray = entA r ep ix pv e s ∧ pv.length = 32 ∧ e.size ≤ maxLen ∧ s.size ≤ maxLen ∧ x.1 = .agg [.lit (.string (bl r)), .lit (.int .i64 ep), .lit (.int .i64 ix), d3, .lit (.string (bl e)), .lit (.string (bl s))] := by
  have hS : Tryz.prog.underlying 27 = some (.struct (Tryz.prog.fieldsOf 27)) := by kernel_rfl
  have hF : Tryz.prog.fieldsOf 27 = #[⟨"Room", 9, 0, false, "", "", 0⟩, ⟨"Epoch", 3, 1, false, "", "", 16⟩, ⟨"Index", 3, 2, false, "", "", 24⟩, ⟨"Prev", 23, 3, false, "", "", 32⟩, ⟨"Event", 9, 35, false, "", "", 64⟩, ⟨"Sig", 9, 36, false, "", "", 80⟩] := by kernel_rfl
  have u64 : Tryz.prog.underlying 3 = some (.int .i64) := by kernel_rfl
  have c64 : Tryz.prog.cellsOf 3 = 1 := by kernel_rfl
  have cH : Tryz.prog.cellsOf 23 = 32 := by kernel_rfl
  have cE : Tryz.prog.cellsOf 27 = 37 := by kernel_rfl
  rw [hF] at hS
  obtain ⟨xs, n, rfl, hx, hl, hn, hel⟩ := DataW.trod_struct hS h
  rw [cE] at hl
  match xs, hn with
  | [x0, x1, x2, x3, x4, x5], _ =>
    obtain ⟨r, e0, d0, _⟩ := LaidE.field_str (y := none) x0 (hel 0 _ rfl)
    obtain ⟨ep, e1, d1⟩ := LaidE.field_int x1 u64 c64 (hel 1 _ rfl)
    obtain ⟨ix, e2, d2⟩ := LaidE.field_int x2 u64 c64 (hel 2 _ rfl)
    have h3 : DataW.trod enc Tryz.prog w base spare held n 23 ((cs.drop 3).take 32) = some x3 := by
      rw [← cH]
      exact hel 3 _ rfl
    obtain ⟨pv, hpv, hcp⟩ := LaidW.hash_of (fits_of_trod 4 _ _ flatHash3 _ _ _ h3)
    obtain ⟨e, e4, d4, z4⟩ := LaidE.field_str (y := none) x4 (hel 4 _ rfl)
    obtain ⟨s, e5, d5, z5⟩ := LaidE.field_str (y := none) x5 (hel 5 _ rfl)
    refine ⟨r, ep, ix, pv, e, s, x3.1, ?_, hpv, z4, z5, ?_⟩
    · unfold entA
      refine congrArg List.toArray ?_
      have hb : (byV pv).length = 32 := by rw [byV_length, hpv]
      apply List.ext_getElem?
      intro i
      rcases Nat.lt_or_ge i 3 with hi | hi
      · rw [List.append_assoc, List.getElem?_append_left (by simpa using hi)]
        rcases i with _ | _ | _ | i
        · exact e0
        · exact e1
        · exact e2
        · omega
      · obtain ⟨j, rfl⟩ : ∃ j, i = 3 + j := ⟨i - 3, by omega⟩
        rw [List.append_assoc, List.getElem?_append_right (by simp), show 3 + j - ([.string r, .int .i64 ep, .int .i64 ix] : List Value).length = j by simp]
        rcases Nat.lt_or_ge j 32 with hj | hj
        · rw [List.getElem?_append_left (by omega), ← hcp, List.getElem?_take, if_pos hj, List.getElem?_drop]
        · rw [List.getElem?_append_right (by omega), hb]
          obtain ⟨k, rfl⟩ : ∃ k, j = 32 + k := ⟨j - 32, by omega⟩
          rw [show 32 + k - 32 = k by omega, show 3 + (32 + k) = 35 + k by omega]
          rcases k with _ | _ | k
          · exact e4
          · exact e5
          · rw [List.getElem?_eq_none (by omega), List.getElem?_eq_none (by simp)]
    · rw [hx]
      simp only [List.map_cons, List.map_nil, d0, d1, d2, d4, d5]
end
end Go.Proofs.YtdmonfimdinkeaaGreatDoor.LaidI

namespace Go.Proofs.YtdmonfimdinkeaaGreatDoor.LaidJ
open Go Go.ChangeShapes Go.WideShapes Go.RowKit Go.Proofs.YtdmonfimdinkeaaGreatDoor Go.Proofs.YtdmonfimdinkeaaGreatDoor.EntP Go.Proofs.YtdmonfimdinkeaaGreatDoor.WireT Go.Proofs.YtdmonfimdinkeaaGreatDoor.LaidI
set_option linter.unusedVariables false
set_option linter.unusedSimpArgs false

section
variable {H : Type} {enc : TypeId × Value → H} {w : World} {base : Nat} {spare : Nat → Bool} {held : Bool} {fuel : Nat} {cs : List Value} {x : DataW H × List MemPlace}
theorem hd_of (h : DataW.trod enc Tryz.prog w base spare held fuel 25 cs = some x) :
    ∃ (r : ByteArray) (ep ix : Int) (pv : List UInt8) (s : ByteArray) (d3 : DataW H), cs.toArray = hdA r ep ix pv s ∧ pv.length = 32 ∧ s.size ≤ maxLen ∧ x.1 = .agg [.lit (.string (bl r)), .lit (.int .i64 ep), .lit (.int .i64 ix), d3, .lit (.string (bl s))] := by
  have hS : Tryz.prog.underlying 25 = some (.struct (Tryz.prog.fieldsOf 25)) := by kernel_rfl
  have hF : Tryz.prog.fieldsOf 25 = #[⟨"Room", 9, 0, false, "", "", 0⟩, ⟨"Epoch", 3, 1, false, "", "", 16⟩, ⟨"Index", 3, 2, false, "", "", 24⟩, ⟨"Sum", 23, 3, false, "", "", 32⟩, ⟨"Sig", 9, 35, false, "", "", 64⟩] := by kernel_rfl
  have u64 : Tryz.prog.underlying 3 = some (.int .i64) := by kernel_rfl
  have c64 : Tryz.prog.cellsOf 3 = 1 := by kernel_rfl
  have cH : Tryz.prog.cellsOf 23 = 32 := by kernel_rfl
  have cE : Tryz.prog.cellsOf 25 = 36 := by kernel_rfl
  rw [hF] at hS
  obtain ⟨xs, n, rfl, hx, hl, hn, hel⟩ := DataW.trod_struct hS h
  rw [cE] at hl
  match xs, hn with
  | [x0, x1, x2, x3, x4], _ =>
    obtain ⟨r, e0, d0, _⟩ := LaidE.field_str (y := none) x0 (hel 0 _ rfl)
    obtain ⟨ep, e1, d1⟩ := LaidE.field_int x1 u64 c64 (hel 1 _ rfl)
    obtain ⟨ix, e2, d2⟩ := LaidE.field_int x2 u64 c64 (hel 2 _ rfl)
    have h3 : DataW.trod enc Tryz.prog w base spare held n 23 ((cs.drop 3).take 32) = some x3 := by
      rw [← cH]
      exact hel 3 _ rfl
    obtain ⟨pv, hpv, hcp⟩ := LaidW.hash_of (fits_of_trod 4 _ _ flatHash3 _ _ _ h3)
    obtain ⟨s, e5, d5, z5⟩ := LaidE.field_str (y := none) x4 (hel 4 _ rfl)
    refine ⟨r, ep, ix, pv, s, x3.1, ?_, hpv, z5, ?_⟩
    · unfold hdA
      refine congrArg List.toArray ?_
      have hb : (byV pv).length = 32 := by rw [byV_length, hpv]
      apply List.ext_getElem?
      intro i
      rcases Nat.lt_or_ge i 3 with hi | hi
      · rw [List.append_assoc, List.getElem?_append_left (by simpa using hi)]
        rcases i with _ | _ | _ | i
        · exact e0
        · exact e1
        · exact e2
        · omega
      · obtain ⟨j, rfl⟩ : ∃ j, i = 3 + j := ⟨i - 3, by omega⟩
        rw [List.append_assoc, List.getElem?_append_right (by simp), show 3 + j - ([.string r, .int .i64 ep, .int .i64 ix] : List Value).length = j by simp]
        rcases Nat.lt_or_ge j 32 with hj | hj
        · rw [List.getElem?_append_left (by omega), ← hcp, List.getElem?_take, if_pos hj, List.getElem?_drop]
        · rw [List.getElem?_append_right (by omega), hb]
          obtain ⟨k, rfl⟩ : ∃ k, j = 32 + k := ⟨j - 32, by omega⟩
          rw [show 32 + k - 32 = k by omega, show 3 + (32 + k) = 35 + k by omega]
          rcases k with _ | k
          · exact e5
          · rw [List.getElem?_eq_none (by omega), List.getElem?_eq_none (by simp)]
    · rw [hx]
      simp only [List.map_cons, List.map_nil, d0, d1, d2, d5]
end
end Go.Proofs.YtdmonfimdinkeaaGreatDoor.LaidJ
