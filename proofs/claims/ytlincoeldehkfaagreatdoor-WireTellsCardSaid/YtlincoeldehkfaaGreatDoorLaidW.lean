/-
  WHAT IS PROVED: what the listed words are, and which rows messages and sums among the arguments are. Condition: what each theorem names.
-/
import Derived.Test.YtlincoeldehkfaaGreatDoorLaidV
import Derived.Test.YtlincoeldehkfaaGreatDoorWireA
namespace Go.Proofs.YtlincoeldehkfaaGreatDoor.LaidW
open Go Go.ChangeShapes Go.WideShapes Go.RowKit Go.Proofs.YtlincoeldehkfaaGreatDoor
set_option linter.unusedVariables false
set_option linter.unusedSimpArgs false

theorem wire_of {W : World} {rest : List (String × DataW Unit)} (h : laidMet Tryz.prog (("palaver/wire.words", Rows.laid_palaver_wire_words) :: rest) W) (k : Nat) (hk : k < 8) :
    W.cell? ⟨0, k, none⟩ = some (.string (bsOf (WireS.wordN k))) := by
  have gW : Tryz.prog.globalNamed "palaver/wire.words" = some 0 := by kernel_rfl
  have tW : (Tryz.prog.globals[0]?).map (·.type) = some 48 := by kernel_rfl
  have a3 : Tryz.prog.underlying 48 = some (.array 8 9) := by kernel_rfl
  have a9 : Tryz.prog.underlying 9 = some .string := by kernel_rfl
  have c9 : Tryz.prog.cellsOf 9 = 1 := by kernel_rfl
  have hS : laidMet Tryz.prog (("palaver/wire.words", .agg (((List.range 8).map WireS.wordN).map fun l => .lit (.string l))) :: rest) W := h
  exact Laid.strs_of_head gW tW a3 a9 c9 hS k (WireS.wordN k) (by rw [List.getElem?_map, List.getElem?_range hk]; rfl)
theorem deal_of {W : World} {rest : List (String × DataW Unit)} (h : laidMet Tryz.prog (("palaver/handover.words", Rows.laid_palaver_handover_words) :: rest) W) (k : Nat) (hk : k < 3) :
    W.cell? ⟨2, k, none⟩ = some (.string (bsOf (WireA.wordDn k))) := by
  have gW : Tryz.prog.globalNamed "palaver/handover.words" = some 2 := by kernel_rfl
  have tW : (Tryz.prog.globals[2]?).map (·.type) = some 109 := by kernel_rfl
  have a3 : Tryz.prog.underlying 109 = some (.array 3 9) := by kernel_rfl
  have a9 : Tryz.prog.underlying 9 = some .string := by kernel_rfl
  have c9 : Tryz.prog.cellsOf 9 = 1 := by kernel_rfl
  have hS : laidMet Tryz.prog (("palaver/handover.words", .agg (((List.range 3).map fun k => WireA.wordDn k).map fun l => .lit (.string l))) :: rest) W := h
  exact Laid.strs_of_head gW tW a3 a9 c9 hS k (WireA.wordDn k) (by rw [List.getElem?_map, List.getElem?_range hk]; rfl)

section
variable {H : Type} {enc : TypeId × Value → H} {w : World} {base : Nat} {spare : Nat → Bool} {held : Bool} {fuel : Nat} {cs : List Value} {x : DataW H × List MemPlace}
theorem msg_of (h : DataW.trod enc Tryz.prog w base spare held fuel 24 cs = some x) :
    ∃ (k f t : Int) (b : ByteArray), cs = [.int .u8 k, .int .i64 f, .int .i64 t, .string b] ∧ x.1 = .agg [.lit (.int .u8 k), .lit (.int .i64 f), .lit (.int .i64 t), .lit (.string (bl b))] := by
  have hS : Tryz.prog.underlying 24 = some (.struct (Tryz.prog.fieldsOf 24)) := by kernel_rfl
  have hF : Tryz.prog.fieldsOf 24 = #[⟨"Kind", 22, 0, false, "", "", 0⟩, ⟨"From", 3, 1, false, "", "", 8⟩, ⟨"To", 3, 2, false, "", "", 16⟩, ⟨"Body", 9, 3, false, "", "", 24⟩] := by kernel_rfl
  have u8 : Tryz.prog.underlying 22 = some (.int .u8) := by kernel_rfl
  have u64 : Tryz.prog.underlying 3 = some (.int .i64) := by kernel_rfl
  have c8 : Tryz.prog.cellsOf 22 = 1 := by kernel_rfl
  have c64 : Tryz.prog.cellsOf 3 = 1 := by kernel_rfl
  have cE : Tryz.prog.cellsOf 24 = 4 := by kernel_rfl
  rw [hF] at hS
  obtain ⟨xs, n, rfl, hx, hl, hn, hel⟩ := DataW.trod_struct hS h
  rw [cE] at hl
  match xs, hn with
  | [x0, x1, x2, x3], _ =>
    obtain ⟨k, e0, d0⟩ := LaidE.field_int x0 u8 c8 (hel 0 _ rfl)
    obtain ⟨f, e1, d1⟩ := LaidE.field_int x1 u64 c64 (hel 1 _ rfl)
    obtain ⟨t, e2, d2⟩ := LaidE.field_int x2 u64 c64 (hel 2 _ rfl)
    obtain ⟨b, e3, d3, _⟩ := LaidE.field_str (y := none) x3 (hel 3 _ rfl)
    refine ⟨k, f, t, b, ?_, ?_⟩
    · apply List.ext_getElem?
      intro i
      rcases i with _ | _ | _ | _ | i
      · exact e0
      · exact e1
      · exact e2
      · exact e3
      · rw [List.getElem?_eq_none (by omega), List.getElem?_eq_none (by simp)]
    · rw [hx]
      simp only [List.map_cons, List.map_nil, d0, d1, d2, d3]
theorem flatMsg : flat Tryz.prog 4 24 = some [some (some .u8), some (some .i64), some (some .i64), none] := by kernel_rfl
theorem flatHash : flat Tryz.prog 4 34 = some (List.replicate 32 (some (some .u8))) := by kernel_rfl
theorem u8_of {n : Int} (h : (Lit.int .u8 n).wf = true) : 0 ≤ n ∧ n ≤ 255 := by
  simp [Lit.wf, IntKind.min, IntKind.max, IntKind.signed, IntKind.bits] at h
  omega
theorem hash_of (hf : Fits (List.replicate 32 (some (some .u8))) cs) : ∃ l : List UInt8, l.length = 32 ∧ cs = byV l := by
  obtain ⟨hl, hk⟩ := hf
  have hl' : cs.length = 32 := by rw [← hl]; simp
  refine ⟨cs.map (fun v => match v with | .int _ n => UInt8.ofNat n.toNat | _ => 0), by rw [List.length_map]; exact hl', ?_⟩
  unfold byV
  rw [List.map_map]
  apply List.ext_getElem?
  intro i
  rw [List.getElem?_map]
  by_cases hi : i < 32
  · obtain ⟨v, hv, n, rfl, hw⟩ := hk i (some (some .u8)) (by rw [List.getElem?_replicate]; simp [hi])
    rw [hv]
    obtain ⟨h0, h1⟩ := u8_of hw
    simp only [Option.map_some, Function.comp]
    congr 2
    have : (UInt8.ofNat n.toNat).toNat = n.toNat % 256 := rfl
    rw [this]
    omega
  · rw [List.getElem?_eq_none (by omega)]
    rfl
theorem okWide_array {P : Program} {w : World} {r : Reach} {base : Nat} {t e : TypeId} {n : Nat} {v : Value} (ht : P.underlying t = some (.array n e)) (h : Value.okWide P w r base t v) : ∃ cs, v = .agg cs ∧ cs.size = P.cellsOf t := by
  simp only [Value.okWide, ht] at h
  obtain ⟨cs, h1, h2, _⟩ := h
  exact ⟨cs, h1, h2⟩
end
end Go.Proofs.YtlincoeldehkfaaGreatDoor.LaidW
