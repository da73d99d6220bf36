/-
  WHAT IS PROVED: the law TimelineText returns true for every input of a bulk that is at most 1048576 values and letters, and leaves its arguments as they were; its card, tied to the program's text. Condition: the listed variables read as the text lays them.
-/
import Derived.Test.YtfodloepkgkilaaDoorTtextW
import Derived.Test.YtfodloepkgkilaaDoorLaidV
import Derived.Test.YtfodloepkgkilaaDoorLaidH
import Derived.Test.YtfodloepkgkilaaDoorArgsL
import Derived.Test.YtfodloepkgkilaaDoorCondX
import Derived.Test.YtfodloepkgkilaaDoorArgs
import Derived.Test.YtfodloepkgkilaaDoorTie
import Derived.Test.YtfodloepkgkilaaDoorCards
import Derived.ShutString
import Derived.ChangeMaps5
import Derived.ChangeOld
import Derived.ProofKit
import Derived.Lay
import Derived.SevenTiedAt
namespace Go.Proofs.YtfodloepkgkilaaDoor.lawTimelineText
open Go Go.ChangeShapes Go.WideShapes Go.ChangeAt Go.RowKit Go.Proofs.YtfodloepkgkilaaDoor Go.Proofs.YtfodloepkgkilaaDoor.EventP
set_option linter.unusedVariables false
set_option linter.unusedSimpArgs false

theorem own : ownKnob Tryd.prog.godebug = none := by kernel_rfl
theorem laidOut : laidOutB Tryd.prog = true := by kernel_rfl
theorem u8_of {n : Int} (h : (Lit.int .u8 n).wf = true) : 0 ≤ n ∧ n ≤ 255 := by
  simp [Lit.wf, IntKind.min, IntKind.max, IntKind.signed, IntKind.bits] at h
  omega
theorem vars_laid {W : World} (h : laidMetH Tryd.prog Rows.timelineTextUptoRow.laid W) : RedA.VarsR W := by
  rw [MakeChecks.laidMetH_plain _ _ _ (by kernel_rfl)] at h
  exact LaidH.varsR_of h

theorem door_met (os : Os) (args : Array Value) : laidMetH Tryd.prog Rows.timelineTextUptoRow.laid ((World.doorLaid Tryd.prog 400 os).forCall (fun _ _ => 0) ⟨#[], args, []⟩).memory :=
  laidMetH_of_parts3 (fuel := 8) (laidMet_of_run' 8 (by kernel_rfl) (by kernel_rfl)) (by kernel_rfl) (by kernel_rfl)

set_option maxRecDepth 100000 in
theorem lifted (os : Os) (started : os.Started) (H : Type) (enc : TypeId × Value → H) :
    ReturnsInHanded {} Tryd.checked os 12 .any (fun w args => ((Rows.OpenSpec.upto Rows.timelineTextSpec).pre enc Tryd.prog Tryd.f12 [] false w args ∧ laidMetH Tryd.prog Rows.timelineTextUptoRow.laid w) ∧ sizedMet enc Tryd.prog Tryd.f12 (Rows.OpenSpec.upto Rows.timelineTextSpec) false w args)
      (Rows.timelineTextSpec.post enc Tryd.prog Tryd.f12 false true false false) := by
  refine CondX.handed_of_cond_and (k := Rows.uptoSmall) (C := Tryd.checked) (X := fun w _ => laidMetH Tryd.prog Rows.timelineTextUptoRow.laid w) (fun _ _ _ hh h => h.of_heap hh) own started (by kernel_rfl) Tryd.func12
    (CondX.witness_cond (k := Rows.uptoSmall) (enc := enc) (C := Tryd.checked) (os := os) (X := fun w _ => laidMetH Tryd.prog Rows.timelineTextUptoRow.laid w) false (World.doorLaid Tryd.prog 400 os) #[.slice none 0 0] 8 rfl (World.shaped_of_RefB (by kernel_rfl) (by kernel_rfl)) (by kernel_rfl) (by kernel_rfl) (by kernel_rfl) (door_met os _)) ?_
  intro W base args ds gs before hval0 hW _ hbk0 hsz0 hL _
  have hval : ∀ (j : Nat) t v, Tryd.f12.params[j]? = some t → args[j]? = some v → Value.okWide Tryd.prog W .any base t v := hval0
  have hsz : (DataW.weightsEach Tryd.prog (Tryd.f12.params.toList ++ Rows.timelineTextSpec.plain.varTypes Tryd.prog) (ds ++ gs)).all (· ≤ reachBytes) = true := hsz0
  have hW' := hW
  obtain ⟨p, q, hA0, hV, rfl, hfz, hnd⟩ := hW
  have hA : DataW.TrodAll enc Tryd.prog W 0 (fun _ => true) true Tryd.f12.params.toList args.toList ds p := hA0
  rw [Tryd.params12] at hA hval hsz
  obtain ⟨v0, vs0, d0, ds0, p0, q0, hargs, rfl, rfl, h0, r0⟩ := trodAll_cons hA
  obtain ⟨rfl, rfl, rfl⟩ := trodAll_nil r0
  obtain rfl : args = #[v0] := by cases args; simp_all
  obtain ⟨rfl, rfl⟩ := trodVars_none hV
  have k0 := h0
  have lt0 : ∀ x ∈ p0, x.block < W.heap.size := by obtain ⟨m, hm⟩ := k0; exact DataW.trod_lt m _ _ _ hm
  obtain ⟨aa0, ln0, cp0, rfl⟩ := okWide_slice Tryd.underlying54 (hval 0 54 v0 rfl rfl)
  obtain ⟨L0, hL0, hgood0⟩ := ArgsL.open_flatE Tryd.underlying54 ArgsL.flatLine (by kernel_rfl) Tline.Ln.cs (fun x dd => ∃ parts, dd = .agg parts ∧ parts[1]? = some (.lit (.string (bl x.sd))) ∧ parts[2]? = some (.lit (.string (bl x.bd)))) (fun cs dd q m => ArgsL.line_of cs dd q m) h0 ⟨_, _, _, rfl⟩
  have hall := List.all_eq_true.1 hsz
  simp only [List.cons_append, List.nil_append, DataW.weightsEach, DataW.weights, List.append_nil, List.mem_append, List.mem_cons, List.not_mem_nil, or_false, false_or] at hall
  have hz_L0 : ∀ x ∈ L0, x.sd.size ≤ 1048576 ∧ x.bd.size ≤ 1048576 := fun x hx => by
    obtain ⟨dd, elems, rest, ⟨parts, g1, g2, g3⟩, g4, g5⟩ := hgood0 x hx
    exact ArgsL.line_small (of_decide_eq_true hbk0) (by simp) g4 g5 g1 g2 g3
  clear hA0 hval0
  refine (TtextW.text_ok W (vars_laid hL) _ L0 hL0 (fun h200 => Nat.le_trans (ArgsL.texts_small 1048576 L0 hz_L0) (by have := Nat.mul_le_mul_right (2 * 1048576 + 4) h200; omega))).mono fun e W' ⟨he, bel⟩ => ?_
  subst he
  exact ⟨_, rfl, _, _, _, [], _, [], hW', trodAll_mk1 (shut_bool Tryd.underlying4 _), (trodAll_cons_mk (Below.trod laidOut (by kernel_rfl) (of_decide_eq_true (by kernel_rfl)) k0 bel lt0) trodAll_mk0), rfl, bel.frame _, fun h => by cases h⟩

theorem over : Rows.TimelineTextUptoSaid :=
  OpenClaim.holds_of_cond 12 Tryd.f12 rfl rfl rfl rfl rfl rfl rfl ⟨rfl, rfl, rfl, rfl, rfl⟩ rfl rfl rfl rfl rfl (by kernel_rfl) Tryd.func12 (by kernel_rfl)
    (of_decide_eq_true (by kernel_rfl)) (by unfold Func.isWrapper; first | (rw [if_pos (by decide +kernel)]; kernel_rfl) | (rw [if_neg (by decide +kernel)]; exact ⟨rfl, rfl⟩))
    (fun os started H enc _ _ => lifted os started H enc)

theorem proved : Rows.TimelineTextUptoCardSaid :=
  Claim7.holds_tied_plain_at .later [] Rows.timelineTextUptoCard.laidKinds true Rows.timelineTextUptoCard.stood.harness true over (fun _ h => by cases h) (by kernel_rfl) (fun _ h => by cases h) timelineTextUpto_row_tie rfl ⟨rfl, rfl⟩ (by kernel_rfl) rfl
    (fun f fn hf hfn => by
      obtain rfl : f = 12 := Option.some.inj ((show Tryd.prog.funcNamed "palaver/palaverlaw38.TimelineText" = some 12 by kernel_rfl).symm.trans hf) |>.symm
      obtain rfl : fn = Tryd.f12 := (Option.some.inj (Tryd.func12.symm.trans hfn)).symm
      exact ⟨by kernel_rfl, fun j t ht => by
        rw [Tryd.params12] at ht
        have hm : t ∈ [54] := by simpa using Array.mem_of_getElem? ht
        have hall : ([54].all fun u => !Tryd.prog.wantsStandIn u) = true := by kernel_rfl
        exact (show Tryd.prog.wantsStandIn t = false by simpa using List.all_eq_true.1 hall t hm)⟩)
    (by kernel_rfl)
#print axioms proved
end Go.Proofs.YtfodloepkgkilaaDoor.lawTimelineText
