/-
  WHAT IS PROVED: the law TimelineOf returns true for every input, and leaves its arguments as they were; its card, tied to the program's text. Condition: the listed variables read as the text lays them.
-/
import Derived.Test.YtjiakfblgefioaaGreatDoorT38W
import Derived.Test.YtjiakfblgefioaaGreatDoorLaidV
import Derived.Test.YtjiakfblgefioaaGreatDoorLaidH
import Derived.Test.YtjiakfblgefioaaGreatDoorArgsW
import Derived.Test.YtjiakfblgefioaaGreatDoorArgs
import Derived.Test.YtjiakfblgefioaaGreatDoorTie
import Derived.Test.YtjiakfblgefioaaGreatDoorCards
import Derived.ShutString
import Derived.ChangeMaps5
import Derived.ChangeOld
import Derived.ProofKit
import Derived.Lay
import Derived.SevenTiedAt
namespace Go.Proofs.YtjiakfblgefioaaGreatDoor.lawTimelineOf
open Go Go.ChangeShapes Go.WideShapes Go.ChangeAt Go.RowKit Go.Proofs.YtjiakfblgefioaaGreatDoor Go.Proofs.YtjiakfblgefioaaGreatDoor.EventP
set_option linter.unusedVariables false
set_option linter.unusedSimpArgs false

theorem own : ownKnob Tryz.prog.godebug = none := by kernel_rfl
theorem laidOut : laidOutB Tryz.prog = true := by kernel_rfl
theorem u8_of {n : Int} (h : (Lit.int .u8 n).wf = true) : 0 ≤ n ∧ n ≤ 255 := by
  simp [Lit.wf, IntKind.min, IntKind.max, IntKind.signed, IntKind.bits] at h
  omega
theorem vars_laid {W : World} (h : laidMetH Tryz.prog Rows.timelineOfRow.laid W) : RedA.VarsR W := by
  rw [MakeChecks.laidMetH_plain _ _ _ (by kernel_rfl)] at h
  exact LaidH.varsR_of h

theorem door_met (os : Os) (args : Array Value) : laidMetH Tryz.prog Rows.timelineOfRow.laid ((World.doorLaid Tryz.prog 400 os).forCall (fun _ _ => 0) ⟨#[], args, []⟩).memory :=
  laidMetH_of_parts3 (fuel := 8) (laidMet_of_run' 8 (by kernel_rfl) (by kernel_rfl)) (by kernel_rfl) (by kernel_rfl)

set_option maxRecDepth 100000 in
theorem lifted (os : Os) (started : os.Started) (H : Type) (enc : TypeId × Value → H) :
    ReturnsInHanded {} Tryz.checked os 4 .any (fun w args => (Rows.timelineOfSpec.pre enc Tryz.prog Tryz.f4 [] false w args ∧ laidMetH Tryz.prog Rows.timelineOfRow.laid w) ∧ sizedMet enc Tryz.prog Tryz.f4 (OpenSpec.ofChange Rows.timelineOfSpec) false w args)
      (Rows.timelineOfSpec.post enc Tryz.prog Tryz.f4 false true false false) := by
  refine returnsInHanded_of_change_and (C := Tryz.checked) (X := fun w _ => laidMetH Tryz.prog Rows.timelineOfRow.laid w) (fun _ _ _ hh h => h.of_heap hh) own started (by kernel_rfl) Tryz.func4
    (ChangeSpec.witness_shaped (enc := enc) (C := Tryz.checked) (os := os) (X := fun w _ => laidMetH Tryz.prog Rows.timelineOfRow.laid w) false (World.doorLaid Tryz.prog 400 os) #[.slice none 0 0] 8 rfl (World.shaped_of_RefB (by kernel_rfl) (by kernel_rfl)) (by kernel_rfl) (by kernel_rfl) (by kernel_rfl) (door_met os _)) ?_
  intro W base args ds gs before hval0 hW _ hsz0 hL _
  have hval : ∀ (j : Nat) t v, Tryz.f4.params[j]? = some t → args[j]? = some v → Value.okWide Tryz.prog W .any base t v := hval0
  have hsz : (DataW.weightsEach Tryz.prog (Tryz.f4.params.toList ++ Rows.timelineOfSpec.plain.varTypes Tryz.prog) (ds ++ gs)).all (· ≤ reachBytes) = true := hsz0
  have hW' := hW
  obtain ⟨p, q, hA0, hV, rfl, hfz, hnd⟩ := hW
  have hA : DataW.TrodAll enc Tryz.prog W 0 (fun _ => true) true Tryz.f4.params.toList args.toList ds p := hA0
  rw [Tryz.params4] at hA hval hsz
  obtain ⟨v0, vs0, d0, ds0, p0, q0, hargs, rfl, rfl, h0, r0⟩ := trodAll_cons hA
  obtain ⟨rfl, rfl, rfl⟩ := trodAll_nil r0
  obtain rfl : args = #[v0] := by cases args; simp_all
  obtain ⟨rfl, rfl⟩ := trodVars_none hV
  have k0 := h0
  have lt0 : ∀ x ∈ p0, x.block < W.heap.size := by obtain ⟨m, hm⟩ := k0; exact DataW.trod_lt m _ _ _ hm
  obtain ⟨aa0, ln0, cp0, rfl⟩ := okWide_slice Tryz.underlying34 (hval 0 34 v0 rfl rfl)
  obtain ⟨L0, hL0, hgood0⟩ := ArgsW.open_flatW Tryz.underlying34 ArgsW.flatEntry (by kernel_rfl) Tread.En.cs (fun x dd => (bl x.ev).length ∈ dd.weights Tryz.prog 62) (fun cs dd q m => ArgsW.entry_of cs dd q m) h0 ⟨_, _, _, rfl⟩
  have hall := List.all_eq_true.1 hsz
  simp only [List.cons_append, List.nil_append, DataW.weightsEach, DataW.weights, List.append_nil, List.mem_append, List.mem_cons, List.not_mem_nil, or_false, false_or] at hall
  have hz_L0 : ∀ x ∈ L0, x.ev.size ≤ 140737488351232 := fun x hx => by
    obtain ⟨dd, g1, g2⟩ := hgood0 x hx
    rw [← bl_length]
    exact of_decide_eq_true (hall _ (by simp only [g2 _ g1, true_or, or_true]))
  clear hA0 hval0
  refine (T38W.of_ok W (vars_laid hL) _ L0 hL0 hz_L0).mono fun e W' ⟨he, bel⟩ => ?_
  subst he
  exact ⟨_, rfl, _, _, _, [], _, [], hW', trodAll_mk1 (shut_bool Tryz.underlying4 _), (trodAll_cons_mk (Below.trod laidOut (by kernel_rfl) (of_decide_eq_true (by kernel_rfl)) k0 bel lt0) trodAll_mk0), rfl, bel.frame _, fun h => by cases h⟩

theorem over : Rows.TimelineOfSaid :=
  OpenClaim.holds_of_wide 4 Tryz.f4 rfl rfl rfl rfl rfl rfl rfl ⟨rfl, rfl, rfl, rfl, rfl⟩ rfl rfl rfl rfl rfl (by kernel_rfl) Tryz.func4 (by kernel_rfl)
    (of_decide_eq_true (by kernel_rfl)) (by unfold Func.isWrapper; first | (rw [if_pos (by decide +kernel)]; kernel_rfl) | (rw [if_neg (by decide +kernel)]; exact ⟨rfl, rfl⟩))
    (fun os started H enc _ => lifted os started H enc)

theorem proved : Rows.TimelineOfCardSaid :=
  Claim7.holds_tied_plain_at .later [] Rows.timelineOfCard.laidKinds true Rows.timelineOfCard.stood.harness true over (fun _ h => by cases h) (by kernel_rfl) (fun _ h => by cases h) timelineOf_row_tie rfl ⟨rfl, rfl⟩ (by kernel_rfl) rfl
    (fun f fn hf hfn => by
      obtain rfl : f = 4 := Option.some.inj ((show Tryz.prog.funcNamed "palaver/palaverlaw38.TimelineOf" = some 4 by kernel_rfl).symm.trans hf) |>.symm
      obtain rfl : fn = Tryz.f4 := (Option.some.inj (Tryz.func4.symm.trans hfn)).symm
      exact ⟨by kernel_rfl, fun j t ht => by
        rw [Tryz.params4] at ht
        have hm : t ∈ [34] := by simpa using Array.mem_of_getElem? ht
        have hall : ([34].all fun u => !Tryz.prog.wantsStandIn u) = true := by kernel_rfl
        exact (show Tryz.prog.wantsStandIn t = false by simpa using List.all_eq_true.1 hall t hm)⟩)
    (by kernel_rfl)
#print axioms proved
end Go.Proofs.YtjiakfblgefioaaGreatDoor.lawTimelineOf
