/-
  WHAT IS PROVED: SeenHears returns true for every input, and leaves its arguments as they were. Condition: none.
-/
import Derived.Test.YtceiajepcokacaaGreatDoorS0
import Derived.Test.YtceiajepcokacaaGreatDoorZH35
import Derived.ChangeMaps5
import Derived.ChangeOld
import Derived.Lay
import Derived.SevenTiedAt
import Derived.ShutString
import Derived.Test.YtceiajepcokacaaGreatDoorCards
import Derived.Test.YtceiajepcokacaaGreatDoorTie
set_option linter.unusedVariables false
set_option maxRecDepth 100000
set_option maxHeartbeats 4000000
namespace Go.Proofs.YtceiajepcokacaaGreatDoor.lawSeenHears
open Go Go.ChangeShapes Go.WideShapes Go.ChangeAt Go.RowKit IdentP EntP ShaA WireT Go.Proofs.Tryz
theorem dE {p : Prop} [Decidable p] (h : decide p = true) : p := of_decide_eq_true h
theorem lo : laidOutB prog = true := by kernel_rfl
theorem Es {W : World} (h : laidMetH prog Rows.seenHearsRow.laid W) : Am W ∧ Au W := by
 rw [MakeChecks.laidMetH_plain _ _ _ (by kernel_rfl)] at h
 exact LaidI.varsE_of h
theorem dm (os : Os) (args : Array Value) : laidMetH prog Rows.seenHearsRow.laid ((World.doorLaid prog 400 os).forCall (fun _ _ => 0) ⟨#[], args, []⟩).memory :=
 laidMetH_of_parts3 (fuel := 8) (laidMet_of_run' 8 (by kernel_rfl) (by kernel_rfl)) (by kernel_rfl) (by kernel_rfl)
abbrev LM (w : World) := laidMetH prog Rows.seenHearsRow.laid w
theorem li (os : Os) (st : os.Started) (H : Type) (enc : TypeId × Value → H) :
 ReturnsInHanded {} checked os 3 .any (fun w args => (Rows.seenHearsSpec.pre enc prog f3 [] false w args ∧ LM w) ∧ sizedMet enc prog f3 (OpenSpec.ofChange Rows.seenHearsSpec) false w args)
  (Rows.seenHearsSpec.post enc prog f3 false true false false) := by
 refine returnsInHanded_of_change_and (C := checked) (X := fun w _ => LM w) (fun _ _ _ hh h => h.of_heap hh) (by kernel_rfl) st (by kernel_rfl) func3
  (ChangeSpec.witness_shaped (X := fun w _ => LM w) false (World.doorLaid prog 400 os) #[.slice none 0 0, .slice none 0 0] 8 rfl (World.shaped_of_RefB (by kernel_rfl) (by kernel_rfl)) (by kernel_rfl) (by kernel_rfl) (by kernel_rfl) (dm os _)) ?_
 intro W base args ds gs before hval0 hW _ hsz0 hL _
 have hval : ∀ (j : Nat) t v, f3.params[j]? = some t → args[j]? = some v → Value.okWide prog W .any base t v := hval0
 have hsz : (DataW.weightsEach prog (f3.params.toList ++ Rows.seenHearsSpec.plain.varTypes prog) (ds ++ gs)).all (· ≤ reachBytes) = true := hsz0
 have hW' := hW
 obtain ⟨p, q, hA0, hV, rfl, hfz, hnd⟩ := hW
 have hA : DataW.TrodAll enc prog W 0 (fun _ => true) true f3.params.toList args.toList ds p := hA0
 rw [params3] at hA hval hsz
 obtain ⟨v0, vs0, d0, ds0, p0, q0, hr, rfl, rfl, h0, r0⟩ := trodAll_cons hA
 obtain ⟨v1, vs1, d1, ds1, p1, q1, rfl, rfl, rfl, h1, r1⟩ := trodAll_cons r0
 obtain ⟨rfl, rfl, rfl⟩ := trodAll_nil r1
 obtain rfl : args = #[v0, v1] := by cases args; simp_all
 obtain ⟨rfl, rfl⟩ := trodVars_none hV
 have lt0 : ∀ x ∈ p0, x.block < W.heap.size := by obtain ⟨m, hm⟩ := h0; exact DataW.trod_lt m _ _ _ hm
 have lt1 : ∀ x ∈ p1, x.block < W.heap.size := by obtain ⟨m, hm⟩ := h1; exact DataW.trod_lt m _ _ _ hm
 obtain ⟨aa0, ln0, cp0, rfl⟩ := okWide_slice underlying22 (hval 0 22 v0 rfl rfl)
 obtain ⟨B0, hB0, _, hbb⟩ := LaidR.FL underlying22 LaidG.flatGrant (by kernel_rfl) BookA.Gr'.cs (fun _ _ => True) LaidR.gr_of2 h0 ⟨_, _, _, rfl⟩
 obtain ⟨aa1, ln1, cp1, rfl⟩ := okWide_slice underlying23 (hval 1 23 v1 rfl rfl)
 obtain ⟨L1, hL1, hg, _⟩ := LaidR.FL underlying23 LaidR.flatSaid (by kernel_rfl) SnX.EH (fun x dd => SnK.InI x.1 ∧ x.2.2.size ≤ maxLen ∧ (bl x.2.1).length ∈ dd.weights prog 35) LaidR.said_of h1 ⟨_, _, _, rfl⟩
 have hall := List.all_eq_true.1 hsz
 simp only [List.cons_append, List.nil_append, DataW.weightsEach, List.mem_append] at hall
 have hb64 : B0.length * 64 ≤ 140737488355328 := by
  rcases hbb with rfl | ⟨k, hk, hk2⟩
  ·simp
  ·have g := dE (hall k (.inl hk))
   rw [show prog.bytesOf 65 = 64 by kernel_rfl] at hk2
   unfold reachBytes at g
   omega
 have hz : ∀ x ∈ L1, SnK.InI x.1 ∧ x.2.1.size ≤ 140737488351232 ∧ x.2.2.size ≤ maxLen := fun x hx => by
  obtain ⟨dd, ⟨g1, g2, g3⟩, g4⟩ := hg x hx
  refine ⟨g1, ?_, g2⟩
  rw [← AP]
  exact dE (hall _ (.inr (.inl (g4 _ g3))))
 clear hA0 hval0
 refine (SnX.hears_ok W _ _ B0 L1 hB0 (by unfold maxLen; omega) hb64 hL1 hz (Es hL).1 (Es hL).2).mono fun e W' ⟨he, bel⟩ => ?_
 subst he
 exact ⟨_, rfl, _, _, _, [], _, [], hW', trodAll_mk1 (shut_bool underlying4 _), (trodAll_cons_mk (Below.trod lo (by kernel_rfl) (dE (by kernel_rfl)) h0 bel lt0) (trodAll_cons_mk (Below.trod lo (by kernel_rfl) (dE (by kernel_rfl)) h1 bel lt1) trodAll_mk0)), rfl, bel.frame _, fun h => by cases h⟩
theorem over : Rows.SeenHearsSaid :=
 OpenClaim.holds_of_wide 3 f3 rfl rfl rfl rfl rfl rfl rfl ⟨rfl, rfl, rfl, rfl, rfl⟩ rfl rfl rfl rfl rfl (by kernel_rfl) func3 (by kernel_rfl)
  (dE (by kernel_rfl)) (by unfold Func.isWrapper; first | (rw [if_pos (by decide +kernel)]; kernel_rfl) | (rw [if_neg (by decide +kernel)]; exact ⟨rfl, rfl⟩))
  (fun os st H enc _ => li os st H enc)
theorem proved : Rows.SeenHearsCardSaid :=
 Claim7.holds_tied_plain_at .later [] Rows.seenHearsCard.laidKinds true Rows.seenHearsCard.stood.harness true over (fun _ h => by cases h) (by kernel_rfl) (fun _ h => by cases h) seenHears_row_tie rfl ⟨rfl, rfl⟩ (by kernel_rfl) rfl
  (fun f fn hf hfn => by
   obtain rfl : f = 3 := Option.some.inj ((show prog.funcNamed "palaver/palaverlaw26.SeenHears" = some 3 by kernel_rfl).symm.trans hf) |>.symm
   obtain rfl : fn = f3 := (Option.some.inj (func3.symm.trans hfn)).symm
   exact ⟨by kernel_rfl, fun j t ht => by
   rw [params3] at ht
   have hm : t ∈ [22, 23] := by simpa using Array.mem_of_getElem? ht
   have hall : ([22, 23].all fun u => !prog.wantsStandIn u) = true := by kernel_rfl
   exact (show prog.wantsStandIn t = false by simpa using List.all_eq_true.1 hall t hm)⟩)
  (by kernel_rfl)
#print axioms proved
end Go.Proofs.YtceiajepcokacaaGreatDoor.lawSeenHears
