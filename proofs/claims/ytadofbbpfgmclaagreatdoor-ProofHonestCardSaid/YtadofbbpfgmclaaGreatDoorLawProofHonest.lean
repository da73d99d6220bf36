/-
  WHAT IS PROVED: the law ProofHonest returns true for every input, and leaves its arguments as they were; its card, tied to the program's text. Condition: what each theorem names.
-/
import Derived.Test.YtadofbbpfgmclaaGreatDoorS0
import Derived.Test.YtadofbbpfgmclaaGreatDoorZH26
import Derived.ChangeMaps5
import Derived.ChangeOld
import Derived.Lay
import Derived.SevenTiedAt
import Derived.ShutString
import Derived.Test.YtadofbbpfgmclaaGreatDoorCards
import Derived.Test.YtadofbbpfgmclaaGreatDoorTie
set_option linter.unusedVariables false
set_option linter.unusedSimpArgs false
set_option maxRecDepth 100000
set_option maxHeartbeats 4000000
namespace Go.Proofs.YtadofbbpfgmclaaGreatDoor.lawProofHonest
open Go Go.ChangeShapes Go.WideShapes Go.ChangeAt Go.RowKit IdentP EntP ShaA WireT
theorem own : ownKnob Tryz.prog.godebug = none := by kernel_rfl
theorem laidOut : laidOutB Tryz.prog = true := by kernel_rfl
theorem Dr {W : World} (h : laidMetH Tryz.prog Rows.proofHonestRow.laid W) : Ag W ∧ Al W := by
 rw [MakeChecks.laidMetH_plain _ _ _ (by kernel_rfl)] at h
 exact LaidI.varsE_of h
theorem F8 (os : Os) (args : Array Value) : laidMetH Tryz.prog Rows.proofHonestRow.laid ((World.doorLaid Tryz.prog 400 os).forCall (fun _ _ => 0) ⟨#[], args, []⟩).memory :=
 laidMetH_of_parts3 (fuel := 8) (laidMet_of_run' 8 (by kernel_rfl) (by kernel_rfl)) (by kernel_rfl) (by kernel_rfl)
theorem lifted (os : Os) (started : os.Started) (H : Type) (enc : TypeId × Value → H) :
 ReturnsInHanded {} Tryz.checked os 5 .any (fun w args => (Rows.proofHonestSpec.pre enc Tryz.prog Tryz.f5 [] false w args ∧ laidMetH Tryz.prog Rows.proofHonestRow.laid w) ∧ sizedMet enc Tryz.prog Tryz.f5 (OpenSpec.ofChange Rows.proofHonestSpec) false w args)
  (Rows.proofHonestSpec.post enc Tryz.prog Tryz.f5 false true false false) := by
 refine returnsInHanded_of_change_and (C := Tryz.checked) (X := fun w _ => laidMetH Tryz.prog Rows.proofHonestRow.laid w) (fun _ _ _ hh h => h.of_heap hh) own started (by kernel_rfl) Tryz.func5
  (ChangeSpec.witness_shaped (enc := enc) (C := Tryz.checked) (os := os) (X := fun w _ => laidMetH Tryz.prog Rows.proofHonestRow.laid w) false (World.doorLaid Tryz.prog 400 os) #[.agg #[.string ByteArray.empty, .int .i64 0, .int .i64 0], .slice none 0 0, .agg #[.int .i64 0, .string ByteArray.empty, .string ByteArray.empty, .string ByteArray.empty, .string ByteArray.empty]] 8 rfl (World.shaped_of_RefB (by kernel_rfl) (by kernel_rfl)) (by kernel_rfl) (by kernel_rfl) (by kernel_rfl) (F8 os _)) ?_
 intro W base args ds gs before hval0 hW _ hsz0 hL _
 have hval : ∀ (j : Nat) t v, Tryz.f5.params[j]? = some t → args[j]? = some v → Value.okWide Tryz.prog W .any base t v := hval0
 have hsz : (DataW.weightsEach Tryz.prog (Tryz.f5.params.toList ++ Rows.proofHonestSpec.plain.varTypes Tryz.prog) (ds ++ gs)).all (· ≤ reachBytes) = true := hsz0
 have hW' := hW
 obtain ⟨p, q, hA0, hV, rfl, hfz, hnd⟩ := hW
 have hA : DataW.TrodAll enc Tryz.prog W 0 (fun _ => true) true Tryz.f5.params.toList args.toList ds p := hA0
 rw [Tryz.params5] at hA hval hsz
 obtain ⟨v0, vs0, d0, ds0, p0, q0, hargs, rfl, rfl, h0, r0⟩ := trodAll_cons hA
 obtain ⟨v1, vs1, d1, ds1, p1, q1, rfl, rfl, rfl, h1, r1⟩ := trodAll_cons r0
 obtain ⟨v2, vs2, d2, ds2, p2, q2, rfl, rfl, rfl, h2, r2⟩ := trodAll_cons r1
 obtain ⟨rfl, rfl, rfl⟩ := trodAll_nil r2
 obtain rfl : args = #[v0, v1, v2] := by cases args; simp_all
 obtain ⟨rfl, rfl⟩ := trodVars_none hV
 have k0 := h0
 have lt0 : ∀ x ∈ p0, x.block < W.heap.size := by obtain ⟨m, hm⟩ := k0; exact DataW.trod_lt m _ _ _ hm
 have k1 := h1
 have lt1 : ∀ x ∈ p1, x.block < W.heap.size := by obtain ⟨m, hm⟩ := k1; exact DataW.trod_lt m _ _ _ hm
 have k2 := h2
 have lt2 : ∀ x ∈ p2, x.block < W.heap.size := by obtain ⟨m, hm⟩ := k2; exact DataW.trod_lt m _ _ _ hm
 obtain ⟨cs0, rfl, _⟩ := okWide_struct Tryz.underlying40 (hval 0 40 v0 rfl rfl)
 obtain ⟨fuel0, hx0⟩ := h0
 obtain ⟨sd0, kh0, kn0, hcs0, zk0, hd0⟩ := LaidG.key_of hx0
 have hP0 : cs0 = KeyI.kyA sd0 kh0 kn0 := by obtain ⟨l⟩ := cs0; simpa [Value.cells] using hcs0
 subst hP0
 obtain ⟨aa1, ln1, cp1, rfl⟩ := okWide_slice Tryz.underlying41 (hval 1 41 v1 rfl rfl)
 obtain ⟨T1, hT1, _⟩ := open_flat Tryz.underlying41 LaidQ.flatStr (by kernel_rfl) RkW.strN (fun _ => True) LaidQ.str_of h1 ⟨_, _, _, rfl⟩
 obtain ⟨cs2, rfl, _⟩ := okWide_struct Tryz.underlying24 (hval 2 24 v2 rfl rfl)
 obtain ⟨fuel2, hx2⟩ := h2
 obtain ⟨n2, a2, g2, b2, y2, hcs2, zg2, zb2, zy2, hd2⟩ := LaidP.pf_of hx2
 have hP2 : cs2 = pfA n2 a2 g2 b2 y2 := by obtain ⟨l⟩ := cs2; simpa [Value.cells] using hcs2
 simp only at hd2
 subst hd2
 have hSp : Tryz.prog.underlying 24 = some (.struct (Tryz.prog.fieldsOf 24)) := by kernel_rfl
 have hFp : (Tryz.prog.fieldsOf 24).toList.map (·.type) = [3, 9, 9, 9, 9] := by kernel_rfl
 have hall := List.all_eq_true.1 hsz
 simp only [List.cons_append, List.nil_append, DataW.weightsEach, List.mem_append] at hall
 have hz2 : a2.size ≤ 140737488351232 := by
  rw [← AP]
  refine of_decide_eq_true (hall (bl a2).length (.inr (.inr (.inl ?_))))
  simp only [DataW.weights, hSp, hFp, DataW.weightsEach, List.cons_append, List.nil_append, List.mem_cons, true_or, or_true]
 clear hA0 hval0
 refine (PhN.honest_ok W (Dr hL).1 (Dr hL).2 sd0 kh0 kn0 zk0 _ T1 hT1 _ n2 a2 g2 b2 y2 hP2 hz2 zg2 zb2 zy2).mono fun e W' ⟨he, bel⟩ => ?_
 subst he
 exact ⟨_, rfl, _, _, _, [], _, [], hW', trodAll_mk1 (shut_bool Tryz.underlying4 _), (trodAll_cons_mk (Below.trod laidOut (by kernel_rfl) (of_decide_eq_true (by kernel_rfl)) k0 bel lt0) (trodAll_cons_mk (Below.trod laidOut (by kernel_rfl) (of_decide_eq_true (by kernel_rfl)) k1 bel lt1) (trodAll_cons_mk (Below.trod laidOut (by kernel_rfl) (of_decide_eq_true (by kernel_rfl)) k2 bel lt2) trodAll_mk0))), rfl, bel.frame _, fun h => by cases h⟩
theorem over : Rows.ProofHonestSaid :=
 OpenClaim.holds_of_wide 5 Tryz.f5 rfl rfl rfl rfl rfl rfl rfl ⟨rfl, rfl, rfl, rfl, rfl⟩ rfl rfl rfl rfl rfl (by kernel_rfl) Tryz.func5 (by kernel_rfl)
  (of_decide_eq_true (by kernel_rfl)) (by unfold Func.isWrapper; first | (rw [if_pos (by decide +kernel)]; kernel_rfl) | (rw [if_neg (by decide +kernel)]; exact ⟨rfl, rfl⟩))
  (fun os started H enc _ => lifted os started H enc)
theorem proved : Rows.ProofHonestCardSaid :=
 Claim7.holds_tied_plain_at .later [] Rows.proofHonestCard.laidKinds true Rows.proofHonestCard.stood.harness true over (fun _ h => by cases h) (by kernel_rfl) (fun _ h => by cases h) proofHonest_row_tie rfl ⟨rfl, rfl⟩ (by kernel_rfl) rfl
  (fun f fn hf hfn => by
   obtain rfl : f = 5 := Option.some.inj ((show Tryz.prog.funcNamed "palaver/palaverlaw22.ProofHonest" = some 5 by kernel_rfl).symm.trans hf) |>.symm
   obtain rfl : fn = Tryz.f5 := (Option.some.inj (Tryz.func5.symm.trans hfn)).symm
   exact ⟨by kernel_rfl, fun j t ht => by
        rw [Tryz.params5] at ht
        have hm : t ∈ [40, 41, 24] := by simpa using Array.mem_of_getElem? ht
        have hall : ([40, 41, 24].all fun u => !Tryz.prog.wantsStandIn u) = true := by kernel_rfl
        exact (show Tryz.prog.wantsStandIn t = false by simpa using List.all_eq_true.1 hall t hm)⟩)
  (by kernel_rfl)
#print axioms proved
end Go.Proofs.YtadofbbpfgmclaaGreatDoor.lawProofHonest
