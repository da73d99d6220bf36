/-
  WHAT IS PROVED: the law RedactApart returns true for every input, and leaves its arguments as they were; its card, tied to the program's text. Condition: the listed variables read as the text lays them.
-/
import Derived.Test.YtfodloepkgkilaaDoorRedApartW
import Derived.Test.YtfodloepkgkilaaDoorLaidV
import Derived.Test.YtfodloepkgkilaaDoorLaidH
import Derived.Test.YtfodloepkgkilaaDoorArgs
import Derived.Test.YtfodloepkgkilaaDoorTie
import Derived.Test.YtfodloepkgkilaaDoorCards
import Derived.ShutString
import Derived.ChangeMaps5
import Derived.ChangeOld
import Derived.ProofKit
import Derived.Lay
import Derived.SevenTiedAt
namespace Go.Proofs.YtfodloepkgkilaaDoor.lawRedactApart
open Go Go.ChangeShapes Go.WideShapes Go.ChangeAt Go.RowKit Go.Proofs.YtfodloepkgkilaaDoor Go.Proofs.YtfodloepkgkilaaDoor.EventP
set_option linter.unusedVariables false
set_option linter.unusedSimpArgs false

theorem own : ownKnob Tryd.prog.godebug = none := by kernel_rfl
theorem laidOut : laidOutB Tryd.prog = true := by kernel_rfl
theorem flatEvent : flat Tryd.prog 4 36 = some [none, none, some (some .u8), none, none, some (some .i64)] := by kernel_rfl
theorem u8_of {n : Int} (h : (Lit.int .u8 n).wf = true) : 0 ≤ n ∧ n ≤ 255 := by
  simp [Lit.wf, IntKind.min, IntKind.max, IntKind.signed, IntKind.bits] at h
  omega
theorem vars_laid {W : World} (h : laidMetH Tryd.prog Rows.redactApartRow.laid W) : RedA.VarsR W := by
  rw [MakeChecks.laidMetH_plain _ _ _ (by kernel_rfl)] at h
  exact LaidH.varsR_of h

theorem door_met (os : Os) (args : Array Value) : laidMetH Tryd.prog Rows.redactApartRow.laid ((World.doorLaid Tryd.prog 400 os).forCall (fun _ _ => 0) ⟨#[], args, []⟩).memory :=
  laidMetH_of_parts3 (fuel := 8) (laidMet_of_run' 8 (by kernel_rfl) (by kernel_rfl)) (by kernel_rfl) (by kernel_rfl)

set_option maxRecDepth 100000 in
theorem lifted (os : Os) (started : os.Started) (H : Type) (enc : TypeId × Value → H) :
    ReturnsInHanded {} Tryd.checked os 7 .any (fun w args => (Rows.redactApartSpec.pre enc Tryd.prog Tryd.f7 [] false w args ∧ laidMetH Tryd.prog Rows.redactApartRow.laid w) ∧ sizedMet enc Tryd.prog Tryd.f7 (OpenSpec.ofChange Rows.redactApartSpec) false w args)
      (Rows.redactApartSpec.post enc Tryd.prog Tryd.f7 false true false false) := by
  refine returnsInHanded_of_change_and (C := Tryd.checked) (X := fun w _ => laidMetH Tryd.prog Rows.redactApartRow.laid w) (fun _ _ _ hh h => h.of_heap hh) own started (by kernel_rfl) Tryd.func7
    (ChangeSpec.witness_shaped (enc := enc) (C := Tryd.checked) (os := os) (X := fun w _ => laidMetH Tryd.prog Rows.redactApartRow.laid w) false (World.doorLaid Tryd.prog 400 os) #[.agg #[.string ByteArray.empty, .string ByteArray.empty, .int .u8 0, .string ByteArray.empty, .string ByteArray.empty, .int .i64 0], .agg #[.string ByteArray.empty, .string ByteArray.empty, .int .u8 0, .string ByteArray.empty, .string ByteArray.empty, .int .i64 0]] 8 rfl (World.shaped_of_RefB (by kernel_rfl) (by kernel_rfl)) (by kernel_rfl) (by kernel_rfl) (by kernel_rfl) (door_met os _)) ?_
  intro W base args ds gs before hval0 hW _ hsz0 hL _
  have hval : ∀ (j : Nat) t v, Tryd.f7.params[j]? = some t → args[j]? = some v → Value.okWide Tryd.prog W .any base t v := hval0
  have hsz : (DataW.weightsEach Tryd.prog (Tryd.f7.params.toList ++ Rows.redactApartSpec.plain.varTypes Tryd.prog) (ds ++ gs)).all (· ≤ reachBytes) = true := hsz0
  have hW' := hW
  obtain ⟨p, q, hA0, hV, rfl, hfz, hnd⟩ := hW
  have hA : DataW.TrodAll enc Tryd.prog W 0 (fun _ => true) true Tryd.f7.params.toList args.toList ds p := hA0
  rw [Tryd.params7] at hA hval hsz
  obtain ⟨v0, vs0, d0, ds0, p0, q0, hargs, rfl, rfl, h0, r0⟩ := trodAll_cons hA
  obtain ⟨v1, vs1, d1, ds1, p1, q1, rfl, rfl, rfl, h1, r1⟩ := trodAll_cons r0
  obtain ⟨rfl, rfl, rfl⟩ := trodAll_nil r1
  obtain rfl : args = #[v0, v1] := by cases args; simp_all
  obtain ⟨rfl, rfl⟩ := trodVars_none hV
  have k0 := h0
  have lt0 : ∀ x ∈ p0, x.block < W.heap.size := by obtain ⟨m, hm⟩ := k0; exact DataW.trod_lt m _ _ _ hm
  have k1 := h1
  have lt1 : ∀ x ∈ p1, x.block < W.heap.size := by obtain ⟨m, hm⟩ := k1; exact DataW.trod_lt m _ _ _ hm
  obtain ⟨cs1, rfl, _⟩ := okWide_struct Tryd.underlying36 (hval 1 36 v1 rfl rfl)
  obtain ⟨fuel1, hx1⟩ := h1
  obtain ⟨er1, es1, ek1, ky1, eb1, en1, hcs1, hd1⟩ := LaidE.event_of hx1
  obtain rfl : cs1 = #[.string er1, .string es1, .int .u8 ek1, .string ky1, .string eb1, .int .i64 en1] := by
    obtain ⟨l⟩ := cs1
    simpa [Value.cells] using hcs1
  simp only at hd1
  subst hd1
  obtain ⟨e01, e11⟩ : 0 ≤ ek1 ∧ ek1 ≤ 255 := by
    obtain ⟨_, hv2, kn, hkn, hkw⟩ := (fits_of_trod 4 _ _ flatEvent fuel1 _ _ hx1).2 2 _ rfl
    have hcs2 : (#[Value.string er1, .string es1, .int .u8 ek1, .string ky1, .string eb1, .int .i64 en1] : Array Value).toList[2]? = some (.int .u8 ek1) := rfl
    rw [hkn] at hv2
    simp [Value.cells] at hv2
    subst hv2
    exact u8_of hkw
  obtain ⟨cs0, rfl, _⟩ := okWide_struct Tryd.underlying36 (hval 0 36 v0 rfl rfl)
  obtain ⟨fuel0, hx0⟩ := h0
  obtain ⟨er0, es0, ek0, ky0, eb0, en0, hcs0, hd0⟩ := LaidE.event_of hx0
  obtain rfl : cs0 = #[.string er0, .string es0, .int .u8 ek0, .string ky0, .string eb0, .int .i64 en0] := by
    obtain ⟨l⟩ := cs0
    simpa [Value.cells] using hcs0
  simp only at hd0
  subst hd0
  obtain ⟨e00, e10⟩ : 0 ≤ ek0 ∧ ek0 ≤ 255 := by
    obtain ⟨_, hv2, kn, hkn, hkw⟩ := (fits_of_trod 4 _ _ flatEvent fuel0 _ _ hx0).2 2 _ rfl
    have hcs2 : (#[Value.string er0, .string es0, .int .u8 ek0, .string ky0, .string eb0, .int .i64 en0] : Array Value).toList[2]? = some (.int .u8 ek0) := rfl
    rw [hkn] at hv2
    simp [Value.cells] at hv2
    subst hv2
    exact u8_of hkw
  have hS : Tryd.prog.underlying 36 = some (.struct (Tryd.prog.fieldsOf 36)) := by kernel_rfl
  have hF : (Tryd.prog.fieldsOf 36).toList.map (·.type) = [9, 9, 34, 9, 9, 2] := by kernel_rfl
  have hall := List.all_eq_true.1 hsz
  simp only [List.cons_append, List.nil_append, DataW.weightsEach, DataW.weights, hS, hF, List.append_nil, List.mem_append, List.mem_cons, List.not_mem_nil, or_false, false_or] at hall
  have hz_er0 : er0.size ≤ 140737488351232 := by rw [← bl_length]; exact of_decide_eq_true (hall (bl er0).length (by simp))
  have hz_es0 : es0.size ≤ 140737488351232 := by rw [← bl_length]; exact of_decide_eq_true (hall (bl es0).length (by simp))
  have hz_ky0 : ky0.size ≤ 140737488351232 := by rw [← bl_length]; exact of_decide_eq_true (hall (bl ky0).length (by simp))
  have hz_eb0 : eb0.size ≤ 140737488351232 := by rw [← bl_length]; exact of_decide_eq_true (hall (bl eb0).length (by simp))
  have hm_eb0 : eb0.size ≤ maxLen := by unfold maxLen; omega
  have hz_er1 : er1.size ≤ 140737488351232 := by rw [← bl_length]; exact of_decide_eq_true (hall (bl er1).length (by simp))
  have hz_es1 : es1.size ≤ 140737488351232 := by rw [← bl_length]; exact of_decide_eq_true (hall (bl es1).length (by simp))
  have hz_ky1 : ky1.size ≤ 140737488351232 := by rw [← bl_length]; exact of_decide_eq_true (hall (bl ky1).length (by simp))
  have hz_eb1 : eb1.size ≤ 140737488351232 := by rw [← bl_length]; exact of_decide_eq_true (hall (bl eb1).length (by simp))
  have hm_eb1 : eb1.size ≤ maxLen := by unfold maxLen; omega
  clear hA0 hval0
  refine (RedApartW.apart_ok W (vars_laid hL) er0 es0 ek0 ky0 eb0 en0 er1 es1 ek1 ky1 eb1 en1 e00 e10 hz_er0 hz_es0 hz_ky0 hm_eb0 e01 e11 hz_er1 hz_es1 hz_ky1 hm_eb1).mono fun e W' ⟨he, bel⟩ => ?_
  subst he
  exact ⟨_, rfl, _, _, _, [], _, [], hW', trodAll_mk1 (shut_bool Tryd.underlying4 _), (trodAll_cons_mk (Below.trod laidOut (by kernel_rfl) (of_decide_eq_true (by kernel_rfl)) k0 bel lt0) (trodAll_cons_mk (Below.trod laidOut (by kernel_rfl) (of_decide_eq_true (by kernel_rfl)) k1 bel lt1) trodAll_mk0)), rfl, bel.frame _, fun h => by cases h⟩

theorem over : Rows.RedactApartSaid :=
  OpenClaim.holds_of_wide 7 Tryd.f7 rfl rfl rfl rfl rfl rfl rfl ⟨rfl, rfl, rfl, rfl, rfl⟩ rfl rfl rfl rfl rfl (by kernel_rfl) Tryd.func7 (by kernel_rfl)
    (of_decide_eq_true (by kernel_rfl)) (by unfold Func.isWrapper; first | (rw [if_pos (by decide +kernel)]; kernel_rfl) | (rw [if_neg (by decide +kernel)]; exact ⟨rfl, rfl⟩))
    (fun os started H enc _ => lifted os started H enc)

theorem proved : Rows.RedactApartCardSaid :=
  Claim7.holds_tied_plain_at .later [] Rows.redactApartCard.laidKinds true Rows.redactApartCard.stood.harness true over (fun _ h => by cases h) (by kernel_rfl) (fun _ h => by cases h) redactApart_row_tie rfl ⟨rfl, rfl⟩ (by kernel_rfl) rfl
    (fun f fn hf hfn => by
      obtain rfl : f = 7 := Option.some.inj ((show Tryd.prog.funcNamed "palaver/palaverlaw13.RedactApart" = some 7 by kernel_rfl).symm.trans hf) |>.symm
      obtain rfl : fn = Tryd.f7 := (Option.some.inj (Tryd.func7.symm.trans hfn)).symm
      exact ⟨by kernel_rfl, fun j t ht => by
        rw [Tryd.params7] at ht
        have hm : t ∈ [36, 36] := by simpa using Array.mem_of_getElem? ht
        have hall : ([36, 36].all fun u => !Tryd.prog.wantsStandIn u) = true := by kernel_rfl
        exact (show Tryd.prog.wantsStandIn t = false by simpa using List.all_eq_true.1 hall t hm)⟩)
    (by kernel_rfl)
#print axioms proved
end Go.Proofs.YtfodloepkgkilaaDoor.lawRedactApart
