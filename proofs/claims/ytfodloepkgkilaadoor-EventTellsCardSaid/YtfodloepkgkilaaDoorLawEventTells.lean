/-
  WHAT IS PROVED: the law EventTells returns true for every input, and leaves its arguments as they were; its card, tied to the program's text. Condition: the listed variables read as the text lays them.
-/
import Derived.Test.YtfodloepkgkilaaDoorEventTellsW
import Derived.Test.YtfodloepkgkilaaDoorLaidE
import Derived.Test.YtfodloepkgkilaaDoorTie
import Derived.Test.YtfodloepkgkilaaDoorCards
import Derived.ShutString
import Derived.ChangeMaps5
import Derived.ChangeOld
import Derived.ProofKit
import Derived.Lay
import Derived.SevenTiedAt
namespace Go.Proofs.YtfodloepkgkilaaDoor.lawEventTells
open Go Go.ChangeShapes Go.WideShapes Go.ChangeAt Go.RowKit Go.Proofs.YtfodloepkgkilaaDoor Go.Proofs.YtfodloepkgkilaaDoor.EventP
set_option linter.unusedVariables false

theorem own : ownKnob Tryd.prog.godebug = none := by kernel_rfl
theorem laidOut : laidOutB Tryd.prog = true := by kernel_rfl
theorem flatEvent : flat Tryd.prog 4 36 = some [none, none, some (some .u8), none, none, some (some .i64)] := by kernel_rfl
theorem u8_of {n : Int} (h : (Lit.int .u8 n).wf = true) : 0 ≤ n ∧ n ≤ 255 := by
  simp [Lit.wf, IntKind.min, IntKind.max, IntKind.signed, IntKind.bits] at h
  omega
theorem vars_laid {W : World} (h : laidMetH Tryd.prog Rows.eventTellsRow.laid W) : VarsE W := by
  rw [MakeChecks.laidMetH_plain _ _ _ (by kernel_rfl)] at h
  exact ⟨Laid.varsI_of h.tail.tail.tail, LaidE.words_of h.tail.tail.tail.tail.tail.tail⟩

theorem door_met (os : Os) (args : Array Value) : laidMetH Tryd.prog Rows.eventTellsRow.laid ((World.doorLaid Tryd.prog 400 os).forCall (fun _ _ => 0) ⟨#[], args, []⟩).memory :=
  laidMetH_of_parts3 (fuel := 8) (laidMet_of_run' 8 (by kernel_rfl) (by kernel_rfl)) (by kernel_rfl) (by kernel_rfl)

set_option maxRecDepth 100000 in
theorem lifted (os : Os) (started : os.Started) (H : Type) (enc : TypeId × Value → H) :
    ReturnsInHanded {} Tryd.checked os 8 .any (fun w args => (Rows.eventTellsSpec.pre enc Tryd.prog Tryd.f8 [] false w args ∧ laidMetH Tryd.prog Rows.eventTellsRow.laid w) ∧ sizedMet enc Tryd.prog Tryd.f8 (OpenSpec.ofChange Rows.eventTellsSpec) false w args)
      (Rows.eventTellsSpec.post enc Tryd.prog Tryd.f8 false true false false) := by
  refine returnsInHanded_of_change_and (C := Tryd.checked) (X := fun w _ => laidMetH Tryd.prog Rows.eventTellsRow.laid w) (fun _ _ _ hh h => h.of_heap hh) own started (by kernel_rfl) Tryd.func8
    (ChangeSpec.witness_shaped (enc := enc) (C := Tryd.checked) (os := os) (X := fun w _ => laidMetH Tryd.prog Rows.eventTellsRow.laid w) false (World.doorLaid Tryd.prog 400 os) #[.agg #[.string ByteArray.empty, .string ByteArray.empty, .int .u8 0, .string ByteArray.empty, .string ByteArray.empty, .int .i64 0], .string ByteArray.empty, .int .u8 0] 8 rfl (World.shaped_of_RefB (by kernel_rfl) (by kernel_rfl)) (by kernel_rfl) (by kernel_rfl) (by kernel_rfl) (door_met os _)) ?_
  intro W base args ds gs before hval0 hW _ hsz0 hL _
  have hval : ∀ (j : Nat) t v, Tryd.f8.params[j]? = some t → args[j]? = some v → Value.okWide Tryd.prog W .any base t v := hval0
  have hsz : (DataW.weightsEach Tryd.prog (Tryd.f8.params.toList ++ Rows.eventTellsSpec.plain.varTypes Tryd.prog) (ds ++ gs)).all (· ≤ reachBytes) = true := hsz0
  have hW' := hW
  obtain ⟨p, q, hA0, hV, rfl, hfz, hnd⟩ := hW
  have hA : DataW.TrodAll enc Tryd.prog W 0 (fun _ => true) true Tryd.f8.params.toList args.toList ds p := hA0
  rw [Tryd.params8] at hA hval hsz
  obtain ⟨v0, vs0, d0, ds0, p0, q0, hargs, rfl, rfl, h0, r0⟩ := trodAll_cons hA
  obtain ⟨v1, vs1, d1, ds1, p1, q1, rfl, rfl, rfl, h1, r1⟩ := trodAll_cons r0
  obtain ⟨v2, vs2, d2, ds2, p2, q2, rfl, rfl, rfl, h2, r2⟩ := trodAll_cons r1
  obtain ⟨rfl, rfl, rfl⟩ := trodAll_nil r2
  obtain rfl : args = #[v0, v1, v2] := by cases args; simp_all
  obtain ⟨rfl, rfl⟩ := trodVars_none hV
  have k1 := h1
  have lt1 : ∀ x ∈ p1, x.block < W.heap.size := by obtain ⟨m, hm⟩ := k1; exact DataW.trod_lt m _ _ _ hm
  have k2 := h2
  have lt2 : ∀ x ∈ p2, x.block < W.heap.size := by obtain ⟨m, hm⟩ := k2; exact DataW.trod_lt m _ _ _ hm
  obtain ⟨kk, rfl, rfl, rfl, hkk⟩ := open_int Tryd.underlying34 (hval 2 34 v2 rfl rfl) h2
  obtain ⟨kk0, kk1⟩ := u8_of hkk
  obtain ⟨text, rfl, rfl, rfl, hts⟩ := Go.ChangeMaps.open_string Tryd.underlying9 (hval 1 9 v1 rfl rfl) h1
  obtain ⟨cs, rfl, _⟩ := okWide_struct Tryd.underlying36 (hval 0 36 v0 rfl rfl)
  have k0 := h0
  have lt0 : ∀ x ∈ p0, x.block < W.heap.size := by obtain ⟨m, hm⟩ := k0; exact DataW.trod_lt m _ _ _ hm
  obtain ⟨fuel, hx⟩ := h0
  obtain ⟨r, s, k, ky, b, n, hcs, hd⟩ := LaidE.event_of hx
  obtain rfl : cs = #[.string r, .string s, .int .u8 k, .string ky, .string b, .int .i64 n] := by
    obtain ⟨l⟩ := cs
    simpa [Value.cells] using hcs
  simp only at hd
  subst hd
  obtain ⟨_, hv2, kn, hkn, hkw⟩ := (fits_of_trod 4 _ _ flatEvent fuel _ _ hx).2 2 _ rfl
  obtain ⟨k0', k1'⟩ : 0 ≤ k ∧ k ≤ 255 := by
    have hcs2 : (#[Value.string r, .string s, .int .u8 k, .string ky, .string b, .int .i64 n] : Array Value).toList[2]? = some (.int .u8 k) := rfl
    rw [hkn] at hv2
    simp [Value.cells] at hv2
    subst hv2
    exact u8_of hkw
  have hS : Tryd.prog.underlying 36 = some (.struct (Tryd.prog.fieldsOf 36)) := by kernel_rfl
  have hF : (Tryd.prog.fieldsOf 36).toList.map (·.type) = [9, 9, 34, 9, 9, 2] := by kernel_rfl
  have hall := List.all_eq_true.1 hsz
  simp only [List.cons_append, List.nil_append, DataW.weightsEach, DataW.weights, hS, hF, List.append_nil, List.mem_append, List.mem_cons, List.not_mem_nil, or_false, false_or] at hall
  have hr : r.size ≤ 140737488351232 := by rw [← bl_length]; exact of_decide_eq_true (hall (bl r).length (by simp))
  have hs : s.size ≤ 140737488351232 := by rw [← bl_length]; exact of_decide_eq_true (hall (bl s).length (by simp))
  have hky : ky.size ≤ 140737488351232 := by rw [← bl_length]; exact of_decide_eq_true (hall (bl ky).length (by simp))
  have hb : b.size ≤ maxLen := by
    have : b.size ≤ 140737488351232 := by rw [← bl_length]; exact of_decide_eq_true (hall (bl b).length (by simp))
    unfold maxLen
    omega
  have htx : text.size ≤ 140737488351232 := by rw [← bl_length]; exact of_decide_eq_true (hall (bl text).length (by simp [bl]))
  clear hA0 hval0
  refine (EventTellsW.tells_ok W (vars_laid hL) r s k ky b n text kk k0' k1' kk0 kk1 hr hs hky hb htx).mono fun e W' ⟨he, bel⟩ => ?_
  subst he
  exact ⟨_, rfl, _, _, _, [], _, [], hW', trodAll_mk1 (shut_bool Tryd.underlying4 _), (trodAll_cons_mk (Below.trod laidOut (by kernel_rfl) (of_decide_eq_true (by kernel_rfl)) k0 bel lt0) (trodAll_cons_mk (Below.trod laidOut (by kernel_rfl) (of_decide_eq_true (by kernel_rfl)) k1 bel lt1) (trodAll_cons_mk (Below.trod laidOut (by kernel_rfl) (of_decide_eq_true (by kernel_rfl)) k2 bel lt2) trodAll_mk0))), rfl, bel.frame _, fun h => by cases h⟩

theorem over : Rows.EventTellsSaid :=
  OpenClaim.holds_of_wide 8 Tryd.f8 rfl rfl rfl rfl rfl rfl rfl ⟨rfl, rfl, rfl, rfl, rfl⟩ rfl rfl rfl rfl rfl (by kernel_rfl) Tryd.func8 (by kernel_rfl)
    (of_decide_eq_true (by kernel_rfl)) (by unfold Func.isWrapper; first | (rw [if_pos (by decide +kernel)]; kernel_rfl) | (rw [if_neg (by decide +kernel)]; exact ⟨rfl, rfl⟩))
    (fun os started H enc _ => lifted os started H enc)

theorem proved : Rows.EventTellsCardSaid :=
  Claim7.holds_tied_plain_at .later [] Rows.eventTellsCard.laidKinds true Rows.eventTellsCard.stood.harness true over (fun _ h => by cases h) (by kernel_rfl) (fun _ h => by cases h) eventTells_row_tie rfl ⟨rfl, rfl⟩ (by kernel_rfl) rfl
    (fun f fn hf hfn => by
      obtain rfl : f = 8 := Option.some.inj ((show Tryd.prog.funcNamed "palaver/palaverlaw12.EventTells" = some 8 by kernel_rfl).symm.trans hf) |>.symm
      obtain rfl : fn = Tryd.f8 := (Option.some.inj (Tryd.func8.symm.trans hfn)).symm
      exact ⟨by kernel_rfl, fun j t ht => by
        rw [Tryd.params8] at ht
        have hm : t ∈ [36, 9, 34] := by simpa using Array.mem_of_getElem? ht
        have hall : ([36, 9, 34].all fun u => !Tryd.prog.wantsStandIn u) = true := by kernel_rfl
        exact (show Tryd.prog.wantsStandIn t = false by simpa using List.all_eq_true.1 hall t hm)⟩)
    (by kernel_rfl)
#print axioms proved
end Go.Proofs.YtfodloepkgkilaaDoor.lawEventTells
