/-
  WHAT IS PROVED: the law PostDue returns true for every input, and leaves its arguments as they were. No condition.
-/
import Derived.Test.YtadnldnmefhlcaaPoV
import Derived.Test.YtadnldnmefhlcaaArgs
import Derived.ShutString
import Derived.ChangeOld
namespace Go.Proofs.Ytadnldnmefhlcaa.lawPostDue
open Go Go.ChangeShapes Go.WideShapes Go.ChangeAt Go.RowKit Go.Proofs.Ytadnldnmefhlcaa
set_option linter.unusedVariables false
set_option linter.unusedSimpArgs false

theorem own : ownKnob Try.prog.godebug = none := by kernel_rfl
theorem laidOut : laidOutB Try.prog = true := by kernel_rfl
theorem flatB : flat Try.prog 4 5 = some [some (some .u8)] := by kernel_rfl
theorem u8_of {n : Int} (h : (Lit.int .u8 n).wf = true) : 0 ≤ n ∧ n ≤ 255 := by
  simp [Lit.wf, IntKind.min, IntKind.max, IntKind.signed, IntKind.bits] at h
  omega
theorem flat_map : ∀ l : List Int, (l.flatMap fun x => [Value.int .u8 x]) = l.map (Value.int .u8)
  | [] => rfl
  | x :: l => by rw [List.flatMap_cons, flat_map l]; rfl
theorem step_of (cs : List Value) (h : Fits [some (some .u8)] cs) : ∃ x : Int, cs = [.int .u8 x] ∧ (0 ≤ x ∧ x ≤ 255) := by
  obtain ⟨hl, hc⟩ := h
  match cs, hl with
  | [v0], _ =>
    obtain ⟨_, h0, n0, rfl, hw⟩ := hc 0 _ rfl
    simp at h0
    subst h0
    exact ⟨n0, rfl, u8_of hw⟩

set_option maxRecDepth 100000 in
theorem lifted (os : Os) (started : os.Started) (H : Type) (enc : TypeId × Value → H) :
    ReturnsInHanded {} Try.checked os 4 .any (Rows.postDueSpec.pre6 enc Try.prog Try.f4 Rows.postDueRow.domain false) (Rows.postDueSpec.post enc Try.prog Try.f4 false true false false) := by
  refine returnsInHanded_of_change (C := Try.checked) own started (by kernel_rfl) Try.func4
    (ChangeSpec.witness6 (enc := enc) (C := Try.checked) false ⟨#[], #[.int .u8 0, .slice none 0 0], []⟩ 8 (by kernel_rfl) (by kernel_rfl) (by kernel_rfl) (by kernel_rfl)) ?_
  intro W base args ds gs before hval0 hW hcnd _
  have hval : ∀ (j : Nat) t v, Try.f4.params[j]? = some t → args[j]? = some v → Value.okWide Try.prog W .any base t v := hval0
  have hW' := hW
  obtain ⟨p, q, hA0, hV, rfl, hfz, hnd⟩ := hW
  have hA : DataW.TrodAll enc Try.prog W 0 (fun _ => true) true Try.f4.params.toList args.toList ds p := hA0
  rw [Try.params4] at hA hval
  obtain ⟨v0, vs0, d0, ds0, p0, q0, hargs, rfl, rfl, h0, r0⟩ := trodAll_cons hA
  obtain ⟨v1, vs1, d1, ds1, p1, q1, rfl, rfl, rfl, h1, r1⟩ := trodAll_cons r0
  obtain ⟨rfl, rfl, rfl⟩ := trodAll_nil r1
  obtain rfl : args = #[v0, v1] := by cases args; simp_all
  obtain ⟨rfl, rfl⟩ := trodVars_none hV
  obtain ⟨a0, rfl, rfl, rfl, w0⟩ := open_int Try.underlying5 (hval 0 5 v0 rfl rfl) h0
  obtain ⟨b1, len1, cap1, rfl⟩ := okWide_slice Try.underlying50 (hval 1 50 v1 rfl rfl)
  have k1 := h1
  have lt1 : ∀ x ∈ p1, x.block < W.heap.size := by obtain ⟨m, hm⟩ := k1; exact DataW.trod_lt m _ _ _ hm
  obtain ⟨steps, hsteps, hbd⟩ := open_flat Try.underlying50 flatB (by kernel_rfl) (fun x => [Value.int .u8 x]) (fun x => 0 ≤ x ∧ x ≤ 255) step_of h1 ⟨b1, len1, cap1, rfl⟩
  rw [show (steps.flatMap fun x => [Value.int .u8 x]) = steps.map (Value.int .u8) from flat_map steps] at hsteps
  clear hA0 hval0
  have hw0 := u8_of w0
  refine (PoV.dues_ok W a0 _ steps hw0.1 hw0.2 hsteps hbd).mono fun e W' ⟨he, bel⟩ => ?_
  subst he
  exact ⟨_, rfl, _, _, _, [], _, [], hW', trodAll_mk1 (shut_bool Try.underlying4 _), (trodAll_cons_mk (shut_int Try.underlying5 w0) (trodAll_cons_mk (Below.trod laidOut (by kernel_rfl) (of_decide_eq_true (by kernel_rfl)) k1 bel lt1) trodAll_mk0)), rfl, bel.frame _, fun h => by cases h⟩

theorem over : Rows.postDueRow.holds Try.pinned (OpenSpec.ofChange Rows.postDueSpec) :=
  OpenClaim.holds_of_wide 4 Try.f4 rfl rfl rfl rfl rfl rfl rfl ⟨rfl, rfl, rfl, rfl, rfl⟩ rfl rfl rfl rfl rfl (by kernel_rfl) Try.func4 (by kernel_rfl)
    (of_decide_eq_true (by kernel_rfl)) (by unfold Func.isWrapper; first | (rw [if_pos (by decide +kernel)]; kernel_rfl) | (rw [if_neg (by decide +kernel)]; exact ⟨rfl, rfl⟩))
    (fun os started H enc _ => lifted os started H enc)

theorem proved : Rows.PostDueSaid := over
#print axioms proved
end Go.Proofs.Ytadnldnmefhlcaa.lawPostDue
