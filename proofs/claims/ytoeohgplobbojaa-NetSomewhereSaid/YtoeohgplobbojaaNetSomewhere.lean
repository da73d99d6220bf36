/-
  WHAT IS PROVED: the law NetSomewhere returns true for every input, and leaves its arguments as they were. No condition.
-/
import Derived.Test.YtoeohgplobbojaaNetE
import Derived.Test.YtoeohgplobbojaaArgs
import Derived.ShutString
import Derived.ChangeOld
namespace Go.Proofs.Ytoeohgplobbojaa.lawNetSomewhere
open Go Go.ChangeShapes Go.WideShapes Go.ChangeAt Go.RowKit Go.Proofs.Ytoeohgplobbojaa
set_option linter.unusedVariables false

theorem own : ownKnob Try.prog.godebug = none := by kernel_rfl
theorem laidOut : laidOutB Try.prog = true := by kernel_rfl
theorem flatAct : flat Try.prog 4 34 = some [some (some .i64), some (some .i64), none] := by kernel_rfl

theorem act_of (cs : List Value) (h : Fits [some (some .i64), some (some .i64), none] cs) : ∃ x : Int × Int × ByteArray, cs = NetD.actV x ∧ True := by
  obtain ⟨hl, hc⟩ := h
  match cs, hl with
  | [v0, v1, v2], _ =>
    obtain ⟨_, h0, n0, rfl, _⟩ := hc 0 _ rfl
    obtain ⟨_, h1, n1, rfl, _⟩ := hc 1 _ rfl
    obtain ⟨_, h2, s, rfl, _⟩ := hc 2 _ rfl
    simp at h0 h1 h2
    subst h0 h1 h2
    exact ⟨(n0, n1, s), rfl, trivial⟩

set_option maxRecDepth 100000 in
theorem lifted (os : Os) (started : os.Started) (H : Type) (enc : TypeId × Value → H) :
    ReturnsInHanded {} Try.checked os 4 .any (Rows.netSomewhereSpec.pre6 enc Try.prog Try.f4 Rows.netSomewhereRow.domain false) (Rows.netSomewhereSpec.post enc Try.prog Try.f4 false true false false) := by
  refine returnsInHanded_of_change (C := Try.checked) own started (by kernel_rfl) Try.func4
    (ChangeSpec.witness6 (enc := enc) (C := Try.checked) false ⟨#[], #[.int .i64 0, .slice none 0 0], []⟩ 8 (by kernel_rfl) (by kernel_rfl) (by kernel_rfl) (by kernel_rfl)) ?_
  intro W base args ds gs before hval0 hW hcnd _
  have hval : ∀ (j : Nat) t v, Try.f4.params[j]? = some t → args[j]? = some v → Value.okWide Try.prog W .any base t v := hval0
  have hW' := hW
  obtain ⟨p, q, hA0, hV, rfl, hfz, hnd⟩ := hW
  have hA : DataW.TrodAll enc Try.prog W 0 (fun _ => true) true Try.f4.params.toList args.toList ds p := hA0
  rw [Try.params4] at hA hval
  obtain ⟨v0, vs0, d0, ds0, p0, q0, hargs, rfl, rfl, h0, r0⟩ := trodAll_cons hA
  obtain ⟨v1, vs1, d1, ds1, p1, q1, rfl, rfl, rfl, h1, r1⟩ := trodAll_cons r0
  obtain ⟨rfl, rfl, rfl⟩ := trodAll_nil r1
  obtain rfl : args = #[v0, v1] := by cases args; simp_all
  obtain ⟨rfl, rfl⟩ := trodVars_none hV
  obtain ⟨a0, rfl, rfl, rfl, w0⟩ := open_int Try.underlying3 (hval 0 3 v0 rfl rfl) h0
  obtain ⟨b1, len1, cap1, rfl⟩ := okWide_slice Try.underlying22 (hval 1 22 v1 rfl rfl)
  have k1 := h1
  have lt1 : ∀ x ∈ p1, x.block < W.heap.size := by obtain ⟨m, hm⟩ := k1; exact DataW.trod_lt m _ _ _ hm
  obtain ⟨acts, hacts, _⟩ := open_flat Try.underlying22 flatAct (by kernel_rfl) NetD.actV (fun _ => True) act_of h1 ⟨b1, len1, cap1, rfl⟩
  clear hA0 hval0
  refine (NetE.somewhere W a0 _ acts hacts).mono fun e W' ⟨he, bel⟩ => ?_
  subst he
  exact ⟨_, rfl, _, _, _, [], _, [], hW', trodAll_mk1 (shut_bool Try.underlying4 _), (trodAll_cons_mk (shut_int Try.underlying3 w0) (trodAll_cons_mk (Below.trod laidOut (by kernel_rfl) (of_decide_eq_true (by kernel_rfl)) k1 bel lt1) trodAll_mk0)), rfl, bel.frame _, fun h => by cases h⟩

theorem over : Rows.netSomewhereRow.holds Try.pinned (OpenSpec.ofChange Rows.netSomewhereSpec) :=
  OpenClaim.holds_of_wide 4 Try.f4 rfl rfl rfl rfl rfl rfl rfl ⟨rfl, rfl, rfl, rfl, rfl⟩ rfl rfl rfl rfl rfl (by kernel_rfl) Try.func4 (by kernel_rfl)
    (of_decide_eq_true (by kernel_rfl)) (by unfold Func.isWrapper; first | (rw [if_pos (by decide +kernel)]; kernel_rfl) | (rw [if_neg (by decide +kernel)]; exact ⟨rfl, rfl⟩))
    (fun os started H enc _ => lifted os started H enc)

theorem proved : Rows.NetSomewhereSaid := over
#print axioms proved
end Go.Proofs.Ytoeohgplobbojaa.lawNetSomewhere
