/-
  WHAT IS PROVED: in a region that draws its order, and writes at its end, an operation may be taken first for which the writers wait by way of others ('J'). No condition beside what each theorem names.
-/
import Derived.Test.YtadnldnmefhlcaaWr
namespace Go.Proofs.Ytadnldnmefhlcaa.Wr
open Go Go.RowKit Go.Proofs.Ytadnldnmefhlcaa
set_option linter.unusedVariables false

section
variable {P : Program} {ops : Array Oper} {Q : Exit → Act → World → Prop} {md : Region.Mode} {S : World → Prop} {K : List Nat}
theorem wpAnyK_firstJ {J : List Nat} {i : Nat} {oi : Oper} {v : Value} (hi : ops[i]? = some oi) (hsel : ∀ (j : Nat) (o : Oper) cs b, ops[j]? = some o → o.op ≠ .select cs b)
    (hQ : ∀ c a w, Q (.panic c) (a.put oi.dst v) w → Q (.panic c) a w) (hiK : i ∉ K) (hKJ : ∀ k ∈ K, k ∈ J)
    (hK : ∀ k ∈ J, ∃ o, ops[k]? = some o ∧ ∃ e ∈ o.after, Region.binds md e = true ∧ (e.on = i ∨ e.on ∈ J)) :
    ∀ (fuel : Nat) (listed : Array Bool) (a : Act) (w : World),
      (∀ k ∈ J, listed.getD k true = false) →
      (∀ j oj, ops[j]? = some oj → j ≠ i → listed.getD j true = false → (∀ e ∈ oj.after, Region.binds md e = true → e.on ≠ i) → oi.apart ops oj = true) →
      i ∈ Region.ready md ops listed → YieldsIf P ops S oi v a → S w →
      wpAnyK P md ops Q S K fuel (listed.setIfInBounds i true) (a.put oi.dst v) w → wpAnyK P md ops Q S K (fuel + 1) listed a w := by
  intro fuel
  induction fuel with
  | zero =>
    intro listed a w _ _ hr hy hS H
    refine ⟨fun h => (by rw [h] at hr; cases hr), fun j hj => ?_⟩
    by_cases hji : j = i
    · subst hji; exact hy.wpOp hi hS ⟨fun _ => hS, H⟩
    · have := ready_mono hj hji
      rw [H.1] at this
      cases this
  | succ fuel ih =>
    intro listed a w hKl hfree hr hy hS H
    refine ⟨fun h => (by rw [h] at hr; cases hr), fun j hj => ?_⟩
    by_cases hji : j = i
    · subst hji; exact hy.wpOp hi hS ⟨fun _ => hS, H⟩
    · have h1 := H.2 j (ready_mono hj hji)
      obtain ⟨hjun, oj, hoj, hall⟩ := mem_ready.1 hj
      have hun : ∀ k, listed.getD k true = false → listed.getD k false = true → False := fun k h0 h1 => by
        rcases Nat.lt_or_ge k listed.size with h' | h'
        · simp [h'] at h0 h1; rw [h0] at h1; cases h1
        · simp [Array.getElem?_eq_none h'] at h1
      have hnot : ∀ e ∈ oj.after, Region.binds md e = true → e.on ≠ i := fun e he hb heq => hun i (mem_ready.1 hr).1 (by rw [← heq]; exact hall e he hb)
      have hjJ : j ∉ J := fun hj' => by
        obtain ⟨o, ho, e, he, hb, hor⟩ := hK j hj'
        obtain rfl : oj = o := Option.some.inj (hoj.symm.trans ho)
        rcases hor with h | h
        · exact hnot e he hb h
        · exact hun e.on (hKl e.on h) (hall e he hb)
      have hjK : j ∉ K := fun h => hjJ (hKJ j h)
      have h2 := wpOp_putIf hoj (hfree j oj hoj hji hjun hnot) (fun cs b => hsel i oi cs b hi) (fun cs b => hsel j oj cs b hoj) hQ hy h1
      have hfree' : ∀ k ok, ops[k]? = some ok → k ≠ i → (listed.setIfInBounds j true).getD k true = false →
          (∀ e ∈ ok.after, Region.binds md e = true → e.on ≠ i) → oi.apart ops ok = true := fun k ok hk hki hun hno => by
        refine hfree k ok hk hki ?_ hno
        by_cases hjk : j = k
        · subst hjk; exact hjun
        · rw [getD_set_ne true hjk] at hun; exact hun
      have hKi : ∀ k ∈ K, (listed.setIfInBounds i true).getD k true = false := fun k hk => by
        rw [getD_set_ne true (fun e => hiK (by rw [e]; exact hk))]; exact hKl k (hKJ k hk)
      have hKj : ∀ k ∈ J, (listed.setIfInBounds j true).getD k true = false := fun k hk => by
        rw [getD_set_ne true (fun e => hjJ (by rw [e]; exact hk))]; exact hKl k hk
      refine wpOp_mono (fun a' w' h3 => ⟨fun _ => h3.2.1 ⟨hjK, hKi⟩, ih (listed.setIfInBounds j true) a' w' hKj hfree' (ready_mono hr (Ne.symm hji)) h3.1 (h3.2.1 ⟨hjK, hKi⟩) ?_⟩) h2
      rw [Array.setIfInBounds_comm _ _ hji]
      exact h3.2.2


/-- Each one of 'J', among them the writers, waits for number i, or for another one of 'J'; and none has come up. -/
def waitsJ (md : Region.Mode) (ops : Array Oper) (K J : List Nat) (listed : Array Bool) (i : Nat) : Bool :=
  !K.contains i && (K.all (fun k => J.contains k) && J.all fun k => !(listed.getD k true) && match ops[k]? with
    | some o => o.after.any fun e => Region.binds md e && (e.on == i || J.contains e.on)
    | none => false)
/-- Take number i first. -/
theorem wpAnyK_takeJ (J : List Nat) {i : Nat} {oi : Oper} {v : Value} {fuel : Nat} {listed : Array Bool} {a : Act} {w : World} (hi : ops[i]? = some oi)
    (hc : (Region.noSelect ops && (Region.free md ops listed i && ((Region.ready md ops listed).contains i && waitsJ md ops K J listed i))) = true)
    (hQ : ∀ c a w, Q (.panic c) (a.put oi.dst v) w → Q (.panic c) a w) (hy : YieldsIf P ops S oi v a) (hS : S w)
    (h : wpAnyK P md ops Q S K fuel (listed.setIfInBounds i true) (a.put oi.dst v) w) : wpAnyK P md ops Q S K (fuel + 1) listed a w := by
  unfold waitsJ at hc
  simp only [Bool.and_eq_true, Bool.not_eq_true', List.all_eq_true] at hc
  obtain ⟨hs, hf, hr, h1, h2, h3⟩ := hc
  refine wpAnyK_firstJ (J := J) hi (Region.noSelect_spec hs) hQ (by simpa using h1) (fun k hk => by simpa using h2 k hk) (fun k hk => ?_) fuel listed a w (fun k hk => (h3 k hk).1) (Region.free_spec hi hf) (by simpa using hr) hy hS h
  have h4 := (h3 k hk).2
  split at h4
  · rename_i o ho
    refine ⟨o, ho, ?_⟩
    simp only [Array.any_eq_true', Bool.and_eq_true, Bool.or_eq_true, beq_iff_eq, List.contains_iff_mem] at h4
    obtain ⟨e, he, hb, hor⟩ := h4
    exact ⟨e, by simpa using he, hb, hor⟩
  · cases h4
end
end Go.Proofs.Ytadnldnmefhlcaa.Wr
