/-
  WHAT IS PROVED: a law over whatever program: a region that draws its order, each operation of which yields one value in whatever world meets S, and leaves such a world, is carried out as in any one order. No condition beside those that each law names.
-/
import Derived.Test.YtfodloepkgkilaaDoorSteps
namespace Go.Proofs.YtfodloepkgkilaaDoor.Uniform
open Go Go.RowKit Go.Proofs.YtfodloepkgkilaaDoor
set_option linter.unusedVariables false
set_option linter.unusedSimpArgs false

section
variable {P : Program} {ops : Array Oper} {S : World → Prop} {md : Region.Mode} {Q : Exit → Act → World → Prop}

/-- It yields v, and leaves a world that meets S. -/
def UStep (P : Program) (S : World → Prop) (o : Oper) (v : Value) (a : Act) (w : World) : Prop :=
  match (execOp a.eval o).run P w with
  | .ok (.value u) w' => u = v ∧ S w'
  | .ok .skip w' => undef = v ∧ S w'
  | .ok (.enter f args) w' => Calls P f args w' fun e w'' => e = .returned v ∧ S w''
  | _ => False
theorem UStep.value {o : Oper} {v : Value} {a : Act} {w w' : World} (h : (execOp a.eval o).run P w = .ok (.value v) w') (hS : S w') : UStep P S o v a w := by
  unfold UStep
  rw [h]
  exact ⟨rfl, hS⟩
theorem UStep.skip {o : Oper} {a : Act} {w w' : World} (h : (execOp a.eval o).run P w = .ok .skip w') (hS : S w') : UStep P S o undef a w := by
  unfold UStep
  rw [h]
  exact ⟨rfl, hS⟩
theorem UStep.call {o : Oper} {v : Value} {a : Act} {w w' : World} {f : FuncId} {args : Array Value} (h : (execOp a.eval o).run P w = .ok (.enter f args) w') (hc : Calls P f args w' fun e w'' => e = .returned v ∧ S w'') : UStep P S o v a w := by
  unfold UStep
  rw [h]
  exact hc

def Uni (P : Program) (ops : Array Oper) (S : World → Prop) (o : Oper) (v : Value) (a : Act) : Prop :=
  (Region.wanted o (yielded ops a.tmps) = true ∧ ∀ w, S w → UStep P S o v a w) ∨
  (Region.wanted o (yielded ops a.tmps) = false ∧ v = undef)

theorem Uni.of_same {o : Oper} {v : Value} {a a' : Act} (hy : Uni P ops S o v a) (he : execOp a'.eval o = execOp a.eval o)
    (hw : Region.wanted o (yielded ops a'.tmps) = Region.wanted o (yielded ops a.tmps)) : Uni P ops S o v a' := by
  unfold Uni UStep at *
  rw [he, hw]
  exact hy

theorem Uni.wpOp {i : Nat} {o : Oper} {v : Value} {a : Act} (hi : ops[i]? = some o) (hy : Uni P ops S o v a)
    {K : Act → World → Prop} {w : World} (hS : S w) (h : ∀ w', S w' → K (a.put o.dst v) w') : wpOp P ops Q i K a w := by
  unfold Go.wpOp
  simp only [hi]
  rcases hy with ⟨hw, hv⟩ | ⟨hw, rfl⟩
  · simp only [hw, if_true]
    refine .inl ?_
    have := hv w hS
    unfold UStep at this
    unfold Oper.wp
    generalize (execOp a.eval o).run P w = r at this ⊢
    cases r with
    | ok n w' =>
      cases n with
      | value u =>
        obtain ⟨rfl, h'⟩ := this
        exact h w' h'
      | skip =>
        obtain ⟨rfl, h'⟩ := this
        exact h w' h'
      | enter f args =>
        refine Calls.mono this fun e w'' he => ?_
        obtain ⟨rfl, h'⟩ := he
        exact h w'' h'
      | _ => exact this.elim
    | halt x w' => exact this.elim
  · simp only [hw, Bool.false_eq_true, if_false]
    exact h w hS

/-- Whatever order is picked from here on. -/
def wpAnyU (P : Program) (md : Region.Mode) (ops : Array Oper) (Q : Exit → Act → World → Prop) (S : World → Prop) : Nat → Array Bool → Act → Prop
  | 0, listed, a => Region.ready md ops listed = [] ∧ ∀ w, S w → Q .normal a w
  | fuel + 1, listed, a =>
    (Region.ready md ops listed = [] → ∀ w, S w → Q .normal a w) ∧
    ∀ i ∈ Region.ready md ops listed, ∃ oi v, ops[i]? = some oi ∧ Uni P ops S oi v a ∧ wpAnyU P md ops Q S fuel (listed.setIfInBounds i true) (a.put oi.dst v)

theorem wpAny_of_uni : ∀ (fuel : Nat) (listed : Array Bool) (a : Act), wpAnyU P md ops Q S fuel listed a → ∀ w, S w → wpAny P md ops Q fuel listed a w
  | 0, _, _, h, w, hS => ⟨h.1, h.2 w hS⟩
  | fuel + 1, _, _, h, w, hS => ⟨fun hr => h.1 hr w hS, fun i hi => by
    obtain ⟨oi, v, ho, hu, h'⟩ := h.2 i hi
    exact hu.wpOp ho hS fun w' hS' => wpAny_of_uni fuel _ _ h' w' hS'⟩

theorem wpAnyU_first {i : Nat} {oi : Oper} {v : Value} (hi : ops[i]? = some oi) (hsel : ∀ (j : Nat) (o : Oper) cs b, ops[j]? = some o → o.op ≠ .select cs b) :
    ∀ (fuel : Nat) (listed : Array Bool) (a : Act),
      (∀ j oj, ops[j]? = some oj → j ≠ i → listed.getD j true = false → (∀ e ∈ oj.after, Region.binds md e = true → e.on ≠ i) → oi.apart ops oj = true) →
      i ∈ Region.ready md ops listed → Uni P ops S oi v a →
      wpAnyU P md ops Q S fuel (listed.setIfInBounds i true) (a.put oi.dst v) → wpAnyU P md ops Q S (fuel + 1) listed a := by
  intro fuel
  induction fuel with
  | zero =>
    intro listed a _ hr hy H
    refine ⟨fun h => (by rw [h] at hr; cases hr), fun j hj => ?_⟩
    by_cases hji : j = i
    · subst hji; exact ⟨oi, v, hi, hy, H⟩
    · have := ready_mono hj hji
      rw [H.1] at this
      cases this
  | succ fuel ih =>
    intro listed a hfree hr hy H
    refine ⟨fun h => (by rw [h] at hr; cases hr), fun j hj => ?_⟩
    by_cases hji : j = i
    · subst hji; exact ⟨oi, v, hi, hy, H⟩
    · obtain ⟨oj', vj, hoj', huj, h1⟩ := H.2 j (ready_mono hj hji)
      obtain ⟨hjun, oj, hoj, hall⟩ := mem_ready.1 hj
      obtain rfl : oj = oj' := Option.some.inj (hoj.symm.trans hoj')
      have hnot : ∀ e ∈ oj.after, Region.binds md e = true → e.on ≠ i := fun e he hb heq => by
        have h1 := hall e he hb
        have h0 := (mem_ready.1 hr).1
        rw [heq] at h1
        rcases Nat.lt_or_ge i listed.size with h' | h'
        · simp [h'] at h0 h1; rw [h0] at h1; cases h1
        · simp [Array.getElem?_eq_none h'] at h1
      have hap := hfree j oj hoj hji hjun hnot
      obtain ⟨a1, a2, a3⟩ := Oper.apart_spec hap
      have hsi := fun cs b => hsel i oi cs b hi
      have hsj := fun cs b => hsel j oj cs b hoj
      have huj' : Uni P ops S oj vj a := huj.of_same (execOp_put oj hsj a oi.dst v a1).symm (wanted_put oj a oi.dst v a1).symm
      have hui' : Uni P ops S oi v (a.put oj.dst vj) := hy.of_same (execOp_put oi hsi a oj.dst vj a3) (wanted_put oi a oj.dst vj a3)
      have hfree' : ∀ k ok, ops[k]? = some ok → k ≠ i → (listed.setIfInBounds j true).getD k true = false →
          (∀ e ∈ ok.after, Region.binds md e = true → e.on ≠ i) → oi.apart ops ok = true := fun k ok hk hki hun hno => by
        refine hfree k ok hk hki ?_ hno
        by_cases hjk : j = k
        · subst hjk; exact hjun
        · rw [getD_set_ne true hjk] at hun; exact hun
      refine ⟨oj, vj, hoj, huj', ih (listed.setIfInBounds j true) _ hfree' (ready_mono hr (Ne.symm hji)) hui' ?_⟩
      rw [Array.setIfInBounds_comm _ _ hji, ← Act.put_comm a v vj a2]
      exact h1

/-- An order in which they may come up, one by one, each free. -/
def planB (md : Region.Mode) (ops : Array Oper) : Array Bool → List Nat → Bool
  | listed, [] => (Region.ready md ops listed).isEmpty
  | listed, i :: is => (ops[i]?).isSome && Region.free md ops listed i && (Region.ready md ops listed).contains i && planB md ops (listed.setIfInBounds i true) is

def Chain (P : Program) (ops : Array Oper) (S : World → Prop) (Q : Exit → Act → World → Prop) : List Nat → Act → Prop
  | [], a => ∀ w, S w → Q .normal a w
  | i :: is, a => ∃ oi v, ops[i]? = some oi ∧ Uni P ops S oi v a ∧ Chain P ops S Q is (a.put oi.dst v)

theorem wpAnyU_done {listed : Array Bool} {a : Act} (hr : Region.ready md ops listed = []) (h : ∀ w, S w → Q .normal a w) : ∀ fuel, wpAnyU P md ops Q S fuel listed a
  | 0 => ⟨hr, h⟩
  | _ + 1 => ⟨fun _ => h, by rw [hr]; simp⟩

theorem wpAnyU_chain (hs : Region.noSelect ops = true) : ∀ (is : List Nat) (fuel : Nat) (listed : Array Bool) (a : Act), planB md ops listed is = true → is.length ≤ fuel → Chain P ops S Q is a → wpAnyU P md ops Q S fuel listed a
  | [], fuel, listed, a, hp, _, h => wpAnyU_done (by simpa [planB] using hp) h fuel
  | i :: is, 0, listed, a, _, hl, _ => by simp at hl
  | i :: is, fuel + 1, listed, a, hp, hl, h => by
    simp only [planB, Bool.and_eq_true] at hp
    obtain ⟨⟨⟨_, hf⟩, hr⟩, hp'⟩ := hp
    obtain ⟨oi, v, hi, hu, h'⟩ := h
    exact wpAnyU_first hi (Region.noSelect_spec hs) fuel listed a (Region.free_spec hi hf) (by simpa using hr) hu (wpAnyU_chain hs is fuel _ _ hp' (by simpa using hl) h')

/-- **THE LAW**: is: an order in which the operations may come up; each yields its value in whatever world meets S, and leaves one. -/
theorem region_chain {id : Nat} {a : Act} {w : World} (S : World → Prop) (is : List Nat) (hm : P.follows .mixedOrders = true)
    (hp : (Region.noSelect ops && (planB .any ops (Array.replicate ops.size false) is && decide (is.length ≤ ops.size))) = true) (hS : S w.drew) (h : Chain P ops S Q is a) : (Code.region id ops true).wp P Q a w := by
  simp only [Bool.and_eq_true, decide_eq_true_eq] at hp
  exact wp_region_any hm (wpAny_of_uni _ _ _ (wpAnyU_chain hp.1 is _ _ _ hp.2.1 hp.2.2 h) _ hS)

end
end Go.Proofs.YtfodloepkgkilaaDoor.Uniform
