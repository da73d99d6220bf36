/-
  WHAT IS PROVED: the law of a range over a function whose iterator yields pointers to blocks of its own, which the round may write: what the round leaves there is what the caller says. Condition: what the theorem names.
-/
import Derived.Test.YtadnldnmefhlcaaBase
import Derived.RangeFuncNested
namespace Go.Proofs.Ytadnldnmefhlcaa.SeqP
open Go Go.RowKit Go.Proofs.Ytadnldnmefhlcaa
set_option linter.unusedVariables false

/-- The blocks of T lie as they lay. -/
def Held (T : Nat → Prop) (W W' : World) : Prop := ∀ k, T k → k < W.heap.size → W'.heap[k]? = W.heap[k]?
/-- T, and what is new. -/
def More (T : Nat → Prop) (W W' : World) : Nat → Prop := fun k => T k ∨ (W.heap.size ≤ k ∧ k < W'.heap.size)

/-- An iterator that turns no block but its own ones (T: those that it has laid), and wants these, and those below n0, kept. -/
def SeqP {α : Type} (F : Fence) (n m : Nat) (P : Program) (g : Nat) (lb : Array Value) (encs : α → Array Value) (G : List α → (Nat → Prop) → α → World → Prop) (R : α → World → Prop) (n0 : Nat) (S : List α → World → Prop) (T0 : Nat → Prop) (N : Nat) (w : World) : Prop :=
  ∀ (l : Nat) (J : List α → (Nat → Prop) → World → Prop) (W : World), Below w.heap.size w W →
    (∀ pre T T' W1 W2, J pre T W1 → Ext T W1 W2 → (∀ k, T' k → More T W1 W2 k) → J pre T' W2) →
    (∀ pre T x W1, J pre T W1 → G pre T x W1 → pre.length < N → YieldAt F m P l (encs x) W1 fun e W' =>
      e = .returned (.bool true) ∧ J (pre ++ [x]) T W' ∧ Held T W1 W' ∧ Below n0 W1 W' ∧ R x W') →
    J [] T0 W →
    CallsIn F n P g (#[.func (.yield l) #[] #[]] ++ lb) W fun e W' => (∃ v, e = .returned v) ∧ ∃ xs T, S xs W' ∧ J xs T W'

/-- How a round is left: off its end. -/
def postT {α : Type} (R : α → World → Prop) (x : α) (B n0 : Nat) (I : List α → (Nat → Prop) → World → Prop) (xs : List α) (T : Nat → Prop) (W : World) : Exit → Act → World → Prop
  | .normal, _, W' => KeepsFrom B W W' ∧ Held T W W' ∧ Below n0 W W' ∧ I xs T W' ∧ R x W'
  | _, _, _ => False

variable {F : Fence} {n : Nat} {P : Program}

theorem below_put {n0 : Nat} {W : World} {l : Nat} {o : Obj} (o' : Obj) (h : W.heap[l]? = some o) (hl : n0 ≤ l) : Below n0 W (W.putObj l o') :=
  (Below.refl n0 W).grown (grownBy_putObj' W l o') (by have := (Array.getElem?_eq_some_iff.1 h).1; omega) (fun k e => by cases e; omega)

theorem wpIn_rangeFunc_T {α : Type} {g : Operand} {ps : Array Tmp} {assign body : Code} {Q : Exit → Act → World → Prop} {a : Act} {w : World}
    (hro : F.round = none) (h1 : 1 ≤ n) {gf : Nat} {lb : Array Value} (hg : a.eval g = .func (.func gf) #[] lb) (hFg : F.fn gf) (eg : ∀ args w, (callFunc gf args).run P w = .ok (.enter gf args) w)
    {encs : α → Array Value} {G : List α → (Nat → Prop) → α → World → Prop} {R : α → World → Prop} {n0 : Nat} {S : List α → World → Prop} {T0 : Nat → Prop} {N : Nat} {w0 : World} {m : Nat} (hseq : SeqP F (n - 1) m P gf lb encs G R n0 S T0 N w0)
    (hn0 : n0 ≤ w.heap.size) (hb0 : Below w0.heap.size w0 w) (hps : ∀ x, (encs x).size = ps.size)
    (I : List α → (Nat → Prop) → World → Prop) (hI1 : OwnFrom w.heap.size (fun (s : List α × (Nat → Prop)) W => I s.1 s.2 W))
    (hI2 : ∀ pre T T' W1 W2, I pre T W1 → Ext T W1 W2 → (∀ k, T' k → More T W1 W2 k) → I pre T' W2) (hG : ∀ pre T, OwnFrom w.heap.size (G pre T)) (hR : OwnFrom w.heap.size R) (hS : OwnFrom w.heap.size S) (hT0 : ∀ k, T0 k → k < w.heap.size) (h0 : I [] T0 w) (a₁ : α → Act)
    (hassign : ∀ (l : Nat) (x : α) (W : World) (K : Act → World → Prop), K (a₁ x) W →
      assign.wpIn (F.inRound l) m P (Exit.then K (fun _ _ _ => False)) { tmps := (ps.zip (encs x)).foldl (fun t (p, v) => t.setIfInBounds p v) a.tmps, defers := [] } W)
    (hbody : ∀ (l : Nat) (pre : List α) (T : Nat → Prop) (x : α) (W : World), I pre T W → G pre T x W → pre.length < N → body.wpIn (F.inRound l) m P (postT R x w.heap.size n0 I (pre ++ [x]) T W) (a₁ x) W)
    (hdone : ∀ (D : Nat) (xs : List α) (T : Nat → Prop) (W : World), w.heap.size ≤ D → S xs W → I xs T W → W.heap[D]? = some (.deferred (some [])) → Q .normal { a with defers := { target := .collected D, args := #[] } :: a.defers } W) :
    (Code.rangeFunc g ps assign body).wpIn F n P Q a w := by
  refine wpIn_rangeFunc ?_
  intro fn hfn
  rw [hro]
  obtain ⟨rec, hrec⟩ : ∃ rec : LoopState → Option Code → Loop, rec = fun st pe => { state := st, pending := pe, fn, tmps := a.tmps, params := ps, assign, body, defers := w.heap.size } := ⟨_, rfl⟩
  obtain ⟨W1, hW1⟩ : ∃ W1, W1 = (w.alloc (.deferred (some []))).alloc (.loop (rec .ready none)) := ⟨_, rfl⟩
  have hL1 : W1.heap[w.heap.size + 1]? = some (.loop (rec .ready none)) := by
    rw [hW1]
    have := World.alloc_heap_new (w.alloc (.deferred (some []))) (.loop (rec .ready none))
    rwa [World.size_alloc] at this
  have hK1 : W1.heap[w.heap.size]? = some (.deferred (some [])) := by
    rw [hW1]
    exact (Below.heap_alloc _ _ _ (by simp)).trans (World.alloc_heap_new w _)
  have hI : I [] T0 W1 := by
    rw [hW1]
    exact hI1.alloc (s := ([], T0)) _ (hI1.alloc (s := ([], T0)) _ h0)
  have hb1 : Below w0.heap.size w0 W1 := by
    rw [hW1]
    exact hb0.trans ((((Below.refl _ w).alloc (Nat.le_refl _) _).alloc (by simp) _).mono hb0.size)
  refine ⟨w.heap.size + 1, [{ target := .collected w.heap.size, args := #[] }], W1, { target := .fn (.func gf) lb, args := #[.func (.yield (w.heap.size + 1)) #[] #[]] }, W1, gf,
    #[.func (.yield (w.heap.size + 1)) #[] #[]] ++ lb, W1, ?_, ?_, ?_, ?_, fun _ => h1, ?_⟩
  · rw [hW1, hrec]
    exact run_enterLoop_outer _ _ _ _ _
  · simp only [resolve, hg]
    simp [go_sem]
  · intro f' hf'
    simp [Target.leads] at hf'
    subst hf'
    exact hFg
  · simp [invoke, go_sem, eg]
  · refine (hseq (w.heap.size + 1)
      (fun pre T W => I pre T W ∧ ¬ T w.heap.size ∧ ¬ T (w.heap.size + 1) ∧ W.heap[w.heap.size + 1]? = some (.loop (rec .ready none)) ∧ W.heap[w.heap.size]? = some (.deferred (some [])))
      W1 hb1 ?_ ?_ ⟨hI, fun h => absurd (hT0 _ h) (by omega), fun h => absurd (hT0 _ h) (by omega), hL1, hK1⟩).mono ?_
    · rintro pre T T' A B ⟨hi, hTD, hTl, hl, hk⟩ hE hs
      have hlt := (Array.getElem?_eq_some_iff.1 hl).1
      exact ⟨hI2 _ _ _ _ _ hi hE hs, fun h => (hs _ h).elim hTD (fun h => by omega), fun h => (hs _ h).elim hTl (fun h => by omega), (hE.block _ hlt hTl).trans hl, (hE.block _ (by omega) hTD).trans hk⟩
    · rintro pre T x W ⟨hi, hTD, hTl, hl, hk⟩ hGx hlen
      have hlt := (Array.getElem?_eq_some_iff.1 hl).1
      have hy := run_yield (P := P) (args := encs x) hl (by rw [hrec]; exact hps x)
      rw [hrec] at hy
      refine ⟨fn, _, assign, body, hy, roundIn_of_wpIn hfn (hassign _ x W _ ?_)⟩
      clear hy
      refine ⟨_, run_beginRound hl (by rw [hrec]), ?_⟩
      have hl2 : (W.putObj (w.heap.size + 1) (.loop { rec .ready none with state := .busy })).heap[w.heap.size + 1]? = some (.loop { rec .ready none with state := .busy }) := World.putObj_heap_same hlt
      have hk2 : (W.putObj (w.heap.size + 1) (.loop { rec .ready none with state := .busy })).heap[w.heap.size]? = some (.deferred (some [])) := (World.putObj_heap_other (by omega)).trans hk
      have hB2 : Below n0 W (W.putObj (w.heap.size + 1) (.loop { rec .ready none with state := .busy })) := below_put _ hl (by omega)
      have hH2 : ∀ k, T k → (W.putObj (w.heap.size + 1) (.loop { rec .ready none with state := .busy })).heap[k]? = W.heap[k]? := fun k hT => World.putObj_heap_other (fun e => hTl (by rw [← e]; exact hT))
      have hz2 : (W.putObj (w.heap.size + 1) (.loop { rec .ready none with state := .busy })).heap.size = W.heap.size := by simp
      refine wpIn_mono (hbody _ pre T x _ (hI1.putObj (s := (pre, T)) _ hi (by omega) hl rfl) ((hG pre T).putObj _ hGx (by omega) hl rfl) hlen) ?_
      generalize hW2 : W.putObj (w.heap.size + 1) (.loop { rec .ready none with state := .busy }) = W2 at hl2 hk2 hB2 hH2 hz2 ⊢
      rintro e a3 W3 hp
      cases e with
      | normal =>
        obtain ⟨hk3, hh3, hb3, hi3, hr3⟩ := hp
        have hl3 := hk3.same _ _ (by omega) hl2 rfl
        have hd3 := hk3.same _ _ (Nat.le_refl _) hk2 rfl
        have hr := run_endRound (P := P) none hl3
        rw [hrec] at hr hl3
        refine ⟨_, _, hr, rfl, ⟨hI1.putObj (s := (pre ++ [x], T)) _ hi3 (by omega) hl3 rfl, hTD, hTl, ?_, ?_⟩, ?_, ?_, hR.putObj _ hr3 (by omega) hl3 rfl⟩
        · rw [hrec]
          exact World.putObj_heap_same (Array.getElem?_eq_some_iff.1 hl3).1
        · exact (World.putObj_heap_other (by omega)).trans hd3
        · intro k hT hk
          rw [World.putObj_heap_other (fun e => hTl (by rw [← e]; exact hT)), hh3 k hT (by omega), hH2 k hT]
        · exact hB2.trans (hb3.trans (below_put _ hl3 (by omega)))
      | ret => exact hp.elim
      | exit id => exact hp.elim
      | goto t => exact hp.elim
      | panic ch => exact hp.elim
      | outgrown => exact hp.elim
    · rintro e W2 ⟨⟨v, rfl⟩, xs, T, hS', hi, hTD, hTl, hl, hk⟩
      exact ⟨none, _, by have := run_endLoop (P := P) hl (by rw [hrec]; simp); rw [hrec] at this; exact this, hdone _ xs T _ (Nat.le_refl _) (hS.putObj _ hS' (by omega) hl rfl) (hI1.putObj (s := (xs, T)) _ hi (by omega) hl rfl) ((World.putObj_heap_other (by omega)).trans hk)⟩

end Go.Proofs.Ytadnldnmefhlcaa.SeqP
