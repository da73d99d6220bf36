/-
  WHAT IS PROVED: laws of rounds: a region that writes at its end; what a slice of the call's own keeps. Condition: what each theorem names.
-/
import Derived.Test.YtadnldnmefhlcaaWrJ
import Derived.Test.YtadnldnmefhlcaaRowsX
import Derived.Test.YtadnldnmefhlcaaSeqP
import Derived.RangeFuncNested
import Derived.LoopIn
namespace Go.Proofs.Ytadnldnmefhlcaa.RoundK
open Go Go.RowKit Go.Proofs.Ytadnldnmefhlcaa
set_option linter.unusedVariables false
set_option linter.unusedSimpArgs false

/-- A region that draws its order, and writes at its end, in a round. -/
theorem region_K_round {P : Program} {l n : Nat} {ops : Array Oper} {Q : Exit → Act → World → Prop} {id : Nat} {a : Act} {w : World} (S : World → Prop) (K : List Nat) (hm : P.follows .mixedOrders = true) (hd : ops.all noDefer = true) (hQ : ¬ LetsOut Q)
    (h : Wr.wpAnyK P .any ops Q S K ops.size (Array.replicate ops.size false) a w.drew) : (Code.region id ops true).wpIn (Fence.wide.inRound l) n P Q a w :=
  wpIn_region_any hm (wpAnyIn_round hd hQ _ _ _ _ (Wr.wpAny_of_K _ _ _ _ h))
/-- A slice of the call's own stays, where a walk's own block is turned. -/
theorem own_kept {w w' : World} {base : Nat} {e : TypeId} {size : Nat} {v : Value} {n : Nat} {xs : List Value} {row : Option Nat} (h : Ow w base e size v n xs) (hg : w.grownBy w' row) (hr : ∀ r, row = some r → ∃ o : Obj, w.heap[r]? = some o ∧ o.isCells = false) : Ow w' base e size v n xs := by
  refine h.ext (S := fun k => row = some k) ((Ext.refl _ w).grown hg (fun k h => .inl h)) (fun k hk hrow => ?_)
  obtain ⟨o, ho, hc⟩ := hr k hrow
  rcases h.2 with ⟨rfl, _⟩ | ⟨g, cap, cur, fr, rfl, _, hgb, _⟩
  · simp [Value.ownBlock] at hk
  · simp [Value.ownBlock] at hk
    subst hk
    rw [hgb] at ho
    cases ho
    cases hc

theorem keepsOthers_below {W W' : World} (h : Below W.heap.size W W') : KeepsOthers W W' := ⟨h.size, fun k o hk ho => (h.block k (lt_row hk)).trans hk⟩
theorem own_cells {w : World} {base : Nat} {e : TypeId} {size : Nat} {v : Value} {n : Nat} {xs : List Value} (h : Ow w base e size v n xs) : ∀ (j : Nat) (o : Obj), v.ownBlock = some j → w.heap[j]? = some o → o.isCells = true := by
  intro j o hj ho
  rcases h.2 with ⟨rfl, _⟩ | ⟨g, cap, cur, fr', rfl, _, hgb, _⟩
  · simp [Value.ownBlock] at hj
  · have : g = j := by simpa [Value.ownBlock] using hj
    subst this
    rw [hgb] at ho
    cases ho
    rfl
theorem row_apart {W : World} {B : Nat} {t e : TypeId} {cs : Array Value} {fr : Nat × Nat} (h : W.heap[B]? = some (.cells cs t fr)) (hte : t ≠ e) {base size k : Nat} {v : Value} {xs : List Value} (hr : Ow W base e size v k xs) : v.ownBlock ≠ some B := by
  rcases hr.2 with ⟨rfl, _⟩ | ⟨g, cap, cur, fr', rfl, _, hgb, _⟩
  · simp [Value.ownBlock]
  · intro e'
    obtain rfl : g = B := by simpa [Value.ownBlock] using e'
    rw [h] at hgb
    simp only [Option.some.injEq, Obj.cells.injEq] at hgb
    exact hte hgb.2.1
theorem ext_more {S : Nat → Prop} {w X Y : World} (h : Ext S w X) (k : Ext (fun j => S j ∨ w.heap.size ≤ j) X Y) : Ext S w Y :=
  ⟨k.os.trans h.os, k.tape.trans h.tape, k.output.trans h.output, Nat.le_trans h.size k.size, fun j hj hs => (k.block j (Nat.lt_of_lt_of_le hj h.size) (fun e => e.elim hs (fun e => by omega))).trans (h.block j hj hs)⟩
end Go.Proofs.Ytadnldnmefhlcaa.RoundK
