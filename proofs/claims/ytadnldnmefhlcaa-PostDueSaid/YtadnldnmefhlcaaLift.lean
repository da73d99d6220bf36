/-
  WHAT IS PROVED: laws over whatever program: an operation that is walked in the widest fence is walked as outside of any; rows that are loaded, stored, and gathered there. No condition beside those that each theorem names.
-/
import Derived.Test.YtadnldnmefhlcaaRowsX
import Derived.TacticsIn
import Derived.OwnWalkIn
namespace Go.Proofs.Ytadnldnmefhlcaa.Lift
open Go Go.RowKit Go.Proofs.Ytadnldnmefhlcaa Go.Proofs.Ytadnldnmefhlcaa.Steps Go.Proofs.Ytadnldnmefhlcaa.RowsX
set_option linter.unusedVariables false
set_option linter.unusedSimpArgs false

/-- A fence that lets all in. -/
structure WideF (F : Fence) : Prop where
  lift : ∀ {n : Nat} {P : Program} {o : Oper} {a : Act} {w : World} {K : Act → World → Prop} {Q : Exit → Act → World → Prop}, noDefer o = true → o.wp P a w K Q → o.wpIn F n P a w K Q
theorem wideF_round (l : Nat) : WideF (Fence.wide.inRound l) := ⟨fun hd h => opIn_round hd h⟩
theorem wideF_wide : WideF Fence.wide := ⟨fun {n P o a w K Q} hd h => by
  refine ⟨fun _ _ => trivial, ?_⟩
  have hs : o.semAt Fence.wide.round a.eval = execOp a.eval o := Oper.semAt_plain Fence.wide a.eval o (noDefer_spec hd)
  rw [hs]
  unfold Oper.wp at h
  generalize (execOp a.eval o).run P w = r at h ⊢
  cases r with
  | ok nx w' =>
    cases nx with
    | value v => exact h
    | skip => exact h
    | defer d => exact h
    | enter f args => exact ⟨fun hx => by simp [Fence.wide] at hx, callsIn_wide.2 h⟩
    | row r args => exact ⟨fun hx => by simp [Fence.wide] at hx, fun c cs _ => let ⟨v, w2, hr, s⟩ := h c cs; ⟨v, w2, hr, stepsIn_wide.2 s⟩⟩
    | round a b c d e => exact h.elim
    | _ => exact h.elim
  | halt x w' =>
    cases x with
    | panic v => exact h
    | _ => exact h.elim⟩

section
variable {F : Fence} {n : Nat} {P : Program} {ops : Array Oper} {rest : List Oper} {o : Oper} {a : Act} {w : World} {Q : Exit → Act → World → Prop}
theorem wpListIn_lift (hF : WideF F) (hg : o.guard = none) (hd : noDefer o = true) (h : ∀ K : Act → World → Prop, (∀ a w, wpListIn F n P ops Q rest a w → K a w) → o.wp P a w K Q) : wpListIn F n P ops Q (o :: rest) a w :=
  wpListIn_plain hg fun K hK => hF.lift hd (h K hK)

/-- A row is loaded that lies within a block. -/
theorem wp_load_rowO {K : Act → World → Prop} (ty : TypeId) (x : Operand) (ho : o.op = .load ty x) (b off : Nat) (hx : a.eval x = .pointer (some ⟨b, off, none⟩)) (cs : Array Value)
    (hc : ∀ j v, cs.toList[j]? = some v → w.cell? ⟨b, off + j, none⟩ = some v) {d : TypeDesc}
    (hu : P.underlying ty = some d) (hd : (match d with | .struct _ | .array _ _ => true | _ => false) = true) (hi : (P.info? ty).map (·.size) = some cs.size) (h : K (a.put o.dst (.agg cs)) w) : o.wp P a w K Q := by
  have hl : (loadCells ⟨b, off, none⟩ cs.toList.length).run P w = .ok cs.toList.toArray w :=
    run_loadCells_list (P := P) w ⟨b, off, none⟩ cs.toList (fun j v hv => by
      have hadd : (⟨b, off, none⟩ : Addr).add j = ⟨b, off + j, none⟩ := by unfold Addr.add; split <;> simp_all
      rw [hadd]
      exact hc j v hv)
  have hrun : (loadVar ty ⟨b, off, none⟩).run P w = .ok (.agg cs) w := by
    cases hq : P.info? ty with
    | none => simp [hq] at hi
    | some i =>
      have hs : i.size = cs.size := by simpa [hq] using hi
      have hagg : (isAgg ty).run P w = .ok true w := by
        unfold isAgg
        rw [Sem.run_bind, run_underlying hu w]
        cases d <;> simp_all
      simp only [Array.length_toList, Array.toArray_toList] at hl
      simp [loadVar, Sem.run_bind, hagg, sizeOf, typeInfo, hq, hs, hl]
  unfold Oper.wp execOp
  simp only [ho, hx, Instr.loadAt, Instr.sureAddr, Sem.run_bind, Sem.run_pure, Result.andThen_ok, hrun]
  exact h
theorem wpList_load_rowO (hg : o.guard = none) (ty : TypeId) (x : Operand) (ho : o.op = .load ty x) (b off : Nat) (hx : a.eval x = .pointer (some ⟨b, off, none⟩)) (cs : Array Value)
    (hc : ∀ j v, cs.toList[j]? = some v → w.cell? ⟨b, off + j, none⟩ = some v) {d : TypeDesc}
    (hu : P.underlying ty = some d) (hd : (match d with | .struct _ | .array _ _ => true | _ => false) = true) (hi : (P.info? ty).map (·.size) = some cs.size) (h : wpList P ops Q rest (a.put o.dst (.agg cs)) w) : wpList P ops Q (o :: rest) a w :=
  wpList_plain hg fun K hK => wp_load_rowO ty x ho b off hx cs hc hu hd hi (hK _ _ h)
theorem wpListIn_load_rowO (hF : WideF F) (hg : o.guard = none) (ty : TypeId) (x : Operand) (ho : o.op = .load ty x) (b off : Nat) (hx : a.eval x = .pointer (some ⟨b, off, none⟩)) (cs : Array Value)
    (hc : ∀ j v, cs.toList[j]? = some v → w.cell? ⟨b, off + j, none⟩ = some v) {d : TypeDesc}
    (hu : P.underlying ty = some d) (hd : (match d with | .struct _ | .array _ _ => true | _ => false) = true) (hi : (P.info? ty).map (·.size) = some cs.size) (h : wpListIn F n P ops Q rest (a.put o.dst (.agg cs)) w) : wpListIn F n P ops Q (o :: rest) a w :=
  wpListIn_lift hF hg (by simp [noDefer, ho]) fun K hK => wp_load_rowO ty x ho b off hx cs hc hu hd hi (hK _ _ h)
theorem wpListIn_store_rowA (hF : WideF F) (hg : o.guard = none) (ty : TypeId) (x y : Operand) (ho : o.op = .store ty x y)
    (g : Nat) (cells : Array Value) (hx : a.eval x = .pointer (some ⟨g, 0, none⟩)) (hy : a.eval y = .agg cells)
    (t : TypeId) (old : Array Value) (hb : w.heap[g]? = some (.cells old t (0, 0))) (hi : (P.info? ty).map (·.size) = some cells.size)
    (hold : old.size = cells.size) (h1 : cells.all (·.oneCell') = true)
    (h : ∀ w', Hid (w' = w.setRow g cells) → wpListIn F n P ops Q rest (a.put o.dst undef) w') : wpListIn F n P ops Q (o :: rest) a w :=
  wpListIn_lift hF hg (by simp [noDefer, ho]) fun K hK => wp_store_row ty x y ho g cells hx hy t old hb hi hold h1 (hK _ _ (h _ (Lib.hid rfl)))
theorem wpListIn_accR (hF : WideF F) {t e : TypeId} {size bytes : Nat} {z : Value} {α : Type} {f : α → List Value} (T : SliceTy P t e size bytes z) (R : RowFn size f) {w0 : World} {v : Value} {l : List α} (A : AccR e size f w0 w v l) (x : α)
    (hg : o.guard = none) (s y : Operand) (ho : o.op = .call { callee := .builtin .append, args := #[s, y], argTypes := #[t, t] }) (hv : a.eval s = v) (cs : Array Value) (hcs : cs.toList = f x)
    (g : Nat) (hy : a.eval y = .slice (some ⟨g, 0, none⟩) 1 1) (hgw : g = w.heap.size) (hl : l.length + 1 ≤ maxLen) (hb : (l.length + 1) * bytes ≤ 140737488355328)
    (h : ∀ v' w', AccR e size f w0 w' v' (l ++ [x]) → (w.alloc (.cells cs e)).grownBy w' v.ownBlock → wpListIn F n P ops Q rest (a.put o.dst v') w') : wpListIn F n P ops Q (o :: rest) a (w.alloc (.cells cs e)) := by
  subst hgw
  have A' := A.alloc (.cells cs e)
  refine wpListIn_lift hF hg (by simp [noDefer, ho]) fun K hK => ?_
  refine wp_appF _ s y _ _ ho T w0.heap.size v l.length (l.flatMap f) hv A'.own _ 1 (f x) hy (row_new_src T.ht R w x cs hcs e) (l.length + 1) rfl ((l ++ [x]).flatMap f) (by rw [List.flatMap_append, List.flatMap_singleton]) hl hb A'.bel.size ?_
  intro a' c' w' hown hgrow hat
  refine hK _ _ (h _ _ ⟨?_, Bl.grown A'.bel hgrow (fun j hj => (A.own.lt j hj).1)⟩ hgrow)
  rw [List.length_append]
  exact hown
end
theorem row_new {w w' : World} {cells old : Array Value} {t : TypeId} (h : Hid (w' = (w.alloc (.cells old t)).setRow w.heap.size cells)) : Below w.heap.size w w' ∧ w'.heap[w.heap.size]? = some (.cells cells t (0, 0)) := by
  rw [h.out]
  exact ⟨below_row ((Below.refl _ w).alloc (Nat.le_refl _) _) (Nat.le_refl _) _, setRow_at (heap_new w _)⟩

end Go.Proofs.Ytadnldnmefhlcaa.Lift
