/-
  WHAT IS PROVED: laws over whatever program: rows of several cells that are gathered in a slice, one by one. No condition beside those that each theorem names.
-/
import Derived.Test.YtadnldnmefhlcaaCore
namespace Go.Proofs.Ytadnldnmefhlcaa.RowsX
open Go Go.RowKit Go.Proofs.Ytadnldnmefhlcaa
set_option linter.unusedVariables false
set_option linter.unusedSimpArgs false

section
variable {α : Type} {P : Program} {t e : TypeId} {size bytes : Nat} {z : Value} {f : α → List Value}

/-- Each thing has so many cells, all of one cell. -/
structure RowFn (size : Nat) (f : α → List Value) : Prop where
  len : ∀ x, (f x).length = size
  one : ∀ x, ∀ u ∈ f x, u.oneCell' = true
theorem RowFn.total (F : RowFn size f) : ∀ l : List α, (l.flatMap f).length = l.length * size
  | [] => by simp
  | x :: r => by rw [List.flatMap_cons, List.length_append, F.len, F.total r, List.length_cons, Nat.add_mul, Nat.one_mul, Nat.add_comm]

/-- A slice of the call's own that holds rows. -/
structure AccR (e : TypeId) (size : Nat) (f : α → List Value) (w0 w : World) (v : Value) (l : List α) : Prop where
  own : Ow w w0.heap.size e size v l.length (l.flatMap f)
  bel : Below w0.heap.size w0 w
theorem AccR.nil (w : World) : AccR e size f w w (.slice none 0 0) [] := ⟨Ow.nil _ _ _ _, Below.refl _ _⟩
theorem AccR.below {w0 w w' : World} {v : Value} {l : List α} (h : AccR e size f w0 w v l) (hb : Below w.heap.size w w') : AccR e size f w0 w' v l :=
  ⟨h.own.ext (Ext.ofB hb) (fun _ _ h => h), h.bel.trans (hb.mono h.bel.size)⟩
theorem AccR.alloc {w0 w : World} {v : Value} {l : List α} (h : AccR e size f w0 w v l) (o : Obj) : AccR e size f w0 (w.alloc o) v l := h.below ((Below.refl _ _).alloc (Nat.le_refl _) _)
theorem AccR.sl {w0 w : World} {v : Value} {l : List α} (h : AccR e size f w0 w v l) : Sl w v size l.length (l.flatMap f) := h.own.sl

theorem row_new_src {tx e' : TypeId} (hk : P.underlying tx = some (.slice e')) (F : RowFn size f) (w : World) (x : α) (cs : Array Value) (hcs : cs.toList = f x) (te : TypeId) :
    Src P size tx (.slice (some ⟨w.heap.size, 0, none⟩) 1 1) 1 (f x) (w.alloc (.cells cs te)) := by
  refine Src.ofSlice _ hk _ _ _ _ (by rw [F.len, Nat.one_mul]) (fun j u hu => ?_) (F.one x)
  rw [Addr.add_mid, Nat.zero_add, cell_row (heap_new w (.cells cs te)), ← hu, ← hcs]
  simp

theorem wpList_accR {ops : Array Oper} {rest : List Oper} {o : Oper} {a : Act} {Q : Exit → Act → World → Prop} (T : SliceTy P t e size bytes z) (F : RowFn size f) {w0 w : World} {v : Value} {l : List α} (A : AccR e size f w0 w v l) (x : α)
    (hgd : o.guard = none) (s y : Operand) (ho : o.op = .call { callee := .builtin .append, args := #[s, y], argTypes := #[t, t] }) (hv : a.eval s = v) (cs : Array Value) (hcs : cs.toList = f x)
    (g : Nat) (hy : a.eval y = .slice (some ⟨g, 0, none⟩) 1 1) (hgw : g = w.heap.size) (hl : l.length + 1 ≤ maxLen) (hb : (l.length + 1) * bytes ≤ 140737488355328)
    (h : ∀ v' w', AccR e size f w0 w' v' (l ++ [x]) → wpList P ops Q rest (a.put o.dst v') w') : wpList P ops Q (o :: rest) a (w.alloc (.cells cs e)) := by
  subst hgw
  have A' := A.alloc (.cells cs e)
  refine wpList_appF _ hgd s y _ _ ho T w0.heap.size v l.length (l.flatMap f) hv A'.own _ 1 (f x) hy (row_new_src T.ht F w x cs hcs e) (l.length + 1) rfl ((l ++ [x]).flatMap f) (by rw [List.flatMap_append, List.flatMap_singleton]) hl hb A'.bel.size ?_
  intro a' c' w' hown hgrow _
  refine h _ _ ⟨?_, Bl.grown A'.bel hgrow (fun j hj => (A.own.lt j hj).1)⟩
  rw [List.length_append]
  exact hown

/-- A whole slice, behind an empty one of the call's own. -/
theorem wpList_cloneR {ops : Array Oper} {rest : List Oper} {o : Oper} {a : Act} {Q : Exit → Act → World → Prop} (T : SliceTy P t e size bytes z) (F : RowFn size f) {w : World} {l : List α} {u : Value} (hu : Sl w u size l.length (l.flatMap f))
    (hgd : o.guard = none) (s y : Operand) (ho : o.op = .call { callee := .builtin .append, args := #[s, y], argTypes := #[t, t] }) (hv : a.eval s = .slice (some ⟨w.heap.size, 0, none⟩) 0 0)
    (hy : a.eval y = u) (hl : l.length ≤ maxLen) (hb : l.length * bytes ≤ 140737488355328)
    (h : ∀ v' w', AccR e size f w w' v' l → wpList P ops Q rest (a.put o.dst v') w') : wpList P ops Q (o :: rest) a (w.alloc (.cells #[] e)) := by
  have hown0 : Ow (w.alloc (.cells #[] e)) w.heap.size e size (.slice (some ⟨w.heap.size, 0, none⟩) 0 0) 0 [] := Ow.of (own_new rfl (Nat.le_refl _) (by unfold maxLen; omega) (by simp))
  have hu' := hu.below ((Below.refl _ w).alloc (Nat.le_refl _) (.cells #[] e))
  refine wpList_appF _ hgd s y _ _ ho T w.heap.size _ 0 [] hv hown0 u l.length (l.flatMap f) hy (hu'.src T.ht (fun q hq => ?_)) l.length (Nat.zero_add _) (l.flatMap f) (List.nil_append _) hl hb (by simp) ?_
  · obtain ⟨x, _, hx⟩ := List.mem_flatMap.1 hq
    exact F.one x q hx
  · intro a' c' w' hown hgrow _
    exact h _ _ ⟨hown, Bl.grown ((Below.refl _ w).alloc (Nat.le_refl _) _) hgrow (fun j hj => by simp [Value.ownBlock] at hj; omega)⟩

/-- The cells of the k-th row. -/
theorem row_cells (F : RowFn size f) (hs : 0 < size) {w : World} {a : Option Addr} {cap : Nat} {l : List α} (h : Sl w (.slice a l.length cap) size l.length (l.flatMap f)) {k : Nat} {x : α} (hx : l[k]? = some x) :
    ∃ b o, a = some ⟨b, o, none⟩ ∧ b < w.heap.size ∧ ∀ (j : Nat) (u : Value), (f x)[j]? = some u → w.cell? ⟨b, o + k * size + j, none⟩ = some u := by
  have hk : k < l.length := (List.getElem?_eq_some_iff.1 hx).1
  have hpos : 0 < l.length * size := Nat.mul_pos (by omega) hs
  obtain ⟨b, o, rfl, hlt, hc⟩ := h.plain (by rw [F.total]; exact hpos)
  refine ⟨b, o, rfl, hlt, fun j u hu => ?_⟩
  have hj : j < size := by rw [← F.len x]; exact (List.getElem?_eq_some_iff.1 hu).1
  rw [Nat.add_assoc]
  exact hc (k * size + j) u ((flat_get f size l k j x F.len hx hj).trans hu)
end

end Go.Proofs.Ytadnldnmefhlcaa.RowsX
