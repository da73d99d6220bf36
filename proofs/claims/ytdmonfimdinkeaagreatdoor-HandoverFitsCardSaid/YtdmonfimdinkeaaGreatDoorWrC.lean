/-
  WHAT IS PROVED: in a region that draws its order a call that changes nothing, and answers alike in every world that is asked for, may be taken first; whole rows and copies of texts as operations of such a region. Condition: what each theorem names.
-/
import Derived.Test.YtdmonfimdinkeaaGreatDoorWr
import Derived.Laws.CopyRow
namespace Go.Proofs.YtdmonfimdinkeaaGreatDoor.WrC
open Go Go.RowKit Go.Proofs.YtdmonfimdinkeaaGreatDoor Go.Proofs.YtdmonfimdinkeaaGreatDoor.Wr
set_option linter.unusedVariables false
set_option linter.unusedSimpArgs false

section
variable {P : Program} {ops : Array Oper} {Q : Exit → Act → World → Prop} {md : Region.Mode} {S : World → Prop}

/-- An operation that looks at one operand of another one, and keeps nothing. -/
def looker (o : Oper) (x : Operand) : Oper := { o with op := .move x, dst := none }

theorem looker_yields {o : Oper} {x : Operand} {a : Act} (hw : Region.wanted o (yielded ops a.tmps) = true) : YieldsIf P ops (fun _ => True) (looker o x) (a.eval x) a :=
  .inl ⟨hw, fun w _ => by simp [looker, execOp]⟩
theorem looker_eval {o : Oper} {x : Operand} {a : Act} {v : Value} (hv : v ≠ undef) (w : World) (h : YieldsIf P ops (fun _ => True) (looker o x) v a) : Region.wanted o (yielded ops a.tmps) = true ∧ a.eval x = v := by
  rcases h with ⟨h1, h2⟩ | ⟨_, h2⟩
  · refine ⟨h1, ?_⟩
    have := h2 w trivial
    simpa [looker, execOp] using this
  · exact absurd h2 hv

/-- What the call yields may lie in its place already when another operation comes up: what the call looks at stays. -/
theorem wpOp_putC {j : Nat} {oi oj : Oper} {x : Operand} {v vx : Value} (hj : ops[j]? = some oj) (hap : oi.apart ops oj = true) (hax : (looker oi x).apart ops oj = true)
    (hsi : ∀ cs b, oi.op ≠ .select cs b) (hsj : ∀ cs b, oj.op ≠ .select cs b) (hQ : ∀ c a w, Q (.panic c) (a.put oi.dst v) w → Q (.panic c) a w) (hv : vx ≠ undef) {K : Act → World → Prop} {a : Act} {w : World}
    (hw : Region.wanted oi (yielded ops a.tmps) = true) (hx : a.eval x = vx) (h : wpOp P ops Q j K (a.put oi.dst v) w) :
    wpOp P ops Q j (fun a' w' => (Region.wanted oi (yielded ops a'.tmps) = true ∧ a'.eval x = vx) ∧ K (a'.put oi.dst v) w') a w := by
  have h1 := wpOp_putIf (S := fun _ => False) hj hap hsi hsj hQ (.inl ⟨hw, fun _ h => h.elim⟩) h
  have hy := looker_yields (P := P) (ops := ops) (x := x) hw
  rw [hx] at hy
  have h2 := wpOp_putIf (oi := looker oi x) (v := vx) hj hax (fun cs b => by simp [looker]) hsj (fun _ _ _ h => h) hy h1
  exact wpOp_mono (fun a' w' h' => ⟨looker_eval hv w' h'.1, h'.2.2⟩) h2

/-- Such a call, first. -/
theorem wpAnyK_firstC {i : Nat} {oi : Oper} {x : Operand} {v vx : Value} (hi : ops[i]? = some oi) (hsel : ∀ (j : Nat) (o : Oper) cs b, ops[j]? = some o → o.op ≠ .select cs b)
    (hQ : ∀ c a w, Q (.panic c) (a.put oi.dst v) w → Q (.panic c) a w) (hv : vx ≠ undef)
    (hc : ∀ (a : Act) (w : World), a.eval x = vx → S w → ∃ f args, (execOp a.eval oi).run P w = .ok (.enter f args) w ∧ Calls P f args w fun e w' => e = .returned v ∧ w = w') :
    ∀ (fuel : Nat) (listed : Array Bool) (a : Act) (w : World),
      (∀ j oj, ops[j]? = some oj → j ≠ i → listed.getD j true = false → (∀ e ∈ oj.after, Region.binds md e = true → e.on ≠ i) → oi.apart ops oj = true ∧ (looker oi x).apart ops oj = true) →
      i ∈ Region.ready md ops listed → Region.wanted oi (yielded ops a.tmps) = true → a.eval x = vx → S w →
      wpAnyK P md ops Q S [] fuel (listed.setIfInBounds i true) (a.put oi.dst v) w → wpAnyK P md ops Q S [] (fuel + 1) listed a w := by
  have hone : ∀ (K : Act → World → Prop) (a : Act) (w : World), Region.wanted oi (yielded ops a.tmps) = true → a.eval x = vx → S w → K (a.put oi.dst v) w → wpOp P ops Q i K a w := by
    intro K a w hw hx hS hK
    obtain ⟨f, args, hr, hcall⟩ := hc a w hx hS
    exact wpOp_call hi hw hr (hcall.mono fun e w' ⟨he, hww⟩ => ⟨v, he, by subst hww; exact hK⟩)
  intro fuel
  induction fuel with
  | zero =>
    intro listed a w _ hr hw hx hS H
    refine ⟨fun h => (by rw [h] at hr; cases hr), fun j hj => ?_⟩
    by_cases hji : j = i
    · subst hji; exact hone _ a w hw hx hS ⟨fun _ => hS, H⟩
    · have := ready_mono hj hji
      rw [H.1] at this
      cases this
  | succ fuel ih =>
    intro listed a w hfree hr hw hx hS H
    refine ⟨fun h => (by rw [h] at hr; cases hr), fun j hj => ?_⟩
    by_cases hji : j = i
    · subst hji; exact hone _ a w hw hx hS ⟨fun _ => hS, H⟩
    · have h1 := H.2 j (ready_mono hj hji)
      obtain ⟨hjun, oj, hoj, hall⟩ := mem_ready.1 hj
      have hun : ∀ k, listed.getD k true = false → listed.getD k false = true → False := fun k h0 h1 => by
        rcases Nat.lt_or_ge k listed.size with h' | h'
        · simp [h'] at h0 h1; rw [h0] at h1; cases h1
        · simp [Array.getElem?_eq_none h'] at h1
      have hnot : ∀ e ∈ oj.after, Region.binds md e = true → e.on ≠ i := fun e he hb heq => hun i (mem_ready.1 hr).1 (by rw [← heq]; exact hall e he hb)
      obtain ⟨ap1, ap2⟩ := hfree j oj hoj hji hjun hnot
      have h2 := wpOp_putC hoj ap1 ap2 (fun cs b => hsel i oi cs b hi) (fun cs b => hsel j oj cs b hoj) hQ hv hw hx h1
      have hfree' : ∀ k ok, ops[k]? = some ok → k ≠ i → (listed.setIfInBounds j true).getD k true = false →
          (∀ e ∈ ok.after, Region.binds md e = true → e.on ≠ i) → oi.apart ops ok = true ∧ (looker oi x).apart ops ok = true := fun k ok hk hki hun hno => by
        refine hfree k ok hk hki ?_ hno
        by_cases hjk : j = k
        · subst hjk; exact hjun
        · rw [getD_set_ne true hjk] at hun; exact hun
      refine wpOp_mono (fun a' w' h3 => ?_) h2
      have hS' : S w' := h3.2.1 ⟨by simp, by simp⟩
      refine ⟨fun _ => hS', ih (listed.setIfInBounds j true) a' w' hfree' (ready_mono hr (Ne.symm hji)) h3.1.1 h3.1.2 hS' ?_⟩
      rw [Array.setIfInBounds_comm _ _ hji]
      exact h3.2.2

/-- Whether the call may be taken first. -/
def freeC (md : Region.Mode) (ops : Array Oper) (listed : Array Bool) (i : Nat) (x : Operand) : Bool :=
  match ops[i]? with
  | some oi => (List.range ops.size).all fun j => j == i || (listed.getD j true || match ops[j]? with
      | some oj => oj.after.any (fun e => Region.binds md e && e.on == i) || (looker oi x).apart ops oj
      | none => true)
  | none => false
theorem freeC_spec {i : Nat} {oi : Oper} {x : Operand} {listed : Array Bool} (hi : ops[i]? = some oi) (h : freeC md ops listed i x = true) (j : Nat) (oj : Oper) (hj : ops[j]? = some oj) (hne : j ≠ i) (hun : listed.getD j true = false)
    (hno : ∀ e ∈ oj.after, Region.binds md e = true → e.on ≠ i) : (looker oi x).apart ops oj = true := by
  simp only [freeC, hi, List.all_eq_true, List.mem_range] at h
  have h1 := h j (Array.getElem?_eq_some_iff.1 hj).1
  simp only [hj, Bool.or_eq_true, beq_iff_eq, hne, false_or, hun, Bool.false_eq_true] at h1
  rcases h1 with h1 | h1
  · obtain ⟨e, he, hb⟩ := Array.any_eq_true'.1 h1
    simp only [Bool.and_eq_true, beq_iff_eq] at hb
    exact absurd hb.2 (hno e (by simpa using he) hb.1)
  · exact h1

theorem wpAnyK_takeC {i : Nat} {oi : Oper} (x : Operand) (vx : Value) {v : Value} {fuel : Nat} {listed : Array Bool} {a : Act} {w : World} (hi : ops[i]? = some oi)
    (hc : (Region.noSelect ops && (Region.free md ops listed i && (freeC md ops listed i x && (Region.ready md ops listed).contains i))) = true)
    (hQ : ∀ c a w, Q (.panic c) (a.put oi.dst v) w → Q (.panic c) a w) (hv : vx ≠ undef) (hw : Region.wanted oi (yielded ops a.tmps) = true) (hx : a.eval x = vx)
    (hcall : ∀ (a : Act) (w : World), a.eval x = vx → S w → ∃ f args, (execOp a.eval oi).run P w = .ok (.enter f args) w ∧ Calls P f args w fun e w' => e = .returned v ∧ w = w') (hS : S w)
    (h : wpAnyK P md ops Q S [] fuel (listed.setIfInBounds i true) (a.put oi.dst v) w) : wpAnyK P md ops Q S [] (fuel + 1) listed a w := by
  simp only [Bool.and_eq_true] at hc
  obtain ⟨hs, hf, hg, hr⟩ := hc
  exact wpAnyK_firstC hi (Region.noSelect_spec hs) hQ hv hcall fuel listed a w (fun j oj h1 h2 h3 h4 => ⟨Region.free_spec hi hf j oj h1 h2 h3 h4, freeC_spec hi hg j oj h1 h2 h3 h4⟩) (by simpa using hr) hw hx hS h

/-! ### Whole rows, and copies of texts -/
theorem yields_build {o : Oper} {a : Act} (t : TypeId) (parts : Array (Nat × Operand)) (ho : o.op = .build t parts) (hw : Region.wanted o (yielded ops a.tmps) = true) (cells : Array Value)
    (hb : P.built t (parts.map fun (i, x) => (i, a.eval x)).toList = some cells) : YieldsIf P ops S o (.agg cells) a :=
  .inl ⟨hw, fun w _ => by
    have := run_build (P := P) w t (parts.map fun (i, x) => (i, a.eval x)) cells hb
    simp only [execOp, ho, Sem.run_bind, this, Result.andThen_ok]
    rfl⟩
theorem wpOp_store_row {i : Nat} {o : Oper} {a : Act} {w : World} {K : Act → World → Prop} (hi : ops[i]? = some o) (hw : Region.wanted o (yielded ops a.tmps) = true) (ty : TypeId) (x y : Operand) (ho : o.op = .store ty x y)
    (g : Nat) (cells : Array Value) (hx : a.eval x = .pointer (some ⟨g, 0, none⟩)) (hy : a.eval y = .agg cells) (t : TypeId) (old : Array Value) (hg : w.heap[g]? = some (.cells old t (0, 0)))
    (hz : (P.info? ty).map (·.size) = some cells.size) (hold : old.size = cells.size) (h1 : cells.all (·.oneCell') = true) (h : ∀ w', Hid (w' = w.setRow g cells) → K (a.put o.dst undef) w') : wpOp P ops Q i K a w := by
  unfold wpOp
  simp only [hi, hw, if_true]
  exact .inl (wp_store_row ty x y ho g cells hx hy t old hg hz hold h1 (h _ (Lib.hid rfl)))

theorem run_copy_str (w : World) (dT sT ty elem : TypeId) (g o dLen dCap : Nat) (s : ByteArray) (cur : Array Value) (t : TypeId)
    (hu : P.underlying dT = some (.slice elem)) (hs : (P.info? elem).map (·.size) = some 1) (hg : w.heap[g]? = some (.cells cur t (0, 0))) (m : Nat) (hm : Nat.min s.size dLen = m) (hfit : o + m ≤ cur.size) :
    (Builtin.copy_ #[dT, sT] ty #[.slice (some ⟨g, o, none⟩) dLen dCap, .string s]).run P w =
      .ok (.int .i64 m) (w.setRow g (cur.toList.take o ++ byV ((bl s).take m) ++ cur.toList.drop (o + m)).toArray) := by
  have hms : m ≤ s.size := by rw [← hm]; exact Nat.min_le_left _ _
  have hlen : (byV ((bl s).take m)).length = m := by simp [byV, bl_length]; omega
  have hst := run_storeCells_at P g o t (byV ((bl s).take m)) 0 cur w hg (by rw [hlen]; simpa using hfit) (byV_one _)
  have h0 : (s.extract 0 m).data.toList = (bl s).take m := by
    have := bl_extract s 0 m
    rw [List.drop_zero, Nat.sub_zero] at this
    exact this
  rw [hlen, Nat.add_zero] at hst
  cases hq : P.info? elem with
  | none => simp [hq] at hs
  | some i =>
    have hi : i.size = 1 := by simpa [hq] using hs
    have hcs : (Array.map (fun b => Value.int .u8 b.toNat) (s.extract 0 m).data).toList = byV ((bl s).take m) := by
      rw [Array.toList_map, h0]
      rfl
    have hm' : s.size.min dLen = m := hm
    simp only [Builtin.copy_, run_underlying hu, Builtin.lenOf, Builtin.firstCells, Sem.run_bind, Sem.run_pure, Result.andThen_ok, List.getElem?_toArray, List.getElem?_cons_zero, List.getElem?_cons_succ, hm', hcs, hst]
    simp [sizeOf, typeInfo, hq, hi, hm', hst, goInt]
theorem wpOp_copy_str {i : Nat} {o : Oper} {a : Act} {w : World} {K : Act → World → Prop} (hi : ops[i]? = some o) (hwt : Region.wanted o (yielded ops a.tmps) = true) (d s : Operand) (dT sT : TypeId)
    (ho : o.op = .call { callee := .builtin .copy, args := #[d, s], argTypes := #[dT, sT] }) (elem : TypeId) (hu : P.underlying dT = some (.slice elem)) (hsz : (P.info? elem).map (·.size) = some 1)
    (g off dLen dCap : Nat) (x : ByteArray) (hd : a.eval d = .slice (some ⟨g, off, none⟩) dLen dCap) (hs : a.eval s = .string x)
    (cur : Array Value) (t : TypeId) (hg : w.heap[g]? = some (.cells cur t (0, 0))) (m : Nat) (hm : Nat.min x.size dLen = m) (hfit : off + m ≤ cur.size)
    (h : ∀ w', Hid (w' = w.setRow g (cur.toList.take off ++ byV ((bl x).take m) ++ cur.toList.drop (off + m)).toArray) → K (a.put o.dst (.int .i64 m)) w') : wpOp P ops Q i K a w := by
  have hrun := run_copy_str (P := P) w dT sT o.type elem g off dLen dCap x cur t hu hsz hg m hm hfit
  refine wpOp_run hi hwt (v := .int .i64 m) (w' := w.setRow g (cur.toList.take off ++ byV ((bl x).take m) ++ cur.toList.drop (off + m)).toArray) ?_ (h _ (Lib.hid rfl))
  simp only [execOp, ho, resolve, invoke, builtin, List.map_toArray, List.map_cons, List.map_nil, hd, hs, Sem.run_bind, Sem.run_pure, hrun, Result.andThen_ok]
end
end Go.Proofs.YtdmonfimdinkeaaGreatDoor.WrC
