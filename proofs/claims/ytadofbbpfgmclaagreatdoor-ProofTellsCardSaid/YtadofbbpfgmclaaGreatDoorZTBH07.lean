/-
  WHAT IS PROVED: contracts of functions, and plain laws. Condition: what each theorem names.
-/
import Derived.Test.YtadofbbpfgmclaaGreatDoorS0
import Derived.Test.YtadofbbpfgmclaaGreatDoorZTBH06
import Derived.Laws.CopyRow
set_option linter.unusedVariables false
set_option linter.unusedSimpArgs false
set_option maxRecDepth 100000
set_option maxHeartbeats 4000000
namespace Go.Proofs.YtadofbbpfgmclaaGreatDoor
namespace WrC
open Go Go.RowKit Wr
section
variable {P : Program} {ops : Array Oper} {Q : Exit → Act → World → Prop} {md : Region.Mode} {S : World → Prop}
def looker (o : Oper) (x : Operand) : Oper := { o with op := .move x, dst := none }
theorem looker_yields {o : Oper} {x : Operand} {a : Act} (hw : Region.wanted o (yielded ops a.tmps) = true) : YieldsIf P ops (fun _ => True) (looker o x) (a.eval x) a :=
 .inl ⟨hw, fun w _ => by simp [looker, execOp]⟩
theorem looker_eval {o : Oper} {x : Operand} {a : Act} {v : Value} (hv : v ≠ undef) (w : World) (h : YieldsIf P ops (fun _ => True) (looker o x) v a) : Region.wanted o (yielded ops a.tmps) = true ∧ a.eval x = v := by
 rcases h with ⟨h1, h2⟩ | ⟨_, h2⟩
 ·refine ⟨h1, ?_⟩
  have := h2 w trivial
  simpa [looker, execOp] using this
 ·exact absurd h2 hv
theorem wpOp_putC {j : Nat} {oi oj : Oper} {x : Operand} {v vx : Value} (hj : ops[j]? = some oj) (hap : oi.apart ops oj = true) (hax : (looker oi x).apart ops oj = true)
 (hsi : ∀ cs b, oi.op ≠ .select cs b) (hsj : ∀ cs b, oj.op ≠ .select cs b) (hQ : ∀ c a w, Q (.panic c) (a.put oi.dst v) w → Q (.panic c) a w) (hv : vx ≠ undef) {K : Act → World → Prop} {a : Act} {w : World}
 (hw : Region.wanted oi (yielded ops a.tmps) = true) (hx : a.eval x = vx) (h : wpOp P ops Q j K (a.put oi.dst v) w) :
 wpOp P ops Q j (fun a' w' => (Region.wanted oi (yielded ops a'.tmps) = true ∧ a'.eval x = vx) ∧ K (a'.put oi.dst v) w') a w := by
 have h1 := wpOp_putIf (S := fun _ => False) hj hap hsi hsj hQ (.inl ⟨hw, fun _ h => h.elim⟩) h
 have hy := looker_yields (P := P) (ops := ops) (x := x) hw
 rw [hx] at hy
 have h2 := wpOp_putIf (oi := looker oi x) (v := vx) hj hax (fun cs b => by simp [looker]) hsj (fun _ _ _ h => h) hy h1
 exact wpOp_mono (fun a' w' h' => ⟨looker_eval hv w' h'.1, h'.2.2⟩) h2
theorem wpAnyK_firstC {i : Nat} {oi : Oper} {x : Operand} {v vx : Value} (hi : ops[i]? = some oi) (hsel : ∀ (j : Nat) (o : Oper) cs b, ops[j]? = some o → o.op ≠ .select cs b)
 (hQ : ∀ c a w, Q (.panic c) (a.put oi.dst v) w → Q (.panic c) a w) (hv : vx ≠ undef)
 (hc : ∀ (a : Act) (w : World), a.eval x = vx → S w → ∃ f args, (execOp a.eval oi).run P w = .ok (.enter f args) w ∧ Calls P f args w fun e w' => e = .returned v ∧ w = w') :
 ∀ (fuel : Nat) (listed : Array Bool) (a : Act) (w : World),
   (∀ j oj, ops[j]? = some oj → j ≠ i → listed.getD j true = false → (∀ e ∈ oj.after, Region.binds md e = true → e.on ≠ i) → oi.apart ops oj = true ∧ (looker oi x).apart ops oj = true) →
   i ∈ Region.ready md ops listed → Region.wanted oi (yielded ops a.tmps) = true → a.eval x = vx → S w →
   Aq P md ops Q S [] fuel (listed.setIfInBounds i true) (a.put oi.dst v) w → Aq P md ops Q S [] (fuel + 1) listed a w := by
 have hone : ∀ (K : Act → World → Prop) (a : Act) (w : World), Region.wanted oi (yielded ops a.tmps) = true → a.eval x = vx → S w → K (a.put oi.dst v) w → wpOp P ops Q i K a w := by
  intro K a w hw hx hS hK
  obtain ⟨f, args, hr, hcall⟩ := hc a w hx hS
  exact BO hi hw hr (hcall.mono fun e w' ⟨he, hww⟩ => ⟨v, he, by subst hww; exact hK⟩)
 intro fuel
 induction fuel with
 | zero =>
   intro listed a w _ hr hw hx hS H
   refine ⟨fun h => (by rw [h] at hr; cases hr), fun j hj => ?_⟩
   by_cases hji : j = i
   ·subst hji; exact hone _ a w hw hx hS ⟨fun _ => hS, H⟩
   ·have := ready_mono hj hji
    rw [H.1] at this
    cases this
 | succ fuel ih =>
   intro listed a w hfree hr hw hx hS H
   refine ⟨fun h => (by rw [h] at hr; cases hr), fun j hj => ?_⟩
   by_cases hji : j = i
   ·subst hji; exact hone _ a w hw hx hS ⟨fun _ => hS, H⟩
   ·have h1 := H.2 j (ready_mono hj hji)
    obtain ⟨hjun, oj, hoj, hall⟩ := mem_ready.1 hj
    have hun : ∀ k, listed.getD k true = false → listed.getD k false = true → False := fun k h0 h1 => by
        rcases Nat.lt_or_ge k listed.size with h' | h'
        ·simp [h'] at h0 h1; rw [h0] at h1; cases h1
        ·simp [Array.getElem?_eq_none h'] at h1
    have hnot : ∀ e ∈ oj.after, Region.binds md e = true → e.on ≠ i := fun e he hb heq => hun i (mem_ready.1 hr).1 (by rw [← heq]; exact hall e he hb)
    obtain ⟨ap1, ap2⟩ := hfree j oj hoj hji hjun hnot
    have h2 := wpOp_putC hoj ap1 ap2 (fun cs b => hsel i oi cs b hi) (fun cs b => hsel j oj cs b hoj) hQ hv hw hx h1
    have hfree' : ∀ k ok, ops[k]? = some ok → k ≠ i → (listed.setIfInBounds j true).getD k true = false →
     (∀ e ∈ ok.after, Region.binds md e = true → e.on ≠ i) → oi.apart ops ok = true ∧ (looker oi x).apart ops ok = true := fun k ok hk hki hun hno => by
        refine hfree k ok hk hki ?_ hno
        by_cases hjk : j = k
        ·subst hjk; exact hjun
        ·rw [getD_set_ne true hjk] at hun; exact hun
    refine wpOp_mono (fun a' w' h3 => ?_) h2
    have hS' : S w' := h3.2.1 ⟨by simp, by simp⟩
    refine ⟨fun _ => hS', ih (listed.setIfInBounds j true) a' w' hfree' (ready_mono hr (Ne.symm hji)) h3.1.1 h3.1.2 hS' ?_⟩
    rw [Array.setIfInBounds_comm _ _ hji]
    exact h3.2.2
def freeC (md : Region.Mode) (ops : Array Oper) (listed : Array Bool) (i : Nat) (x : Operand) : Bool :=
 match ops[i]? with
 | some oi => (List.range ops.size).all fun j => j == i || (listed.getD j true || match ops[j]? with
  | some oj => oj.after.any (fun e => Region.binds md e && e.on == i) || (looker oi x).apart ops oj
  | none => true)
 | none => false
theorem freeC_spec {i : Nat} {oi : Oper} {x : Operand} {listed : Array Bool} (hi : ops[i]? = some oi) (h : freeC md ops listed i x = true) (j : Nat) (oj : Oper) (hj : ops[j]? = some oj) (hne : j ≠ i) (hun : listed.getD j true = false)
 (hno : ∀ e ∈ oj.after, Region.binds md e = true → e.on ≠ i) : (looker oi x).apart ops oj = true := by
 simp only [freeC, hi, List.all_eq_true, List.mem_range] at h
 have h1 := h j (Array.getElem?_eq_some_iff.1 hj).1
 simp only [hj, Bool.or_eq_true, beq_iff_eq, hne, false_or, hun, Bool.false_eq_true] at h1
 rcases h1 with h1 | h1
 ·obtain ⟨e, he, hb⟩ := Array.any_eq_true'.1 h1
  simp only [Bool.and_eq_true, beq_iff_eq] at hb
  exact absurd hb.2 (hno e (by simpa using he) hb.1)
 ·exact h1
theorem Br {i : Nat} {oi : Oper} (x : Operand) (vx : Value) {v : Value} {fuel : Nat} {listed : Array Bool} {a : Act} {w : World} (hi : ops[i]? = some oi)
 (hc : (Region.noSelect ops && (Region.free md ops listed i && (freeC md ops listed i x && (Region.ready md ops listed).contains i))) = true)
 (hQ : ∀ c a w, Q (.panic c) (a.put oi.dst v) w → Q (.panic c) a w) (hv : vx ≠ undef) (hw : Region.wanted oi (yielded ops a.tmps) = true) (hx : a.eval x = vx)
 (hcall : ∀ (a : Act) (w : World), a.eval x = vx → S w → ∃ f args, (execOp a.eval oi).run P w = .ok (.enter f args) w ∧ Calls P f args w fun e w' => e = .returned v ∧ w = w') (hS : S w)
 (h : Aq P md ops Q S [] fuel (listed.setIfInBounds i true) (a.put oi.dst v) w) : Aq P md ops Q S [] (fuel + 1) listed a w := by
 simp only [Bool.and_eq_true] at hc
 obtain ⟨hs, hf, hg, hr⟩ := hc
 exact wpAnyK_firstC hi (Region.noSelect_spec hs) hQ hv hcall fuel listed a w (fun j oj h1 h2 h3 h4 => ⟨Region.free_spec hi hf j oj h1 h2 h3 h4, freeC_spec hi hg j oj h1 h2 h3 h4⟩) (by simpa using hr) hw hx hS h
/-! ### Whole rows, and copies of texts -/
theorem CR {o : Oper} {a : Act} (t : TypeId) (parts : Array (Nat × Operand)) (ho : o.op = .build t parts) (hw : Region.wanted o (yielded ops a.tmps) = true) (cells : Array Value)
 (hb : P.built t (parts.map fun (i, x) => (i, a.eval x)).toList = some cells) : YieldsIf P ops S o (.agg cells) a :=
 .inl ⟨hw, fun w _ => by
  have := run_build (P := P) w t (parts.map fun (i, x) => (i, a.eval x)) cells hb
  simp only [execOp, ho, Sem.run_bind, this, Result.andThen_ok]
  rfl⟩
theorem BC {i : Nat} {o : Oper} {a : Act} {w : World} {K : Act → World → Prop} (hi : ops[i]? = some o) (hw : Region.wanted o (yielded ops a.tmps) = true) (ty : TypeId) (x y : Operand) (ho : o.op = .store ty x y)
 (g : Nat) (cells : Array Value) (hx : a.eval x = .pointer (some ⟨g, 0, none⟩)) (hy : a.eval y = .agg cells) (t : TypeId) (old : Array Value) (hg : w.heap[g]? = some (.cells old t (0, 0)))
 (hz : (P.info? ty).map (·.size) = some cells.size) (hold : old.size = cells.size) (h1 : cells.all (·.oneCell') = true) (h : ∀ w', Hid (w' = w.setRow g cells) → K (a.put o.dst undef) w') : wpOp P ops Q i K a w := by
 unfold wpOp
 simp only [hi, hw, if_true]
 exact .inl (wp_store_row ty x y ho g cells hx hy t old hg hz hold h1 (h _ (lh rfl)))
theorem wpOp_load_row {i : Nat} {o : Oper} {a : Act} {w : World} {K : Act → World → Prop} (hi : ops[i]? = some o) (hw : Region.wanted o (yielded ops a.tmps) = true) (ty : TypeId) (x : Operand) (ho : o.op = .load ty x)
 (g : Nat) (hx : a.eval x = .pointer (some ⟨g, 0, none⟩)) (t : TypeId) (cs : Array Value) (fr : Nat × Nat) (d : TypeDesc) (hg : w.heap[g]? = some (.cells cs t fr))
 (hu : P.underlying ty = some d) (hd : (match d with | .struct _ | .array _ _ => true | _ => false) = true) (hz : (P.info? ty).map (·.size) = some cs.size) (h : K (a.put o.dst (.agg cs)) w) : wpOp P ops Q i K a w := by
 unfold wpOp
 simp only [hi, hw, if_true]
 exact .inl (wp_load_row ty x ho g hx t cs fr d hg hu hd hz h)
theorem IG (w : World) (dT sT ty elem : TypeId) (g o dLen dCap : Nat) (s : ByteArray) (cur : Array Value) (t : TypeId)
 (hu : P.underlying dT = some (.slice elem)) (hs : (P.info? elem).map (·.size) = some 1) (hg : w.heap[g]? = some (.cells cur t (0, 0))) (m : Nat) (hm : Nat.min s.size dLen = m) (hfit : o + m ≤ cur.size) :
 (Builtin.copy_ #[dT, sT] ty #[.slice (some ⟨g, o, none⟩) dLen dCap, .string s]).run P w =
  .ok (.int .i64 m) (w.setRow g (cur.toList.take o ++ byV ((bl s).take m) ++ cur.toList.drop (o + m)).toArray) := by
 have hms : m ≤ s.size := by rw [← hm]; exact Nat.min_le_left _ _
 have hlen : (byV ((bl s).take m)).length = m := by simp [byV, AP]; omega
 have hst := run_storeCells_at P g o t (byV ((bl s).take m)) 0 cur w hg (by rw [hlen]; simpa using hfit) (byV_one _)
 have h0 : (s.extract 0 m).data.toList = (bl s).take m := by
  have := Aj s 0 m
  rw [List.drop_zero, Nat.sub_zero] at this
  exact this
 rw [hlen, Nat.add_zero] at hst
 cases hq : P.info? elem with
 | none => simp [hq] at hs
 | some i =>
   have hi : i.size = 1 := by simpa [hq] using hs
   have hcs : (Array.map (fun b => Value.int .u8 b.toNat) (s.extract 0 m).data).toList = byV ((bl s).take m) := by
    rw [Array.toList_map, h0]
    rfl
   have hm' : s.size.min dLen = m := hm
   simp only [Builtin.copy_, run_underlying hu, Builtin.lenOf, Builtin.firstCells, Sem.run_bind, Sem.run_pure, Result.andThen_ok, List.getElem?_toArray, List.getElem?_cons_zero, List.getElem?_cons_succ, hm', hcs, hst]
   simp [sizeOf, typeInfo, hq, hi, hm', hst, goInt]
theorem Bp {i : Nat} {o : Oper} {a : Act} {w : World} {K : Act → World → Prop} (hi : ops[i]? = some o) (hwt : Region.wanted o (yielded ops a.tmps) = true) (d s : Operand) (dT sT : TypeId)
 (ho : o.op = .call { callee := .builtin .copy, args := #[d, s], argTypes := #[dT, sT] }) (elem : TypeId) (hu : P.underlying dT = some (.slice elem)) (hsz : (P.info? elem).map (·.size) = some 1)
 (g off dLen dCap : Nat) (x : ByteArray) (hd : a.eval d = .slice (some ⟨g, off, none⟩) dLen dCap) (hs : a.eval s = .string x)
 (cur : Array Value) (t : TypeId) (hg : w.heap[g]? = some (.cells cur t (0, 0))) (m : Nat) (hm : Nat.min x.size dLen = m) (hfit : off + m ≤ cur.size)
 (h : ∀ w', Hid (w' = w.setRow g (cur.toList.take off ++ byV ((bl x).take m) ++ cur.toList.drop (off + m)).toArray) → K (a.put o.dst (.int .i64 m)) w') : wpOp P ops Q i K a w := by
 have hrun := IG (P := P) w dT sT o.type elem g off dLen dCap x cur t hu hsz hg m hm hfit
 refine Au hi hwt (v := .int .i64 m) (w' := w.setRow g (cur.toList.take off ++ byV ((bl x).take m) ++ cur.toList.drop (off + m)).toArray) ?_ (h _ (lh rfl))
 simp only [execOp, ho, resolve, invoke, builtin, List.map_toArray, List.map_cons, List.map_nil, hd, hs, Sem.run_bind, Sem.run_pure, hrun, Result.andThen_ok]
end
end WrC
namespace WireT
open Go Go.RowKit Go.Shelf OctetS IdentS EntS WireS OctG OctP OctQ EventP EventC EntP
/-! ### Small numbers -/
def numI (m : Nat) (t : List UInt8) : Int := match small m t with | some n => n | none => -1
theorem Cv {m n : Nat} {t : List UInt8} (h : small m t = some n) : numI m t = n := by unfold numI; rw [h]
theorem EK {m : Nat} {t : List UInt8} (h : small m t = none) : numI m t = -1 := by unfold numI; rw [h]
theorem C8 (m : Nat) {t : List UInt8} {n u : Nat} {y : Int} (hg : Aa t = (n, u, y)) :
 (y ≠ 0 ∧ small m t = none) ∨ (y = 0 ∧ u < t.length ∧ small m t = none) ∨ (y = 0 ∧ u = t.length ∧ m < n ∧ n ≤ Av ∧ small m t = none) ∨ (y = 0 ∧ u = t.length ∧ n ≤ m ∧ n ≤ Av ∧ small m t = some n) := by
 by_cases hy : y = 0
 ·subst hy
  obtain ⟨_, _, hu, _, hn⟩ := Cx hg
  by_cases h1 : u < t.length
  ·exact .inr (.inl ⟨rfl, h1, by unfold small; rw [hg]; exact if_neg (fun h => by simp only at h; omega)⟩)
  ·by_cases h2 : m < n
   ·exact .inr (.inr (.inl ⟨rfl, by omega, h2, hn, by unfold small; rw [hg]; exact if_neg (fun h => by simp only at h; omega)⟩))
   ·exact .inr (.inr (.inr ⟨rfl, by omega, by omega, hn, by unfold small; rw [hg]; exact if_pos ⟨rfl, by simp only; omega, by simp only; omega⟩⟩))
 ·exact .inl ⟨hy, by unfold small; rw [hg]; exact if_neg (fun h => hy h.1)⟩
theorem Ee {t : List UInt8} {n u : Nat} {y : Int} (hg : Aa t = (n, u, y)) : n ≤ Av := by
 rcases EL t with h | h | h
 ·rw [hg] at h
  simp only at h
  subst h
  exact (Cx hg).2.2.2.2
 ·rw [hg] at h; cases h; omega
 ·rw [hg] at h; cases h; omega
theorem small_le {m n : Nat} {t : List UInt8} (h : small m t = some n) : n ≤ m := (EI h).1
theorem Dv (t : List UInt8) : Bw (numI 4096 t) = (small 4096 t).isSome := by
 cases h : small 4096 t with
 | none => rw [EK h]; rfl
 | some n => rw [Cv h]; have := small_le h; simp [Bw]; omega
/-! ### A list, and its cells -/
theorem list_at {w0 w : World} {v : Value} {l : List (List UInt8)} (h : Cf w0 w v l) (hl : l ≠ []) :
 ∃ B cap, v = .slice (some ⟨B, 0, none⟩) l.length cap ∧ w0.heap.size ≤ B ∧ ∀ j t, l[j]? = some t → w.cell? ⟨B, j, none⟩ = some (.string (bsOf t)) := by
 unfold Cf at h
 have hs := Sl.ofOwn h
 rcases h.2 with ⟨_, h0⟩ | ⟨B, cap, cur, rfl, hB, _⟩
 ·exfalso
  exact hl (by simpa [strV] using h0)
 ·rcases hs.2 with ⟨h0, _⟩ | ⟨a', cap', e, _, _, hc⟩
  ·cases h0
  ·simp only [Value.slice.injEq, Option.some.injEq] at e
   obtain ⟨rfl, _, rfl⟩ := e
   refine ⟨B, cap, rfl, hB, fun j t ht => ?_⟩
   have := hc j (.string (bsOf t)) (by simp [strV, ht])
   rw [Addr.add_mid, Nat.zero_add] at this
   exact this
/-! ### Entries -/
theorem BM (r : ByteArray) (ep ix : Int) (pv : List UInt8) (e s : ByteArray) : (entA r ep ix pv e s).all (·.oneCell') = true := by
 simp [entA, byV, Value.oneCell']
theorem Dw {r : ByteArray} {ep ix : Int} {pv : List UInt8} {e s : ByteArray} (h : pv.length = 32) : (entA r ep ix pv e s).size = 37 := by simp [entA, Ae, h]
def Cc : List UInt8 := List.replicate 32 0
theorem EG : Cc.length = 32 := rfl
def entZ : Array Value := entA ⟨#[]⟩ 0 0 Cc ⟨#[]⟩ ⟨#[]⟩
def entV : Option Ent → Value
 | some e => .tuple #[.agg (entA (bsOf e.room) e.ep e.ix e.prev (bsOf e.ev) (bsOf e.sig)), .int .i64 0]
 | none => .tuple #[.agg entZ, .int .i64 6]
theorem ent_copy (r : ByteArray) (ep ix : Int) {z pv : List UInt8} (hz : z.length = 32) (hp : pv.length = 32) (e s : ByteArray) :
 ((entA r ep ix z e s).toList.take 3 ++ byV (pv.take 32) ++ (entA r ep ix z e s).toList.drop (3 + 32)).toArray = entA r ep ix pv e s := by
 have h1 : pv.take 32 = pv := List.take_of_length_le (by omega)
 rw [h1]
 unfold entA
 have h2 : (byV z).length = 32 := by rw [Ae, hz]
 have h3 : ([.string r, .int .i64 ep, .int .i64 ix] ++ byV z ++ [.string e, .string s] : List Value).drop (3 + 32) = [.string e, .string s] := by
  have h4 : ([.string r, .int .i64 ep, .int .i64 ix] ++ byV z : List Value).length = 3 + 32 := by simp [h2]
  rw [← h4, List.drop_left]
 simp only [h3]
 congr 1
theorem read_bad {s : List UInt8} {l : List (List UInt8)} {y : Int} (ha : all s = (l, y)) (h : y ≠ 0 ∨ l.length ≠ 6) : WireS.read s = none := by
 unfold WireS.read
 rw [ha]
 rcases h with h | h
 ·exact if_neg h
 ·split
  ·unfold FD
   split
   ·rename_i heq
    simp only at heq
    subst heq
    simp at h
   ·rfl
  ·rfl
theorem read_mark {s : List UInt8} {k r a b p v : List UInt8} (ha : all s = ([k, r, a, b, p, v], 0)) (h : k ≠ EntS.mark) : WireS.read s = none := by
 unfold WireS.read
 rw [ha]
 simp [FD, h]
theorem Fv {s : List UInt8} {r a b p v : List UInt8} (ha : all s = ([EntS.mark, r, a, b, p, v], 0)) :
 WireS.read s = if p.length = 32 ∧ EntS.A9 ⟨r, numI 4096 a, numI 4096 b, p, v, []⟩ = true then some ⟨r, numI 4096 a, numI 4096 b, p, v, []⟩ else none := by
 obtain ⟨hfit, _⟩ := all_ok ha
 obtain ⟨_, hlen⟩ := Ca.1 hfit
 have hv : v.length ≤ 8192 := hlen v (by simp)
 unfold WireS.read
 rw [ha]
 simp only [if_true, FD, EntS.A9, Dv, List.length_nil]
 cases h1 : small 4096 a with
 | none => simp
 | some x =>
   cases h2 : small 4096 b with
   | none => simp
   | some z =>
     simp only [Option.bind_some, Cv h1, Cv h2, Option.isSome_some, Bool.true_and]
     by_cases h3 : p.length = 32 ∧ DU r = true
     ·rw [if_pos h3, if_pos ⟨h3.1, by simp [h3.2, hv]⟩]
     ·rw [if_neg h3, if_neg (fun h => h3 ⟨h.1, by simpa [hv] using h.2⟩)]
/-! ### Heads -/
def hdA (r : ByteArray) (ep ix : Int) (sm : List UInt8) (s : ByteArray) : Array Value := ([.string r, .int .i64 ep, .int .i64 ix] ++ byV sm ++ [.string s] : List Value).toArray
structure HdP (p : Array Value) (r : ByteArray) (ep ix : Int) (sm : List UInt8) (s : ByteArray) : Prop where
 eq : p = hdA r ep ix sm s
 len : sm.length = 32
section
variable {p : Array Value} {r : ByteArray} {ep ix : Int} {sm : List UInt8} {s : ByteArray}
theorem HdP.size (h : HdP p r ep ix sm s) : p.size = 36 := by rw [h.eq]; simp [hdA, Ae, h.len]
theorem HdP.c0 (h : HdP p r ep ix sm s) : p[0]? = some (.string r) := by rw [h.eq]; rfl
theorem HdP.c1 (h : HdP p r ep ix sm s) : p[1]? = some (.int .i64 ep) := by rw [h.eq]; rfl
theorem HdP.c2 (h : HdP p r ep ix sm s) : p[2]? = some (.int .i64 ix) := by rw [h.eq]; rfl
theorem HdP.cp (h : HdP p r ep ix sm s) (j : Nat) (u : Value) (hj : (byV sm)[j]? = some u) : p[3 + j]? = some u := by
 have hl : j < 32 := by
  have := (List.getElem?_eq_some_iff.1 hj).1
  rw [Ae, h.len] at this
  exact this
 rw [h.eq]
 unfold hdA
 rw [List.getElem?_toArray, List.getElem?_append_left (by simp [Ae, h.len]; omega), List.getElem?_append_right (by simp)]
 simpa using hj
theorem HdP.c35 (h : HdP p r ep ix sm s) : p[35]? = some (.string s) := by
 rw [h.eq]
 unfold hdA
 rw [List.getElem?_toArray, List.getElem?_append_right (by simp [Ae, h.len])]
 simp [Ae, h.len]
end
theorem BI (r : ByteArray) (ep ix : Int) (pv : List UInt8) (s : ByteArray) : (hdA r ep ix pv s).all (·.oneCell') = true := by
 simp [hdA, byV, Value.oneCell']
theorem DL {r : ByteArray} {ep ix : Int} {pv : List UInt8} {s : ByteArray} (h : pv.length = 32) : (hdA r ep ix pv s).size = 36 := by simp [hdA, Ae, h]
def hdZ : Array Value := hdA ⟨#[]⟩ 0 0 Cc ⟨#[]⟩
def hdV : Option Hd → Value
 | some e => .tuple #[.agg (hdA (bsOf e.room) e.ep e.ix e.sum (bsOf e.sig)), .int .i64 0]
 | none => .tuple #[.agg hdZ, .int .i64 6]
theorem hd_copy (r : ByteArray) (ep ix : Int) {z pv : List UInt8} (hz : z.length = 32) (hp : pv.length = 32) (s : ByteArray) :
 ((hdA r ep ix z s).toList.take 3 ++ byV (pv.take 32) ++ (hdA r ep ix z s).toList.drop (3 + 32)).toArray = hdA r ep ix pv s := by
 have h1 : pv.take 32 = pv := List.take_of_length_le (by omega)
 rw [h1]
 unfold hdA
 have h2 : (byV z).length = 32 := by rw [Ae, hz]
 have h3 : ([.string r, .int .i64 ep, .int .i64 ix] ++ byV z ++ [.string s] : List Value).drop (3 + 32) = [.string s] := by
  have h4 : ([.string r, .int .i64 ep, .int .i64 ix] ++ byV z : List Value).length = 3 + 32 := by simp [h2]
  rw [← h4, List.drop_left]
 simp only [h3]
 congr 1
theorem hd_sig (r : ByteArray) (ep ix : Int) {pv : List UInt8} (hp : pv.length = 32) (s s' : ByteArray) : (hdA r ep ix pv s).setIfInBounds 35 (.string s') = hdA r ep ix pv s' := by
 have h2 : (byV pv).length = 32 := by rw [Ae, hp]
 obtain ⟨l, hl⟩ := nXe (byV pv)
 unfold hdA
 rw [← hl] at h2 ⊢
 rw [List.setIfInBounds_toArray]
 congr 1
 rw [List.set_append_right _ _ (by simp [h2])]
 simp [h2]
def hdOf (r : ByteArray) (ep ix : Int) (sm : List UInt8) (s : ByteArray) : Hd := ⟨bl r, ep, ix, sm, bl s⟩
def Ck (e : Hd) : Bool := DU e.room && (Bw e.ep && (Bw e.ix && decide (e.sig.length ≤ 8192)))
theorem readH_bad {s : List UInt8} {l : List (List UInt8)} {y : Int} (ha : all s = (l, y)) (h : y ≠ 0 ∨ l.length ≠ 5) : Cn s = none := by
 unfold Cn
 rw [ha]
 rcases h with h | h
 ·exact if_neg h
 ·split
  ·unfold EU
   split
   ·rename_i heq
    simp only at heq
    subst heq
    simp at h
   ·rfl
  ·rfl
theorem readH_mark {s : List UInt8} {k r a b p : List UInt8} (ha : all s = ([k, r, a, b, p], 0)) (h : k ≠ CY) : Cn s = none := by
 unfold Cn
 rw [ha]
 simp [EU, h]
theorem Eh {s : List UInt8} {r a b p : List UInt8} (ha : all s = ([CY, r, a, b, p], 0)) :
 Cn s = if p.length = 32 ∧ Ck ⟨r, numI 4096 a, numI 4096 b, p, []⟩ = true then some ⟨r, numI 4096 a, numI 4096 b, p, []⟩ else none := by
 unfold Cn
 rw [ha]
 simp only [if_true, EU, Ck, Dv, List.length_nil]
 cases h1 : small 4096 a with
 | none => simp
 | some x =>
   cases h2 : small 4096 b with
   | none => simp
   | some z =>
     simp only [Option.bind_some, Cv h1, Cv h2, Option.isSome_some, Bool.true_and]
     by_cases h3 : p.length = 32 ∧ DU r = true
     ·rw [if_pos h3, if_pos ⟨h3.1, by simp [h3.2]⟩]
     ·rw [if_neg h3, if_neg (fun h => h3 ⟨h.1, by simpa using h.2⟩)]
/-! ### Bytes: two texts -/
/-! ### Deals -/
def dlA (k : Int) (r : ByteArray) (ep ix hub next : Int) (s : ByteArray) : Array Value := #[.int .u8 k, .string r, .int .i64 ep, .int .i64 ix, .int .i64 hub, .int .i64 next, .string s]
def dlZ : Array Value := dlA 0 ⟨#[]⟩ 0 0 0 0 ⟨#[]⟩
/-! ### Proofs -/
def pfA (n : Int) (a x b y : ByteArray) : Array Value := #[.int .i64 n, .string a, .string x, .string b, .string y]
def pfZ : Array Value := pfA 0 ⟨#[]⟩ ⟨#[]⟩ ⟨#[]⟩ ⟨#[]⟩
def pfV : Option Pf → Value
 | some e => .tuple #[.agg (pfA e.server (bsOf e.a) (bsOf e.sigA) (bsOf e.b) (bsOf e.sigB)), .int .i64 0]
 | none => .tuple #[.agg pfZ, .int .i64 6]
theorem parseP_bad {s : List UInt8} {l : List (List UInt8)} {y : Int} (ha : all s = (l, y)) (h : y ≠ 0 ∨ l.length ≠ 5) : Cj s = none := by
 unfold Cj
 rw [ha]
 rcases h with h | h
 ·exact if_neg h
 ·split
  ·unfold D9
   split
   ·rename_i heq
    simp only at heq
    subst heq
    simp at h
   ·rfl
  ·rfl
theorem Et {s n a x b y : List UInt8} (ha : all s = ([n, a, x, b, y], 0)) : Cj s = (small 63 n).map fun k => ⟨k, a, x, b, y⟩ := by
 unfold Cj
 rw [ha]
 simp only [if_true, D9]
 cases small 63 n <;> rfl
/-! ### Rejections -/
/-! ### Messages -/
def msA (k f t : Int) (b : ByteArray) : Array Value := #[.int .u8 k, .int .i64 f, .int .i64 t, .string b]
def msZ : Array Value := msA 0 0 0 ⟨#[]⟩
/-! ### Results and rows -/
theorem AV {P : Program} {fn : Func} {p q : Tmp} {ty : TypeId} (h : fn.results = #[.cell p ty, .tmp q]) (tmps : Array Value) (w : World) (g : Nat) (t : TypeId) (cs : Array Value) (fr : Nat × Nat) (d : TypeDesc)
 (hp : tmps.getD p undef = .pointer (some ⟨g, 0, none⟩)) (hg : w.heap[g]? = some (.cells cs t fr))
 (hu : P.underlying ty = some d) (hd : (match d with | .struct _ | .array _ _ => true | _ => false) = true) (hi : (P.info? ty).map (·.size) = some cs.size) {v : Value} (hq : tmps.getD q undef = v) :
 (results fn tmps).run P w = .ok (.tuple #[.agg cs, v]) w := by
 have hp' : tmps[p]?.getD undef = .pointer (some ⟨g, 0, none⟩) := by simpa using hp
 have hq' : tmps[q]?.getD undef = v := by simpa using hq
 simp [results, h, hp', hq', asAddr, run_loadVar_row w g t ty cs fr d hg hu hd hi]
theorem Ad {P : Program} {ops : Array Oper} {rest : List Oper} {o : Oper} {a : Act} {w : World} {Q : Exit → Act → World → Prop} (hw : Region.wanted o (yielded ops a.tmps) = true) (ty : TypeId) (x : Operand) (ho : o.op = .load ty x)
 (g : Nat) (hx : a.eval x = .pointer (some ⟨g, 0, none⟩)) (t : TypeId) (cs : Array Value) (fr : Nat × Nat) (d : TypeDesc) (hg : w.heap[g]? = some (.cells cs t fr))
 (hu : P.underlying ty = some d) (hd : (match d with | .struct _ | .array _ _ => true | _ => false) = true) (hi : (P.info? ty).map (·.size) = some cs.size)
 (h : wpList P ops Q rest (a.put o.dst (.agg cs)) w) : wpList P ops Q (o :: rest) a w := by
 unfold wpList
 rw [if_pos hw]
 exact .inl (wp_load_row ty x ho g hx t cs fr d hg hu hd hi h)
/-! ### More ways to see a list, and a text -/
theorem Cw {w0 w : World} {v : Value} {l : List (List UInt8)} (n : Nat) (h : Cf w0 w v l) (hl : l.length = n) (h0 : n ≠ 0) :
 ∃ B cap, v = .slice (some ⟨B, 0, none⟩) n cap ∧ w0.heap.size ≤ B ∧ ∀ j t, l[j]? = some t → w.cell? ⟨B, j, none⟩ = some (.string (bsOf t)) := by
 subst hl
 exact list_at h (fun e => h0 (by rw [e]; rfl))
theorem AZ {s : List UInt8} {l : List (List UInt8)} (ha : all s = (l, 0)) (t : List UInt8) (ht : t ∈ l) : (bsOf t).size ≤ 8192 := by
 obtain ⟨hfit, _⟩ := all_ok ha
 rw [AY]
 exact (Ca.1 hfit).2 t ht
end WireT
namespace Wr
open Go Go.RowKit
section
variable {P : Program} {ops : Array Oper} {Q : Exit → Act → World → Prop} {md : Region.Mode} {S : World → Prop} {K : List Nat}
theorem wpAnyK_firstJ {J : List Nat} {i : Nat} {oi : Oper} {v : Value} (hi : ops[i]? = some oi) (hsel : ∀ (j : Nat) (o : Oper) cs b, ops[j]? = some o → o.op ≠ .select cs b)
 (hQ : ∀ c a w, Q (.panic c) (a.put oi.dst v) w → Q (.panic c) a w) (hiK : i ∉ K) (hKJ : ∀ k ∈ K, k ∈ J)
 (hK : ∀ k ∈ J, ∃ o, ops[k]? = some o ∧ ∃ e ∈ o.after, Region.binds md e = true ∧ (e.on = i ∨ e.on ∈ J)) :
 ∀ (fuel : Nat) (listed : Array Bool) (a : Act) (w : World),
   (∀ k ∈ J, listed.getD k true = false) →
   (∀ j oj, ops[j]? = some oj → j ≠ i → listed.getD j true = false → (∀ e ∈ oj.after, Region.binds md e = true → e.on ≠ i) → oi.apart ops oj = true) →
   i ∈ Region.ready md ops listed → YieldsIf P ops S oi v a → S w →
   Aq P md ops Q S K fuel (listed.setIfInBounds i true) (a.put oi.dst v) w → Aq P md ops Q S K (fuel + 1) listed a w := by
 intro fuel
 induction fuel with
 | zero =>
   intro listed a w _ _ hr hy hS H
   refine ⟨fun h => (by rw [h] at hr; cases hr), fun j hj => ?_⟩
   by_cases hji : j = i
   ·subst hji; exact hy.wpOp hi hS ⟨fun _ => hS, H⟩
   ·have := ready_mono hj hji
    rw [H.1] at this
    cases this
 | succ fuel ih =>
   intro listed a w hKl hfree hr hy hS H
   refine ⟨fun h => (by rw [h] at hr; cases hr), fun j hj => ?_⟩
   by_cases hji : j = i
   ·subst hji; exact hy.wpOp hi hS ⟨fun _ => hS, H⟩
   ·have h1 := H.2 j (ready_mono hj hji)
    obtain ⟨hjun, oj, hoj, hall⟩ := mem_ready.1 hj
    have hun : ∀ k, listed.getD k true = false → listed.getD k false = true → False := fun k h0 h1 => by
        rcases Nat.lt_or_ge k listed.size with h' | h'
        ·simp [h'] at h0 h1; rw [h0] at h1; cases h1
        ·simp [Array.getElem?_eq_none h'] at h1
    have hnot : ∀ e ∈ oj.after, Region.binds md e = true → e.on ≠ i := fun e he hb heq => hun i (mem_ready.1 hr).1 (by rw [← heq]; exact hall e he hb)
    have hjJ : j ∉ J := fun hj' => by
        obtain ⟨o, ho, e, he, hb, hor⟩ := hK j hj'
        obtain rfl : oj = o := Option.some.inj (hoj.symm.trans ho)
        rcases hor with h | h
        ·exact hnot e he hb h
        ·exact hun e.on (hKl e.on h) (hall e he hb)
    have hjK : j ∉ K := fun h => hjJ (hKJ j h)
    have h2 := wpOp_putIf hoj (hfree j oj hoj hji hjun hnot) (fun cs b => hsel i oi cs b hi) (fun cs b => hsel j oj cs b hoj) hQ hy h1
    have hfree' : ∀ k ok, ops[k]? = some ok → k ≠ i → (listed.setIfInBounds j true).getD k true = false →
     (∀ e ∈ ok.after, Region.binds md e = true → e.on ≠ i) → oi.apart ops ok = true := fun k ok hk hki hun hno => by
        refine hfree k ok hk hki ?_ hno
        by_cases hjk : j = k
        ·subst hjk; exact hjun
        ·rw [getD_set_ne true hjk] at hun; exact hun
    have hKi : ∀ k ∈ K, (listed.setIfInBounds i true).getD k true = false := fun k hk => by
        rw [getD_set_ne true (fun e => hiK (by rw [e]; exact hk))]; exact hKl k (hKJ k hk)
    have hKj : ∀ k ∈ J, (listed.setIfInBounds j true).getD k true = false := fun k hk => by
        rw [getD_set_ne true (fun e => hjJ (by rw [e]; exact hk))]; exact hKl k hk
    refine wpOp_mono (fun a' w' h3 => ⟨fun _ => h3.2.1 ⟨hjK, hKi⟩, ih (listed.setIfInBounds j true) a' w' hKj hfree' (ready_mono hr (Ne.symm hji)) h3.1 (h3.2.1 ⟨hjK, hKi⟩) ?_⟩) h2
    rw [Array.setIfInBounds_comm _ _ hji]
    exact h3.2.2
def waitsJ (md : Region.Mode) (ops : Array Oper) (K J : List Nat) (listed : Array Bool) (i : Nat) : Bool :=
 !K.contains i && (K.all (fun k => J.contains k) && J.all fun k => !(listed.getD k true) && match ops[k]? with
    | some o => o.after.any fun e => Region.binds md e && (e.on == i || J.contains e.on)
    | none => false)
theorem Ce (J : List Nat) {i : Nat} {oi : Oper} {v : Value} {fuel : Nat} {listed : Array Bool} {a : Act} {w : World} (hi : ops[i]? = some oi)
 (hc : (Region.noSelect ops && (Region.free md ops listed i && ((Region.ready md ops listed).contains i && waitsJ md ops K J listed i))) = true)
 (hQ : ∀ c a w, Q (.panic c) (a.put oi.dst v) w → Q (.panic c) a w) (hy : YieldsIf P ops S oi v a) (hS : S w)
 (h : Aq P md ops Q S K fuel (listed.setIfInBounds i true) (a.put oi.dst v) w) : Aq P md ops Q S K (fuel + 1) listed a w := by
 unfold waitsJ at hc
 simp only [Bool.and_eq_true, Bool.not_eq_true', List.all_eq_true] at hc
 obtain ⟨hs, hf, hr, h1, h2, h3⟩ := hc
 refine wpAnyK_firstJ (J := J) hi (Region.noSelect_spec hs) hQ (by simpa using h1) (fun k hk => by simpa using h2 k hk) (fun k hk => ?_) fuel listed a w (fun k hk => (h3 k hk).1) (Region.free_spec hi hf) (by simpa using hr) hy hS h
 have h4 := (h3 k hk).2
 split at h4
 ·rename_i o ho
  refine ⟨o, ho, ?_⟩
  simp only [Array.any_eq_true', Bool.and_eq_true, Bool.or_eq_true, beq_iff_eq, List.contains_iff_mem] at h4
  obtain ⟨e, he, hb, hor⟩ := h4
  exact ⟨e, by simpa using he, hb, hor⟩
 ·cases h4
end
end Wr
end Go.Proofs.YtadofbbpfgmclaaGreatDoor
