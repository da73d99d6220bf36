/-
  WHAT IS PROVED: contracts and plain laws. Condition: each names its own.
-/
import Derived.Test.YtceiajepcokacaaGreatDoorS0
import Derived.Test.YtceiajepcokacaaGreatDoorZHF06
import Derived.Laws.CopyRow
set_option linter.unusedVariables false
set_option linter.unusedSimpArgs false
set_option maxRecDepth 100000
set_option maxHeartbeats 4000000
namespace Go.Proofs.YtceiajepcokacaaGreatDoor
namespace WireS
open OctetS IdentS EntS
/-! ### Small numbers -/
def small (m : Nat) (t : List UInt8) : Option Nat := if (Ae t).2.2 = 0 ∧ t.length ≤ (Ae t).2.1 ∧ (Ae t).1 ≤ m then some (Ae t).1 else none
theorem OO {m n : Nat} (hm : m ≤ BC) (hn : n ≤ m) : small m (num n) = some n := by
 have h := FQ (n := n) (by omega) []
 rw [List.append_nil] at h
 unfold small
 rw [h]
 simp [hn]
theorem EU {m : Nat} {t : List UInt8} {n : Nat} (h : small m t = some n) : n ≤ m ∧ num n = t := by
 unfold small at h
 split at h
 ·rename_i hc
  cases h
  obtain ⟨h1, h2, h3⟩ := hc
  obtain ⟨n, u, y, hg⟩ : ∃ n u y, Ae t = (n, u, y) := ⟨_, _, _, rfl⟩
  rw [hg] at h1 h2 h3 ⊢
  simp only at h1 h2 h3 ⊢
  subst h1
  obtain ⟨_, _, hu, ht, _⟩ := Co hg
  refine ⟨h3, ?_⟩
  rw [ht, List.take_of_length_le h2]
 ·cases h
/-! ### Entries -/
def Fa : List (List UInt8) → Option Ent
 | [k, r, a, b, p, v] => if k = EntS.mark then (small 4096 a).bind fun x => (small 4096 b).bind fun y => if p.length = 32 ∧ DF r = true then some ⟨r, x, y, p, v, []⟩ else none else none
 | _ => none
def read (s : List UInt8) : Option Ent := if (all s).2 = 0 then Fa (all s).1 else none
def Ud (e : Ent) (s : List UInt8) : Ent := { e with sig := s }
def Wx : List (List UInt8) → Option Ent
 | [t, s] => (read t).map fun e => Ud e s
 | _ => none
def parse (s : List UInt8) : Option Ent := if (all s).2 = 0 then Wx (all s).1 else none
/-! ### Heads -/
structure Hd where
 room : List UInt8
 ep : Int
 ix : Int
 sum : List UInt8
 sig : List UInt8
def CL : List UInt8 := [104, 101, 97, 100]
def EM : List (List UInt8) → Option Hd
 | [k, r, a, b, p] => if k = CL then (small 4096 a).bind fun x => (small 4096 b).bind fun y => if p.length = 32 ∧ DF r = true then some ⟨r, x, y, p, []⟩ else none else none
 | _ => none
def Cc (s : List UInt8) : Option Hd := if (all s).2 = 0 then EM (all s).1 else none
def Sa (e : Hd) (s : List UInt8) : Hd := { e with sig := s }
def Uu : List (List UInt8) → Option Hd
 | [t, s] => (Cc t).map fun e => Sa e s
 | _ => none
def Wy (s : List UInt8) : Option Hd := if (all s).2 = 0 then Uu (all s).1 else none
/-! ### Deals -/
structure Dl where
 kind : Int
 room : List UInt8
 ep : Int
 ix : Int
 hub : Int
 next : Int
 sig : List UInt8
def WF (s : List UInt8) : Int := if s = [111, 102, 102, 101, 114] then 1 else if s = [97, 99, 99, 101, 112, 116] then 2 else 0
def Xt (d : Dl) : Bool := (decide (d.kind = 1) || decide (d.kind = 2)) && (DF d.room && (decide (d.sig.length ≤ 8192) && (Bj d.ep && (Bj d.ix && (decide (0 ≤ d.hub) && (decide (d.hub ≤ 63) && (decide (0 ≤ d.next) && (decide (d.next ≤ 63) && decide (d.hub ≠ d.next)))))))))
def Wt : List (List UInt8) → Option Dl
 | [k, r, a, b, h, n] => (small 4096 a).bind fun x => (small 4096 b).bind fun y => (small 4096 h).bind fun z => (small 4096 n).bind fun u =>
  if Xt ⟨WF k, r, x, y, z, u, []⟩ = true then some ⟨WF k, r, x, y, z, u, []⟩ else none
 | _ => none
def YP (s : List UInt8) : Option Dl := if (all s).2 = 0 then Wt (all s).1 else none
def Sb (e : Dl) (s : List UInt8) : Dl := { e with sig := s }
def Uv : List (List UInt8) → Option Dl
 | [t, s] => (YP t).map fun e => Sb e s
 | _ => none
def Wz (s : List UInt8) : Option Dl := if (all s).2 = 0 then Uv (all s).1 else none
/-! ### Proofs -/
structure Pf where
 server : Int
 a : List UInt8
 sigA : List UInt8
 b : List UInt8
 sigB : List UInt8
def Ut : List (List UInt8) → Option Pf
 | [n, a, x, b, y] => (small 63 n).map fun k => ⟨k, a, x, b, y⟩
 | _ => none
def Ww (s : List UInt8) : Option Pf := if (all s).2 = 0 then Ut (all s).1 else none
/-! ### Rejections and questions -/
def Ro : List (List UInt8) → Option (List UInt8 × Nat)
 | [h, c] => if h.length = 32 then (small 15 c).bind fun n => if 1 ≤ n then some (h, n) else none else none
 | _ => none
def TR (s : List UInt8) : Option (List UInt8 × Nat) := if (all s).2 = 0 then Ro (all s).1 else none
def asked (s : List UInt8) : Option Nat := small 4096 s
/-! ### Messages -/
structure Ms where
 kind : Int
 frm : Int
 to : Int
 body : List UInt8
def fitsB (k : Nat) (s : List UInt8) : Bool :=
 match k with
 | 1 => (EventS.parse s).isSome
 | 2 => (TR s).isSome
 | 3 => (parse s).isSome
 | 4 => (Wy s).isSome
 | 5 => (asked s).isSome
 | 6 => (Ww s).isSome
 | 7 => (Wz s).isSome
 | _ => true
def Q5 (n : Int) : Bool := decide (0 ≤ n) && decide (n ≤ 63)
def Y4 (m : Ms) : Bool := Q5 m.frm && (Q5 m.to && (decide (0 < m.kind) && decide (m.kind < 8)))
def why (m : Ms) : Int := if Y4 m = true then (if m.body.length ≤ 8192 then (if fitsB m.kind.toNat m.body = true then 0 else 6) else 7) else 2
end WireS
namespace WrC
open Go Go.RowKit Wr
section
variable {P : Program} {ops : Array Oper} {Q : Exit → Act → World → Prop} {md : Region.Mode} {S : World → Prop}
def M7 (o : Oper) (x : Operand) : Oper := { o with op := .move x, dst := none }
theorem OI {o : Oper} {x : Operand} {a : Act} (hw : Region.wanted o (yielded ops a.tmps) = true) : YieldsIf P ops (fun _ => True) (M7 o x) (a.eval x) a :=
 .inl ⟨hw, fun w _ => by simp [M7, execOp]⟩
theorem Pm {o : Oper} {x : Operand} {a : Act} {v : Value} (hv : v ≠ undef) (w : World) (h : YieldsIf P ops (fun _ => True) (M7 o x) v a) : Region.wanted o (yielded ops a.tmps) = true ∧ a.eval x = v := by
 rcases h with ⟨h1, h2⟩ | ⟨_, h2⟩
 ·refine ⟨h1, ?_⟩
  have := h2 w trivial
  simpa [M7, execOp] using this
 ·exact absurd h2 hv
theorem Rb {j : Nat} {oi oj : Oper} {x : Operand} {v vx : Value} (hj : ops[j]? = some oj) (hap : oi.apart ops oj = true) (hax : (M7 oi x).apart ops oj = true)
 (hsi : ∀ cs b, oi.op ≠ .select cs b) (hsj : ∀ cs b, oj.op ≠ .select cs b) (hQ : ∀ c a w, Q (.panic c) (a.put oi.dst v) w → Q (.panic c) a w) (hv : vx ≠ undef) {K : Act → World → Prop} {a : Act} {w : World}
 (hw : Region.wanted oi (yielded ops a.tmps) = true) (hx : a.eval x = vx) (h : wpOp P ops Q j K (a.put oi.dst v) w) :
 wpOp P ops Q j (fun a' w' => (Region.wanted oi (yielded ops a'.tmps) = true ∧ a'.eval x = vx) ∧ K (a'.put oi.dst v) w') a w := by
 have h1 := wpOp_putIf (S := fun _ => False) hj hap hsi hsj hQ (.inl ⟨hw, fun _ h => h.elim⟩) h
 have hy := OI (P := P) (ops := ops) (x := x) hw
 rw [hx] at hy
 have h2 := wpOp_putIf (oi := M7 oi x) (v := vx) hj hax (fun cs b => by simp [M7]) hsj (fun _ _ _ h => h) hy h1
 exact wpOp_mono (fun a' w' h' => ⟨Pm hv w' h'.1, h'.2.2⟩) h2
theorem OG {i : Nat} {oi : Oper} {x : Operand} {v vx : Value} (hi : ops[i]? = some oi) (hsel : ∀ (j : Nat) (o : Oper) cs b, ops[j]? = some o → o.op ≠ .select cs b)
 (hQ : ∀ c a w, Q (.panic c) (a.put oi.dst v) w → Q (.panic c) a w) (hv : vx ≠ undef)
 (hc : ∀ (a : Act) (w : World), a.eval x = vx → S w → ∃ f args, (execOp a.eval oi).run P w = .ok (.enter f args) w ∧ Calls P f args w fun e w' => e = .returned v ∧ w = w') :
 ∀ (fuel : Nat) (listed : Array Bool) (a : Act) (w : World),
   (∀ j oj, ops[j]? = some oj → j ≠ i → listed.getD j true = false → (∀ e ∈ oj.after, Region.binds md e = true → e.on ≠ i) → oi.apart ops oj = true ∧ (M7 oi x).apart ops oj = true) →
   i ∈ Region.ready md ops listed → Region.wanted oi (yielded ops a.tmps) = true → a.eval x = vx → S w →
   Ar P md ops Q S [] fuel (listed.setIfInBounds i true) (a.put oi.dst v) w → Ar P md ops Q S [] (fuel + 1) listed a w := by
 have hone : ∀ (K : Act → World → Prop) (a : Act) (w : World), Region.wanted oi (yielded ops a.tmps) = true → a.eval x = vx → S w → K (a.put oi.dst v) w → wpOp P ops Q i K a w := by
  intro K a w hw hx hS hK
  obtain ⟨f, args, hr, hcall⟩ := hc a w hx hS
  exact BR hi hw hr (hcall.mono fun e w' ⟨he, hww⟩ => ⟨v, he, by subst hww; exact hK⟩)
 intro fuel
 induction fuel with
 | zero =>
   intro listed a w _ hr hw hx hS H
   refine ⟨fun h => (by rw [h] at hr; cases hr), fun j hj => ?_⟩
   by_cases hji : j = i
   ·subst hji; exact hone _ a w hw hx hS ⟨fun _ => hS, H⟩
   ·have := ready_mono hj hji
    rw [H.1] at this
    cases this
 | succ fuel ih =>
   intro listed a w hfree hr hw hx hS H
   refine ⟨fun h => (by rw [h] at hr; cases hr), fun j hj => ?_⟩
   by_cases hji : j = i
   ·subst hji; exact hone _ a w hw hx hS ⟨fun _ => hS, H⟩
   ·have h1 := H.2 j (ready_mono hj hji)
    obtain ⟨hjun, oj, hoj, hall⟩ := mem_ready.1 hj
    have hun : ∀ k, listed.getD k true = false → listed.getD k false = true → False := fun k h0 h1 => by
        rcases Nat.lt_or_ge k listed.size with h' | h'
        ·simp [h'] at h0 h1; rw [h0] at h1; cases h1
        ·simp [Array.getElem?_eq_none h'] at h1
    have hnot : ∀ e ∈ oj.after, Region.binds md e = true → e.on ≠ i := fun e he hb heq => hun i (mem_ready.1 hr).1 (by rw [← heq]; exact hall e he hb)
    obtain ⟨ap1, ap2⟩ := hfree j oj hoj hji hjun hnot
    have h2 := Rb hoj ap1 ap2 (fun cs b => hsel i oi cs b hi) (fun cs b => hsel j oj cs b hoj) hQ hv hw hx h1
    have hfree' : ∀ k ok, ops[k]? = some ok → k ≠ i → (listed.setIfInBounds j true).getD k true = false →
     (∀ e ∈ ok.after, Region.binds md e = true → e.on ≠ i) → oi.apart ops ok = true ∧ (M7 oi x).apart ops ok = true := fun k ok hk hki hun hno => by
        refine hfree k ok hk hki ?_ hno
        by_cases hjk : j = k
        ·subst hjk; exact hjun
        ·rw [getD_set_ne true hjk] at hun; exact hun
    refine wpOp_mono (fun a' w' h3 => ?_) h2
    have hS' : S w' := h3.2.1 ⟨by simp, by simp⟩
    refine ⟨fun _ => hS', ih (listed.setIfInBounds j true) a' w' hfree' (ready_mono hr (Ne.symm hji)) h3.1.1 h3.1.2 hS' ?_⟩
    rw [Array.setIfInBounds_comm _ _ hji]
    exact h3.2.2
def UB (md : Region.Mode) (ops : Array Oper) (listed : Array Bool) (i : Nat) (x : Operand) : Bool :=
 match ops[i]? with
 | some oi => (List.range ops.size).all fun j => j == i || (listed.getD j true || match ops[j]? with
  | some oj => oj.after.any (fun e => Region.binds md e && e.on == i) || (M7 oi x).apart ops oj
  | none => true)
 | none => false
theorem Qj {i : Nat} {oi : Oper} {x : Operand} {listed : Array Bool} (hi : ops[i]? = some oi) (h : UB md ops listed i x = true) (j : Nat) (oj : Oper) (hj : ops[j]? = some oj) (hne : j ≠ i) (hun : listed.getD j true = false)
 (hno : ∀ e ∈ oj.after, Region.binds md e = true → e.on ≠ i) : (M7 oi x).apart ops oj = true := by
 simp only [UB, hi, List.all_eq_true, List.mem_range] at h
 have h1 := h j (Array.getElem?_eq_some_iff.1 hj).1
 simp only [hj, Bool.or_eq_true, beq_iff_eq, hne, false_or, hun, Bool.false_eq_true] at h1
 rcases h1 with h1 | h1
 ·obtain ⟨e, he, hb⟩ := Array.any_eq_true'.1 h1
  simp only [Bool.and_eq_true, beq_iff_eq] at hb
  exact absurd hb.2 (hno e (by simpa using he) hb.1)
 ·exact h1
theorem Bh {i : Nat} {oi : Oper} (x : Operand) (vx : Value) {v : Value} {fuel : Nat} {listed : Array Bool} {a : Act} {w : World} (hi : ops[i]? = some oi)
 (hc : (Region.noSelect ops && (Region.free md ops listed i && (UB md ops listed i x && (Region.ready md ops listed).contains i))) = true)
 (hQ : ∀ c a w, Q (.panic c) (a.put oi.dst v) w → Q (.panic c) a w) (hv : vx ≠ undef) (hw : Region.wanted oi (yielded ops a.tmps) = true) (hx : a.eval x = vx)
 (hcall : ∀ (a : Act) (w : World), a.eval x = vx → S w → ∃ f args, (execOp a.eval oi).run P w = .ok (.enter f args) w ∧ Calls P f args w fun e w' => e = .returned v ∧ w = w') (hS : S w)
 (h : Ar P md ops Q S [] fuel (listed.setIfInBounds i true) (a.put oi.dst v) w) : Ar P md ops Q S [] (fuel + 1) listed a w := by
 simp only [Bool.and_eq_true] at hc
 obtain ⟨hs, hf, hg, hr⟩ := hc
 exact OG hi (Region.noSelect_spec hs) hQ hv hcall fuel listed a w (fun j oj h1 h2 h3 h4 => ⟨Region.free_spec hi hf j oj h1 h2 h3 h4, Qj hi hg j oj h1 h2 h3 h4⟩) (by simpa using hr) hw hx hS h
/-! ### Whole rows, and copies of texts -/
theorem Cb {o : Oper} {a : Act} (t : TypeId) (parts : Array (Nat × Operand)) (ho : o.op = .build t parts) (hw : Region.wanted o (yielded ops a.tmps) = true) (cells : Array Value)
 (hb : P.built t (parts.map fun (i, x) => (i, a.eval x)).toList = some cells) : YieldsIf P ops S o (.agg cells) a :=
 .inl ⟨hw, fun w _ => by
  have := run_build (P := P) w t (parts.map fun (i, x) => (i, a.eval x)) cells hb
  simp only [execOp, ho, Sem.run_bind, this, Result.andThen_ok]
  rfl⟩
theorem BM {i : Nat} {o : Oper} {a : Act} {w : World} {K : Act → World → Prop} (hi : ops[i]? = some o) (hw : Region.wanted o (yielded ops a.tmps) = true) (ty : TypeId) (x y : Operand) (ho : o.op = .store ty x y)
 (g : Nat) (cells : Array Value) (hx : a.eval x = .pointer (some ⟨g, 0, none⟩)) (hy : a.eval y = .agg cells) (t : TypeId) (old : Array Value) (hg : w.heap[g]? = some (.cells old t (0, 0)))
 (hz : (P.info? ty).map (·.size) = some cells.size) (hold : old.size = cells.size) (h1 : cells.all (·.oneCell') = true) (h : ∀ w', Hid (w' = w.setRow g cells) → K (a.put o.dst undef) w') : wpOp P ops Q i K a w := by
 unfold wpOp
 simp only [hi, hw, if_true]
 exact .inl (wp_store_row ty x y ho g cells hx hy t old hg hz hold h1 (h _ (lh rfl)))
theorem OC {i : Nat} {o : Oper} {a : Act} {w : World} {K : Act → World → Prop} (hi : ops[i]? = some o) (hw : Region.wanted o (yielded ops a.tmps) = true) (ty : TypeId) (x : Operand) (ho : o.op = .load ty x)
 (g : Nat) (hx : a.eval x = .pointer (some ⟨g, 0, none⟩)) (t : TypeId) (cs : Array Value) (fr : Nat × Nat) (d : TypeDesc) (hg : w.heap[g]? = some (.cells cs t fr))
 (hu : P.underlying ty = some d) (hd : (match d with | .struct _ | .array _ _ => true | _ => false) = true) (hz : (P.info? ty).map (·.size) = some cs.size) (h : K (a.put o.dst (.agg cs)) w) : wpOp P ops Q i K a w := by
 unfold wpOp
 simp only [hi, hw, if_true]
 exact .inl (wp_load_row ty x ho g hx t cs fr d hg hu hd hz h)
theorem He (w : World) (dT sT ty elem : TypeId) (g o dLen dCap : Nat) (s : ByteArray) (cur : Array Value) (t : TypeId)
 (hu : P.underlying dT = some (.slice elem)) (hs : (P.info? elem).map (·.size) = some 1) (hg : w.heap[g]? = some (.cells cur t (0, 0))) (m : Nat) (hm : Nat.min s.size dLen = m) (hfit : o + m ≤ cur.size) :
 (Builtin.copy_ #[dT, sT] ty #[.slice (some ⟨g, o, none⟩) dLen dCap, .string s]).run P w =
  .ok (.int .i64 m) (w.setRow g (cur.toList.take o ++ byV ((bl s).take m) ++ cur.toList.drop (o + m)).toArray) := by
 have hms : m ≤ s.size := by rw [← hm]; exact Nat.min_le_left _ _
 have hlen : (byV ((bl s).take m)).length = m := by simp [byV, AP]; omega
 have hst := run_storeCells_at P g o t (byV ((bl s).take m)) 0 cur w hg (by rw [hlen]; simpa using hfit) (VX _)
 have h0 : (s.extract 0 m).data.toList = (bl s).take m := by
  have := Aj s 0 m
  rw [List.drop_zero, Nat.sub_zero] at this
  exact this
 rw [hlen, Nat.add_zero] at hst
 cases hq : P.info? elem with
 | none => simp [hq] at hs
 | some i =>
   have hi : i.size = 1 := by simpa [hq] using hs
   have hcs : (Array.map (fun b => Value.int .u8 b.toNat) (s.extract 0 m).data).toList = byV ((bl s).take m) := by
    rw [Array.toList_map, h0]
    rfl
   have hm' : s.size.min dLen = m := hm
   simp only [Builtin.copy_, run_underlying hu, Builtin.lenOf, Builtin.firstCells, Sem.run_bind, Sem.run_pure, Result.andThen_ok, List.getElem?_toArray, List.getElem?_cons_zero, List.getElem?_cons_succ, hm', hcs, hst]
   simp [sizeOf, typeInfo, hq, hi, hm', hst, goInt]
theorem Be {i : Nat} {o : Oper} {a : Act} {w : World} {K : Act → World → Prop} (hi : ops[i]? = some o) (hwt : Region.wanted o (yielded ops a.tmps) = true) (d s : Operand) (dT sT : TypeId)
 (ho : o.op = .call { callee := .builtin .copy, args := #[d, s], argTypes := #[dT, sT] }) (elem : TypeId) (hu : P.underlying dT = some (.slice elem)) (hsz : (P.info? elem).map (·.size) = some 1)
 (g off dLen dCap : Nat) (x : ByteArray) (hd : a.eval d = .slice (some ⟨g, off, none⟩) dLen dCap) (hs : a.eval s = .string x)
 (cur : Array Value) (t : TypeId) (hg : w.heap[g]? = some (.cells cur t (0, 0))) (m : Nat) (hm : Nat.min x.size dLen = m) (hfit : off + m ≤ cur.size)
 (h : ∀ w', Hid (w' = w.setRow g (cur.toList.take off ++ byV ((bl x).take m) ++ cur.toList.drop (off + m)).toArray) → K (a.put o.dst (.int .i64 m)) w') : wpOp P ops Q i K a w := by
 have hrun := He (P := P) w dT sT o.type elem g off dLen dCap x cur t hu hsz hg m hm hfit
 refine Ap hi hwt (v := .int .i64 m) (w' := w.setRow g (cur.toList.take off ++ byV ((bl x).take m) ++ cur.toList.drop (off + m)).toArray) ?_ (h _ (lh rfl))
 simp only [execOp, ho, resolve, invoke, builtin, List.map_toArray, List.map_cons, List.map_nil, hd, hs, Sem.run_bind, Sem.run_pure, hrun, Result.andThen_ok]
end
end WrC
namespace WireT
open Go Go.RowKit Go.Shelf OctetS IdentS EntS WireS OctG OctP OctQ EventP EventC EntP
/-! ### Small numbers -/
def M3 (m : Nat) (t : List UInt8) : Int := match small m t with | some n => n | none => -1
theorem Cn {m n : Nat} {t : List UInt8} (h : small m t = some n) : M3 m t = n := by unfold M3; rw [h]
theorem D7 {m : Nat} {t : List UInt8} (h : small m t = none) : M3 m t = -1 := by unfold M3; rw [h]
theorem Ei (m : Nat) {t : List UInt8} {n u : Nat} {y : Int} (hg : Ae t = (n, u, y)) :
 (y ≠ 0 ∧ small m t = none) ∨ (y = 0 ∧ u < t.length ∧ small m t = none) ∨ (y = 0 ∧ u = t.length ∧ m < n ∧ n ≤ BC ∧ small m t = none) ∨ (y = 0 ∧ u = t.length ∧ n ≤ m ∧ n ≤ BC ∧ small m t = some n) := by
 by_cases hy : y = 0
 ·subst hy
  obtain ⟨_, _, hu, _, hn⟩ := Co hg
  by_cases h1 : u < t.length
  ·exact .inr (.inl ⟨rfl, h1, by unfold small; rw [hg]; exact if_neg (fun h => by simp only at h; omega)⟩)
  ·by_cases h2 : m < n
   ·exact .inr (.inr (.inl ⟨rfl, by omega, h2, hn, by unfold small; rw [hg]; exact if_neg (fun h => by simp only at h; omega)⟩))
   ·exact .inr (.inr (.inr ⟨rfl, by omega, by omega, hn, by unfold small; rw [hg]; exact if_pos ⟨rfl, by simp only; omega, by simp only; omega⟩⟩))
 ·exact .inl ⟨hy, by unfold small; rw [hg]; exact if_neg (fun h => hy h.1)⟩
theorem TB {m n : Nat} {t : List UInt8} (h : small m t = some n) : n ≤ m := (EU h).1
theorem Dk (t : List UInt8) : Bj (M3 4096 t) = (small 4096 t).isSome := by
 cases h : small 4096 t with
 | none => rw [D7 h]; rfl
 | some n => rw [Cn h]; have := TB h; simp [Bj]; omega
/-! ### A list, and its cells -/
theorem U5 {w0 w : World} {v : Value} {l : List (List UInt8)} (h : CU w0 w v l) (hl : l ≠ []) :
 ∃ B cap, v = .slice (some ⟨B, 0, none⟩) l.length cap ∧ w0.heap.size ≤ B ∧ ∀ j t, l[j]? = some t → w.cell? ⟨B, j, none⟩ = some (.string (bsOf t)) := by
 unfold CU at h
 have hs := Sl.ofOwn h
 rcases h.2 with ⟨_, h0⟩ | ⟨B, cap, cur, rfl, hB, _⟩
 ·exfalso
  exact hl (by simpa [strV] using h0)
 ·rcases hs.2 with ⟨h0, _⟩ | ⟨a', cap', e, _, _, hc⟩
  ·cases h0
  ·simp only [Value.slice.injEq, Option.some.injEq] at e
   obtain ⟨rfl, _, rfl⟩ := e
   refine ⟨B, cap, rfl, hB, fun j t ht => ?_⟩
   have := hc j (.string (bsOf t)) (by simp [strV, ht])
   rw [Addr.add_mid, Nat.zero_add] at this
   exact this
/-! ### Entries -/
theorem Ba (r : ByteArray) (ep ix : Int) (pv : List UInt8) (e s : ByteArray) : (entA r ep ix pv e s).all (·.oneCell') = true := by
 simp [entA, byV, Value.oneCell']
theorem Dm {r : ByteArray} {ep ix : Int} {pv : List UInt8} {e s : ByteArray} (h : pv.length = 32) : (entA r ep ix pv e s).size = 37 := by simp [entA, AZ, h]
def Cg : List UInt8 := List.replicate 32 0
theorem Dz : Cg.length = 32 := rfl
def entZ : Array Value := entA ⟨#[]⟩ 0 0 Cg ⟨#[]⟩ ⟨#[]⟩
def entV : Option Ent → Value
 | some e => .tuple #[.agg (entA (bsOf e.room) e.ep e.ix e.prev (bsOf e.ev) (bsOf e.sig)), .int .i64 0]
 | none => .tuple #[.agg entZ, .int .i64 6]
theorem ent_copy (r : ByteArray) (ep ix : Int) {z pv : List UInt8} (hz : z.length = 32) (hp : pv.length = 32) (e s : ByteArray) :
 ((entA r ep ix z e s).toList.take 3 ++ byV (pv.take 32) ++ (entA r ep ix z e s).toList.drop (3 + 32)).toArray = entA r ep ix pv e s := by
 have h1 : pv.take 32 = pv := List.take_of_length_le (by omega)
 rw [h1]
 unfold entA
 have h2 : (byV z).length = 32 := by rw [AZ, hz]
 have h3 : ([.string r, .int .i64 ep, .int .i64 ix] ++ byV z ++ [.string e, .string s] : List Value).drop (3 + 32) = [.string e, .string s] := by
  have h4 : ([.string r, .int .i64 ep, .int .i64 ix] ++ byV z : List Value).length = 3 + 32 := by simp [h2]
  rw [← h4, List.drop_left]
 simp only [h3]
 congr 1
theorem read_bad {s : List UInt8} {l : List (List UInt8)} {y : Int} (ha : all s = (l, y)) (h : y ≠ 0 ∨ l.length ≠ 6) : WireS.read s = none := by
 unfold WireS.read
 rw [ha]
 rcases h with h | h
 ·exact if_neg h
 ·split
  ·unfold Fa
   split
   ·rename_i heq
    simp only at heq
    subst heq
    simp at h
   ·rfl
  ·rfl
theorem read_mark {s : List UInt8} {k r a b p v : List UInt8} (ha : all s = ([k, r, a, b, p, v], 0)) (h : k ≠ EntS.mark) : WireS.read s = none := by
 unfold WireS.read
 rw [ha]
 simp [Fa, h]
theorem Fp {s : List UInt8} {r a b p v : List UInt8} (ha : all s = ([EntS.mark, r, a, b, p, v], 0)) :
 WireS.read s = if p.length = 32 ∧ EntS.BD ⟨r, M3 4096 a, M3 4096 b, p, v, []⟩ = true then some ⟨r, M3 4096 a, M3 4096 b, p, v, []⟩ else none := by
 obtain ⟨hfit, _⟩ := O9 ha
 obtain ⟨_, hlen⟩ := Cq.1 hfit
 have hv : v.length ≤ 8192 := hlen v (by simp)
 unfold WireS.read
 rw [ha]
 simp only [if_true, Fa, EntS.BD, Dk, List.length_nil]
 cases h1 : small 4096 a with
 | none => simp
 | some x =>
   cases h2 : small 4096 b with
   | none => simp
   | some z =>
     simp only [Option.bind_some, Cn h1, Cn h2, Option.isSome_some, Bool.true_and]
     by_cases h3 : p.length = 32 ∧ DF r = true
     ·rw [if_pos h3, if_pos ⟨h3.1, by simp [h3.2, hv]⟩]
     ·rw [if_neg h3, if_neg (fun h => h3 ⟨h.1, by simpa [hv] using h.2⟩)]
/-! ### Heads -/
def hdA (r : ByteArray) (ep ix : Int) (sm : List UInt8) (s : ByteArray) : Array Value := ([.string r, .int .i64 ep, .int .i64 ix] ++ byV sm ++ [.string s] : List Value).toArray
structure HdP (p : Array Value) (r : ByteArray) (ep ix : Int) (sm : List UInt8) (s : ByteArray) : Prop where
 eq : p = hdA r ep ix sm s
 len : sm.length = 32
section
variable {p : Array Value} {r : ByteArray} {ep ix : Int} {sm : List UInt8} {s : ByteArray}
theorem HdP.size (h : HdP p r ep ix sm s) : p.size = 36 := by rw [h.eq]; simp [hdA, AZ, h.len]
theorem HdP.c0 (h : HdP p r ep ix sm s) : p[0]? = some (.string r) := by rw [h.eq]; rfl
theorem HdP.c1 (h : HdP p r ep ix sm s) : p[1]? = some (.int .i64 ep) := by rw [h.eq]; rfl
theorem HdP.c2 (h : HdP p r ep ix sm s) : p[2]? = some (.int .i64 ix) := by rw [h.eq]; rfl
theorem HdP.cp (h : HdP p r ep ix sm s) (j : Nat) (u : Value) (hj : (byV sm)[j]? = some u) : p[3 + j]? = some u := by
 have hl : j < 32 := by
  have := (List.getElem?_eq_some_iff.1 hj).1
  rw [AZ, h.len] at this
  exact this
 rw [h.eq]
 unfold hdA
 rw [List.getElem?_toArray, List.getElem?_append_left (by simp [AZ, h.len]; omega), List.getElem?_append_right (by simp)]
 simpa using hj
theorem HdP.c35 (h : HdP p r ep ix sm s) : p[35]? = some (.string s) := by
 rw [h.eq]
 unfold hdA
 rw [List.getElem?_toArray, List.getElem?_append_right (by simp [AZ, h.len])]
 simp [AZ, h.len]
end
theorem Av (r : ByteArray) (ep ix : Int) (pv : List UInt8) (s : ByteArray) : (hdA r ep ix pv s).all (·.oneCell') = true := by
 simp [hdA, byV, Value.oneCell']
theorem C8 {r : ByteArray} {ep ix : Int} {pv : List UInt8} {s : ByteArray} (h : pv.length = 32) : (hdA r ep ix pv s).size = 36 := by simp [hdA, AZ, h]
def hdZ : Array Value := hdA ⟨#[]⟩ 0 0 Cg ⟨#[]⟩
def hdV : Option Hd → Value
 | some e => .tuple #[.agg (hdA (bsOf e.room) e.ep e.ix e.sum (bsOf e.sig)), .int .i64 0]
 | none => .tuple #[.agg hdZ, .int .i64 6]
theorem hd_copy (r : ByteArray) (ep ix : Int) {z pv : List UInt8} (hz : z.length = 32) (hp : pv.length = 32) (s : ByteArray) :
 ((hdA r ep ix z s).toList.take 3 ++ byV (pv.take 32) ++ (hdA r ep ix z s).toList.drop (3 + 32)).toArray = hdA r ep ix pv s := by
 have h1 : pv.take 32 = pv := List.take_of_length_le (by omega)
 rw [h1]
 unfold hdA
 have h2 : (byV z).length = 32 := by rw [AZ, hz]
 have h3 : ([.string r, .int .i64 ep, .int .i64 ix] ++ byV z ++ [.string s] : List Value).drop (3 + 32) = [.string s] := by
  have h4 : ([.string r, .int .i64 ep, .int .i64 ix] ++ byV z : List Value).length = 3 + 32 := by simp [h2]
  rw [← h4, List.drop_left]
 simp only [h3]
 congr 1
theorem XX (r : ByteArray) (ep ix : Int) {pv : List UInt8} (hp : pv.length = 32) (s s' : ByteArray) : (hdA r ep ix pv s).setIfInBounds 35 (.string s') = hdA r ep ix pv s' := by
 have h2 : (byV pv).length = 32 := by rw [AZ, hp]
 obtain ⟨l, hl⟩ := nXe (byV pv)
 unfold hdA
 rw [← hl] at h2 ⊢
 rw [List.setIfInBounds_toArray]
 congr 1
 rw [List.set_append_right _ _ (by simp [h2])]
 simp [h2]
def hdOf (r : ByteArray) (ep ix : Int) (sm : List UInt8) (s : ByteArray) : Hd := ⟨bl r, ep, ix, sm, bl s⟩
def CS (e : Hd) : Bool := DF e.room && (Bj e.ep && (Bj e.ix && decide (e.sig.length ≤ 8192)))
theorem readH_bad {s : List UInt8} {l : List (List UInt8)} {y : Int} (ha : all s = (l, y)) (h : y ≠ 0 ∨ l.length ≠ 5) : Cc s = none := by
 unfold Cc
 rw [ha]
 rcases h with h | h
 ·exact if_neg h
 ·split
  ·unfold EM
   split
   ·rename_i heq
    simp only at heq
    subst heq
    simp at h
   ·rfl
  ·rfl
theorem readH_mark {s : List UInt8} {k r a b p : List UInt8} (ha : all s = ([k, r, a, b, p], 0)) (h : k ≠ CL) : Cc s = none := by
 unfold Cc
 rw [ha]
 simp [EM, h]
theorem EY {s : List UInt8} {r a b p : List UInt8} (ha : all s = ([CL, r, a, b, p], 0)) :
 Cc s = if p.length = 32 ∧ CS ⟨r, M3 4096 a, M3 4096 b, p, []⟩ = true then some ⟨r, M3 4096 a, M3 4096 b, p, []⟩ else none := by
 unfold Cc
 rw [ha]
 simp only [if_true, EM, CS, Dk, List.length_nil]
 cases h1 : small 4096 a with
 | none => simp
 | some x =>
   cases h2 : small 4096 b with
   | none => simp
   | some z =>
     simp only [Option.bind_some, Cn h1, Cn h2, Option.isSome_some, Bool.true_and]
     by_cases h3 : p.length = 32 ∧ DF r = true
     ·rw [if_pos h3, if_pos ⟨h3.1, by simp [h3.2]⟩]
     ·rw [if_neg h3, if_neg (fun h => h3 ⟨h.1, by simpa using h.2⟩)]
/-! ### Bytes: two texts -/
/-! ### Deals -/
/-! ### Proofs -/
def pfA (n : Int) (a x b y : ByteArray) : Array Value := #[.int .i64 n, .string a, .string x, .string b, .string y]
def pfZ : Array Value := pfA 0 ⟨#[]⟩ ⟨#[]⟩ ⟨#[]⟩ ⟨#[]⟩
/-! ### Rejections -/
/-! ### Messages -/
/-! ### Results and rows -/
theorem AU {P : Program} {fn : Func} {p q : Tmp} {ty : TypeId} (h : fn.results = #[.cell p ty, .tmp q]) (tmps : Array Value) (w : World) (g : Nat) (t : TypeId) (cs : Array Value) (fr : Nat × Nat) (d : TypeDesc)
 (hp : tmps.getD p undef = .pointer (some ⟨g, 0, none⟩)) (hg : w.heap[g]? = some (.cells cs t fr))
 (hu : P.underlying ty = some d) (hd : (match d with | .struct _ | .array _ _ => true | _ => false) = true) (hi : (P.info? ty).map (·.size) = some cs.size) {v : Value} (hq : tmps.getD q undef = v) :
 (results fn tmps).run P w = .ok (.tuple #[.agg cs, v]) w := by
 have hp' : tmps[p]?.getD undef = .pointer (some ⟨g, 0, none⟩) := by simpa using hp
 have hq' : tmps[q]?.getD undef = v := by simpa using hq
 simp [results, h, hp', hq', asAddr, run_loadVar_row w g t ty cs fr d hg hu hd hi]
theorem BQ {P : Program} {ops : Array Oper} {rest : List Oper} {o : Oper} {a : Act} {w : World} {Q : Exit → Act → World → Prop} (hw : Region.wanted o (yielded ops a.tmps) = true) (ty : TypeId) (x : Operand) (ho : o.op = .load ty x)
 (g : Nat) (hx : a.eval x = .pointer (some ⟨g, 0, none⟩)) (t : TypeId) (cs : Array Value) (fr : Nat × Nat) (d : TypeDesc) (hg : w.heap[g]? = some (.cells cs t fr))
 (hu : P.underlying ty = some d) (hd : (match d with | .struct _ | .array _ _ => true | _ => false) = true) (hi : (P.info? ty).map (·.size) = some cs.size)
 (h : wpList P ops Q rest (a.put o.dst (.agg cs)) w) : wpList P ops Q (o :: rest) a w := by
 unfold wpList
 rw [if_pos hw]
 exact .inl (wp_load_row ty x ho g hx t cs fr d hg hu hd hi h)
/-! ### More ways to see a list, and a text -/
theorem Dc {w0 w : World} {v : Value} {l : List (List UInt8)} (n : Nat) (h : CU w0 w v l) (hl : l.length = n) (h0 : n ≠ 0) :
 ∃ B cap, v = .slice (some ⟨B, 0, none⟩) n cap ∧ w0.heap.size ≤ B ∧ ∀ j t, l[j]? = some t → w.cell? ⟨B, j, none⟩ = some (.string (bsOf t)) := by
 subst hl
 exact U5 h (fun e => h0 (by rw [e]; rfl))
theorem Aa {s : List UInt8} {l : List (List UInt8)} (ha : all s = (l, 0)) (t : List UInt8) (ht : t ∈ l) : (bsOf t).size ≤ 8192 := by
 obtain ⟨hfit, _⟩ := O9 ha
 rw [AY]
 exact (Cq.1 hfit).2 t ht
end WireT
namespace Wr
open Go Go.RowKit
section
variable {P : Program} {ops : Array Oper} {Q : Exit → Act → World → Prop} {md : Region.Mode} {S : World → Prop} {K : List Nat}
theorem OE {J : List Nat} {i : Nat} {oi : Oper} {v : Value} (hi : ops[i]? = some oi) (hsel : ∀ (j : Nat) (o : Oper) cs b, ops[j]? = some o → o.op ≠ .select cs b)
 (hQ : ∀ c a w, Q (.panic c) (a.put oi.dst v) w → Q (.panic c) a w) (hiK : i ∉ K) (hKJ : ∀ k ∈ K, k ∈ J)
 (hK : ∀ k ∈ J, ∃ o, ops[k]? = some o ∧ ∃ e ∈ o.after, Region.binds md e = true ∧ (e.on = i ∨ e.on ∈ J)) :
 ∀ (fuel : Nat) (listed : Array Bool) (a : Act) (w : World),
   (∀ k ∈ J, listed.getD k true = false) →
   (∀ j oj, ops[j]? = some oj → j ≠ i → listed.getD j true = false → (∀ e ∈ oj.after, Region.binds md e = true → e.on ≠ i) → oi.apart ops oj = true) →
   i ∈ Region.ready md ops listed → YieldsIf P ops S oi v a → S w →
   Ar P md ops Q S K fuel (listed.setIfInBounds i true) (a.put oi.dst v) w → Ar P md ops Q S K (fuel + 1) listed a w := by
 intro fuel
 induction fuel with
 | zero =>
   intro listed a w _ _ hr hy hS H
   refine ⟨fun h => (by rw [h] at hr; cases hr), fun j hj => ?_⟩
   by_cases hji : j = i
   ·subst hji; exact hy.wpOp hi hS ⟨fun _ => hS, H⟩
   ·have := ready_mono hj hji
    rw [H.1] at this
    cases this
 | succ fuel ih =>
   intro listed a w hKl hfree hr hy hS H
   refine ⟨fun h => (by rw [h] at hr; cases hr), fun j hj => ?_⟩
   by_cases hji : j = i
   ·subst hji; exact hy.wpOp hi hS ⟨fun _ => hS, H⟩
   ·have h1 := H.2 j (ready_mono hj hji)
    obtain ⟨hjun, oj, hoj, hall⟩ := mem_ready.1 hj
    have hun : ∀ k, listed.getD k true = false → listed.getD k false = true → False := fun k h0 h1 => by
        rcases Nat.lt_or_ge k listed.size with h' | h'
        ·simp [h'] at h0 h1; rw [h0] at h1; cases h1
        ·simp [Array.getElem?_eq_none h'] at h1
    have hnot : ∀ e ∈ oj.after, Region.binds md e = true → e.on ≠ i := fun e he hb heq => hun i (mem_ready.1 hr).1 (by rw [← heq]; exact hall e he hb)
    have hjJ : j ∉ J := fun hj' => by
        obtain ⟨o, ho, e, he, hb, hor⟩ := hK j hj'
        obtain rfl : oj = o := Option.some.inj (hoj.symm.trans ho)
        rcases hor with h | h
        ·exact hnot e he hb h
        ·exact hun e.on (hKl e.on h) (hall e he hb)
    have hjK : j ∉ K := fun h => hjJ (hKJ j h)
    have h2 := wpOp_putIf hoj (hfree j oj hoj hji hjun hnot) (fun cs b => hsel i oi cs b hi) (fun cs b => hsel j oj cs b hoj) hQ hy h1
    have hfree' : ∀ k ok, ops[k]? = some ok → k ≠ i → (listed.setIfInBounds j true).getD k true = false →
     (∀ e ∈ ok.after, Region.binds md e = true → e.on ≠ i) → oi.apart ops ok = true := fun k ok hk hki hun hno => by
        refine hfree k ok hk hki ?_ hno
        by_cases hjk : j = k
        ·subst hjk; exact hjun
        ·rw [getD_set_ne true hjk] at hun; exact hun
    have hKi : ∀ k ∈ K, (listed.setIfInBounds i true).getD k true = false := fun k hk => by
        rw [getD_set_ne true (fun e => hiK (by rw [e]; exact hk))]; exact hKl k (hKJ k hk)
    have hKj : ∀ k ∈ J, (listed.setIfInBounds j true).getD k true = false := fun k hk => by
        rw [getD_set_ne true (fun e => hjJ (by rw [e]; exact hk))]; exact hKl k hk
    refine wpOp_mono (fun a' w' h3 => ⟨fun _ => h3.2.1 ⟨hjK, hKi⟩, ih (listed.setIfInBounds j true) a' w' hKj hfree' (ready_mono hr (Ne.symm hji)) h3.1 (h3.2.1 ⟨hjK, hKi⟩) ?_⟩) h2
    rw [Array.setIfInBounds_comm _ _ hji]
    exact h3.2.2
def Sr (md : Region.Mode) (ops : Array Oper) (K J : List Nat) (listed : Array Bool) (i : Nat) : Bool :=
 !K.contains i && (K.all (fun k => J.contains k) && J.all fun k => !(listed.getD k true) && match ops[k]? with
    | some o => o.after.any fun e => Region.binds md e && (e.on == i || J.contains e.on)
    | none => false)
theorem Bq (J : List Nat) {i : Nat} {oi : Oper} {v : Value} {fuel : Nat} {listed : Array Bool} {a : Act} {w : World} (hi : ops[i]? = some oi)
 (hc : (Region.noSelect ops && (Region.free md ops listed i && ((Region.ready md ops listed).contains i && Sr md ops K J listed i))) = true)
 (hQ : ∀ c a w, Q (.panic c) (a.put oi.dst v) w → Q (.panic c) a w) (hy : YieldsIf P ops S oi v a) (hS : S w)
 (h : Ar P md ops Q S K fuel (listed.setIfInBounds i true) (a.put oi.dst v) w) : Ar P md ops Q S K (fuel + 1) listed a w := by
 unfold Sr at hc
 simp only [Bool.and_eq_true, Bool.not_eq_true', List.all_eq_true] at hc
 obtain ⟨hs, hf, hr, h1, h2, h3⟩ := hc
 refine OE (J := J) hi (Region.noSelect_spec hs) hQ (by simpa using h1) (fun k hk => by simpa using h2 k hk) (fun k hk => ?_) fuel listed a w (fun k hk => (h3 k hk).1) (Region.free_spec hi hf) (by simpa using hr) hy hS h
 have h4 := (h3 k hk).2
 split at h4
 ·rename_i o ho
  refine ⟨o, ho, ?_⟩
  simp only [Array.any_eq_true', Bool.and_eq_true, Bool.or_eq_true, beq_iff_eq, List.contains_iff_mem] at h4
  obtain ⟨e, he, hb, hor⟩ := h4
  exact ⟨e, by simpa using he, hb, hor⟩
 ·cases h4
end
end Wr
end Go.Proofs.YtceiajepcokacaaGreatDoor
