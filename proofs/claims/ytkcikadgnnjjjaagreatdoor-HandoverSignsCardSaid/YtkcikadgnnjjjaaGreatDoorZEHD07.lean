/-
  WHAT IS PROVED: entries, heads, deals, proofs and messages as rows of cells, and when texts are such. in a region that draws its order, and writes at its end, an operation may be taken first for which the writers wait by way of others ('J'). Condition: what each theorem names.
-/
import Derived.Test.YtkcikadgnnjjjaaGreatDoorS0
import Derived.Test.YtkcikadgnnjjjaaGreatDoorZEHD06
set_option linter.unusedVariables false
set_option linter.unusedSimpArgs false
set_option maxRecDepth 100000
set_option maxHeartbeats 4000000
namespace Go.Proofs.YtkcikadgnnjjjaaGreatDoor.WireT
open Go Go.RowKit Go.Shelf OctetS IdentS EntS WireS OctG OctP OctQ EventP EventC EntP
/-! ### Small numbers -/
def numI (m : Nat) (t : List UInt8) : Int := match small m t with | some n => n | none => -1
theorem numI_some {m n : Nat} {t : List UInt8} (h : small m t = some n) : numI m t = n := by unfold numI; rw [h]
theorem numI_none {m : Nat} {t : List UInt8} (h : small m t = none) : numI m t = -1 := by unfold numI; rw [h]
theorem small_cases (m : Nat) {t : List UInt8} {n u : Nat} {y : Int} (hg : getNum t = (n, u, y)) :
  (y ≠ 0 ∧ small m t = none) ∨ (y = 0 ∧ u < t.length ∧ small m t = none) ∨ (y = 0 ∧ u = t.length ∧ m < n ∧ n ≤ maxNum ∧ small m t = none) ∨ (y = 0 ∧ u = t.length ∧ n ≤ m ∧ n ≤ maxNum ∧ small m t = some n) := by
 by_cases hy : y = 0
 ·subst hy
  obtain ⟨_, _, hu, _, hn⟩ := getNum_ok hg
  by_cases h1 : u < t.length
  ·exact .inr (.inl ⟨rfl, h1, by unfold small; rw [hg]; exact if_neg (fun h => by simp only at h; omega)⟩)
  ·by_cases h2 : m < n
   ·exact .inr (.inr (.inl ⟨rfl, by omega, h2, hn, by unfold small; rw [hg]; exact if_neg (fun h => by simp only at h; omega)⟩))
   ·exact .inr (.inr (.inr ⟨rfl, by omega, by omega, hn, by unfold small; rw [hg]; exact if_pos ⟨rfl, by simp only; omega, by simp only; omega⟩⟩))
 ·exact .inl ⟨hy, by unfold small; rw [hg]; exact if_neg (fun h => hy h.1)⟩
theorem small_le {m n : Nat} {t : List UInt8} (h : small m t = some n) : n ≤ m := (small_spec h).1
theorem place_small (t : List UInt8) : placeB (numI 4096 t) = (small 4096 t).isSome := by
 cases h : small 4096 t with
 | none => rw [numI_none h]; rfl
 | some n => rw [numI_some h]; have := small_le h; simp [placeB]; omega
/-! ### A list, and its cells -/
theorem list_at {w0 w : World} {v : Value} {l : List (List UInt8)} (h : ListAt w0 w v l) (hl : l ≠ []) :
  ∃ B cap, v = .slice (some ⟨B, 0, none⟩) l.length cap ∧ w0.heap.size ≤ B ∧ ∀ j t, l[j]? = some t → w.cell? ⟨B, j, none⟩ = some (.string (bsOf t)) := by
 unfold ListAt at h
 have hs := Sl.ofOwn h
 rcases h.2 with ⟨_, h0⟩ | ⟨B, cap, cur, rfl, hB, _⟩
 ·exfalso
  exact hl (by simpa [strV] using h0)
 ·rcases hs.2 with ⟨h0, _⟩ | ⟨a', cap', e, _, _, hc⟩
  ·cases h0
  ·simp only [Value.slice.injEq, Option.some.injEq] at e
   obtain ⟨rfl, _, rfl⟩ := e
   refine ⟨B, cap, rfl, hB, fun j t ht => ?_⟩
   have := hc j (.string (bsOf t)) (by simp [strV, ht])
   rw [Addr.add_mid, Nat.zero_add] at this
   exact this
/-! ### Entries -/
def zero32 : List UInt8 := List.replicate 32 0
/-! ### Heads -/
def hdA (r : ByteArray) (ep ix : Int) (sm : List UInt8) (s : ByteArray) : Array Value := ([.string r, .int .i64 ep, .int .i64 ix] ++ byV sm ++ [.string s] : List Value).toArray
structure HdP (p : Array Value) (r : ByteArray) (ep ix : Int) (sm : List UInt8) (s : ByteArray) : Prop where
 eq : p = hdA r ep ix sm s
 len : sm.length = 32
section
variable {p : Array Value} {r : ByteArray} {ep ix : Int} {sm : List UInt8} {s : ByteArray}
theorem HdP.size (h : HdP p r ep ix sm s) : p.size = 36 := by rw [h.eq]; simp [hdA, byV_length, h.len]
theorem HdP.c0 (h : HdP p r ep ix sm s) : p[0]? = some (.string r) := by rw [h.eq]; rfl
theorem HdP.c1 (h : HdP p r ep ix sm s) : p[1]? = some (.int .i64 ep) := by rw [h.eq]; rfl
theorem HdP.c2 (h : HdP p r ep ix sm s) : p[2]? = some (.int .i64 ix) := by rw [h.eq]; rfl
theorem HdP.cp (h : HdP p r ep ix sm s) (j : Nat) (u : Value) (hj : (byV sm)[j]? = some u) : p[3 + j]? = some u := by
 have hl : j < 32 := by
  have := (List.getElem?_eq_some_iff.1 hj).1
  rw [byV_length, h.len] at this
  exact this
 rw [h.eq]
 unfold hdA
 rw [List.getElem?_toArray, List.getElem?_append_left (by simp [byV_length, h.len]; omega), List.getElem?_append_right (by simp)]
 simpa using hj
end
/-! ### Bytes: two texts -/
/-! ### Deals -/
/-! ### Proofs -/
/-! ### Rejections -/
/-! ### Messages -/
/-! ### Results and rows -/
theorem results_cell_slot {P : Program} {fn : Func} {p q : Tmp} {ty : TypeId} (h : fn.results = #[.cell p ty, .tmp q]) (tmps : Array Value) (w : World) (g : Nat) (t : TypeId) (cs : Array Value) (fr : Nat × Nat) (d : TypeDesc)
  (hp : tmps.getD p undef = .pointer (some ⟨g, 0, none⟩)) (hg : w.heap[g]? = some (.cells cs t fr))
  (hu : P.underlying ty = some d) (hd : (match d with | .struct _ | .array _ _ => true | _ => false) = true) (hi : (P.info? ty).map (·.size) = some cs.size) {v : Value} (hq : tmps.getD q undef = v) :
  (results fn tmps).run P w = .ok (.tuple #[.agg cs, v]) w := by
 have hp' : tmps[p]?.getD undef = .pointer (some ⟨g, 0, none⟩) := by simpa using hp
 have hq' : tmps[q]?.getD undef = v := by simpa using hq
 simp [results, h, hp', hq', asAddr, run_loadVar_row w g t ty cs fr d hg hu hd hi]
theorem results_cell_slot2 {P : Program} {fn : Func} {p q r : Tmp} {ty : TypeId} (h : fn.results = #[.cell p ty, .tmp q, .tmp r]) (tmps : Array Value) (w : World) (g : Nat) (t : TypeId) (cs : Array Value) (fr : Nat × Nat) (d : TypeDesc)
  (hp : tmps.getD p undef = .pointer (some ⟨g, 0, none⟩)) (hg : w.heap[g]? = some (.cells cs t fr))
  (hu : P.underlying ty = some d) (hd : (match d with | .struct _ | .array _ _ => true | _ => false) = true) (hi : (P.info? ty).map (·.size) = some cs.size) {v u : Value} (hq : tmps.getD q undef = v) (hr : tmps.getD r undef = u) :
  (results fn tmps).run P w = .ok (.tuple #[.agg cs, v, u]) w := by
 have hp' : tmps[p]?.getD undef = .pointer (some ⟨g, 0, none⟩) := by simpa using hp
 have hq' : tmps[q]?.getD undef = v := by simpa using hq
 have hr' : tmps[r]?.getD undef = u := by simpa using hr
 simp [results, h, hp', hq', hr', asAddr, run_loadVar_row w g t ty cs fr d hg hu hd hi]
theorem wpList_load_rowG {P : Program} {ops : Array Oper} {rest : List Oper} {o : Oper} {a : Act} {w : World} {Q : Exit → Act → World → Prop} (hw : Region.wanted o (yielded ops a.tmps) = true) (ty : TypeId) (x : Operand) (ho : o.op = .load ty x)
  (g : Nat) (hx : a.eval x = .pointer (some ⟨g, 0, none⟩)) (t : TypeId) (cs : Array Value) (fr : Nat × Nat) (d : TypeDesc) (hg : w.heap[g]? = some (.cells cs t fr))
  (hu : P.underlying ty = some d) (hd : (match d with | .struct _ | .array _ _ => true | _ => false) = true) (hi : (P.info? ty).map (·.size) = some cs.size)
  (h : wpList P ops Q rest (a.put o.dst (.agg cs)) w) : wpList P ops Q (o :: rest) a w := by
 unfold wpList
 rw [if_pos hw]
 exact .inl (wp_load_row ty x ho g hx t cs fr d hg hu hd hi h)
/-! ### More ways to see a list, and a text -/
theorem list_n {w0 w : World} {v : Value} {l : List (List UInt8)} (n : Nat) (h : ListAt w0 w v l) (hl : l.length = n) (h0 : n ≠ 0) :
  ∃ B cap, v = .slice (some ⟨B, 0, none⟩) n cap ∧ w0.heap.size ≤ B ∧ ∀ j t, l[j]? = some t → w.cell? ⟨B, j, none⟩ = some (.string (bsOf t)) := by
 subst hl
 exact list_at h (fun e => h0 (by rw [e]; rfl))
theorem parts_len {s : List UInt8} {l : List (List UInt8)} (ha : all s = (l, 0)) (t : List UInt8) (ht : t ∈ l) : (bsOf t).size ≤ 8192 := by
 obtain ⟨hfit, _⟩ := all_ok ha
 rw [size_bsOf]
 exact (fits_iff.1 hfit).2 t ht
end Go.Proofs.YtkcikadgnnjjjaaGreatDoor.WireT
namespace Go.Proofs.YtkcikadgnnjjjaaGreatDoor.Wr
open Go Go.RowKit
section
variable {P : Program} {ops : Array Oper} {Q : Exit → Act → World → Prop} {md : Region.Mode} {S : World → Prop} {K : List Nat}
theorem wpAnyK_firstJ {J : List Nat} {i : Nat} {oi : Oper} {v : Value} (hi : ops[i]? = some oi) (hsel : ∀ (j : Nat) (o : Oper) cs b, ops[j]? = some o → o.op ≠ .select cs b)
  (hQ : ∀ c a w, Q (.panic c) (a.put oi.dst v) w → Q (.panic c) a w) (hiK : i ∉ K) (hKJ : ∀ k ∈ K, k ∈ J)
  (hK : ∀ k ∈ J, ∃ o, ops[k]? = some o ∧ ∃ e ∈ o.after, Region.binds md e = true ∧ (e.on = i ∨ e.on ∈ J)) :
  ∀ (fuel : Nat) (listed : Array Bool) (a : Act) (w : World),
   (∀ k ∈ J, listed.getD k true = false) →
   (∀ j oj, ops[j]? = some oj → j ≠ i → listed.getD j true = false → (∀ e ∈ oj.after, Region.binds md e = true → e.on ≠ i) → oi.apart ops oj = true) →
   i ∈ Region.ready md ops listed → YieldsIf P ops S oi v a → S w →
   wpAnyK P md ops Q S K fuel (listed.setIfInBounds i true) (a.put oi.dst v) w → wpAnyK P md ops Q S K (fuel + 1) listed a w := by
 intro fuel
 induction fuel with
 | zero =>
  intro listed a w _ _ hr hy hS H
  refine ⟨fun h => (by rw [h] at hr; cases hr), fun j hj => ?_⟩
  by_cases hji : j = i
  ·subst hji; exact hy.wpOp hi hS ⟨fun _ => hS, H⟩
  ·have := ready_mono hj hji
   rw [H.1] at this
   cases this
 | succ fuel ih =>
  intro listed a w hKl hfree hr hy hS H
  refine ⟨fun h => (by rw [h] at hr; cases hr), fun j hj => ?_⟩
  by_cases hji : j = i
  ·subst hji; exact hy.wpOp hi hS ⟨fun _ => hS, H⟩
  ·have h1 := H.2 j (ready_mono hj hji)
   obtain ⟨hjun, oj, hoj, hall⟩ := mem_ready.1 hj
   have hun : ∀ k, listed.getD k true = false → listed.getD k false = true → False := fun k h0 h1 => by
    rcases Nat.lt_or_ge k listed.size with h' | h'
    ·simp [h'] at h0 h1; rw [h0] at h1; cases h1
    ·simp [Array.getElem?_eq_none h'] at h1
   have hnot : ∀ e ∈ oj.after, Region.binds md e = true → e.on ≠ i := fun e he hb heq => hun i (mem_ready.1 hr).1 (by rw [← heq]; exact hall e he hb)
   have hjJ : j ∉ J := fun hj' => by
    obtain ⟨o, ho, e, he, hb, hor⟩ := hK j hj'
    obtain rfl : oj = o := Option.some.inj (hoj.symm.trans ho)
    rcases hor with h | h
    ·exact hnot e he hb h
    ·exact hun e.on (hKl e.on h) (hall e he hb)
   have hjK : j ∉ K := fun h => hjJ (hKJ j h)
   have h2 := wpOp_putIf hoj (hfree j oj hoj hji hjun hnot) (fun cs b => hsel i oi cs b hi) (fun cs b => hsel j oj cs b hoj) hQ hy h1
   have hfree' : ∀ k ok, ops[k]? = some ok → k ≠ i → (listed.setIfInBounds j true).getD k true = false →
     (∀ e ∈ ok.after, Region.binds md e = true → e.on ≠ i) → oi.apart ops ok = true := fun k ok hk hki hun hno => by
    refine hfree k ok hk hki ?_ hno
    by_cases hjk : j = k
    ·subst hjk; exact hjun
    ·rw [getD_set_ne true hjk] at hun; exact hun
   have hKi : ∀ k ∈ K, (listed.setIfInBounds i true).getD k true = false := fun k hk => by
    rw [getD_set_ne true (fun e => hiK (by rw [e]; exact hk))]; exact hKl k (hKJ k hk)
   have hKj : ∀ k ∈ J, (listed.setIfInBounds j true).getD k true = false := fun k hk => by
    rw [getD_set_ne true (fun e => hjJ (by rw [e]; exact hk))]; exact hKl k hk
   refine wpOp_mono (fun a' w' h3 => ⟨fun _ => h3.2.1 ⟨hjK, hKi⟩, ih (listed.setIfInBounds j true) a' w' hKj hfree' (ready_mono hr (Ne.symm hji)) h3.1 (h3.2.1 ⟨hjK, hKi⟩) ?_⟩) h2
   rw [Array.setIfInBounds_comm _ _ hji]
   exact h3.2.2
def waitsJ (md : Region.Mode) (ops : Array Oper) (K J : List Nat) (listed : Array Bool) (i : Nat) : Bool :=
 !K.contains i && (K.all (fun k => J.contains k) && J.all fun k => !(listed.getD k true) && match ops[k]? with
  | some o => o.after.any fun e => Region.binds md e && (e.on == i || J.contains e.on)
  | none => false)
theorem wpAnyK_takeJ (J : List Nat) {i : Nat} {oi : Oper} {v : Value} {fuel : Nat} {listed : Array Bool} {a : Act} {w : World} (hi : ops[i]? = some oi)
  (hc : (Region.noSelect ops && (Region.free md ops listed i && ((Region.ready md ops listed).contains i && waitsJ md ops K J listed i))) = true)
  (hQ : ∀ c a w, Q (.panic c) (a.put oi.dst v) w → Q (.panic c) a w) (hy : YieldsIf P ops S oi v a) (hS : S w)
  (h : wpAnyK P md ops Q S K fuel (listed.setIfInBounds i true) (a.put oi.dst v) w) : wpAnyK P md ops Q S K (fuel + 1) listed a w := by
 unfold waitsJ at hc
 simp only [Bool.and_eq_true, Bool.not_eq_true', List.all_eq_true] at hc
 obtain ⟨hs, hf, hr, h1, h2, h3⟩ := hc
 refine wpAnyK_firstJ (J := J) hi (Region.noSelect_spec hs) hQ (by simpa using h1) (fun k hk => by simpa using h2 k hk) (fun k hk => ?_) fuel listed a w (fun k hk => (h3 k hk).1) (Region.free_spec hi hf) (by simpa using hr) hy hS h
 have h4 := (h3 k hk).2
 split at h4
 ·rename_i o ho
  refine ⟨o, ho, ?_⟩
  simp only [Array.any_eq_true', Bool.and_eq_true, Bool.or_eq_true, beq_iff_eq, List.contains_iff_mem] at h4
  obtain ⟨e, he, hb, hor⟩ := h4
  exact ⟨e, by simpa using he, hb, hor⟩
 ·cases h4
end
end Go.Proofs.YtkcikadgnnjjjaaGreatDoor.Wr
