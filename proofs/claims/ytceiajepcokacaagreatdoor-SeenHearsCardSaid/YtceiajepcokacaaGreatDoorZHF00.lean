/-
  WHAT IS PROVED: contracts and plain laws. Condition: each names its own.
-/
import Derived.Test.YtceiajepcokacaaGreatDoorS0
import Derived.Below
import Derived.BigQuiet
import Derived.Carry
import Derived.Deep.AppendLies
import Derived.Deep.AppendSrc
import Derived.Deep.DeepMust
import Derived.Deep.Quiet
import Derived.Deep.QuietTactic
import Derived.Deep.RegionHeld3
import Derived.Deep.Slices
import Derived.Laws.BitsAllLaws
import Derived.Laws.BytesString
import Derived.Laws.Rows
import Derived.Laws.Tables
import Derived.Lib.ConvBytes
import Derived.Lib.Hide
import Derived.Lib.Strings
import Derived.Maps.AppendAt
import Derived.OpenShut
import Derived.OrdersHeld
import Derived.OrdersIn
import Derived.Outline
import Derived.OwnWalk
import Derived.OwnWalkIn
import Derived.ProofKit
import Derived.RangeFuncCalls
import Derived.RangeFuncNested
import Derived.WalkKit
import Derived.WalkLawsBesides
import Derived.WalkSpells
set_option linter.unusedVariables false
set_option linter.unusedSimpArgs false
set_option maxRecDepth 100000
set_option maxHeartbeats 4000000
namespace Go.Proofs.YtceiajepcokacaaGreatDoor
open Go Go.RowKit
structure BN (P : Program) (t e : TypeId) (size bytes : Nat) (z : Value) : Prop where
 ht : P.underlying t = some (.slice e)
 ex : ∃ i, P.info? e = some i ∧ i.zero = some z ∧ i.size = size ∧ i.bytes = bytes
 hzs : z.cells.size = size
 hsz : 0 < size
theorem BN.mk' {P : Program} {t e : TypeId} {size bytes : Nat} {z : Value} (ht : P.underlying t = some (.slice e))
 (hi : (P.info? e).map (fun i => (i.zero, i.size, i.bytes)) = some (some z, size, bytes)) (hzs : z.cells.size = size) (hsz : 0 < size) : BN P t e size bytes z := by
 refine ⟨ht, ?_, hzs, hsz⟩
 cases h : P.info? e with
 | none => rw [h] at hi; cases hi
 | some i =>
   rw [h] at hi
   simp only [Option.map_some, Option.some.injEq, Prod.mk.injEq] at hi
   exact ⟨i, rfl, hi.1, hi.2.1, hi.2.2⟩
section
variable {P : Program} (w : World)
theorem ED {w : World} {base : Nat} {e : TypeId} {size : Nat} {v : Value} {n : Nat} {xs : List Value} (h : w.ownsRow base e size v n xs) : ∃ a c, v = .slice a n c ∧ n ≤ c ∧ c ≤ maxLen := by
 rcases h.2 with ⟨rfl, rfl⟩ | ⟨g, cap, cur, rfl, hb, hg, hn, hm, _⟩
 ·exact ⟨none, 0, rfl, Nat.le_refl _, Nat.zero_le _⟩
 ·exact ⟨_, cap, rfl, hn, hm⟩
theorem run_app (ty tx : TypeId) {t e : TypeId} {size bytes : Nat} {z : Value} (T : BN P t e size bytes z) (base : Nat)
 (v : Value) (n : Nat) (xs : List Value) (hown : w.ownsRow base e size v n xs)
 (x : Value) (m : Nat) (news : List Value) (hs : Src P size tx x m news w)
 (h63 : n + m ≤ maxLen) (hbytes : (n + m) * bytes ≤ 140737488355328) (hbase : base ≤ w.heap.size) :
 ∃ v' w', (Builtin.append_ #[t, tx] ty #[v, x]).run P w = .ok v' w' ∧ w'.ownsRow base e size v' (n + m) (xs ++ news) ∧ w.grownBy w' v.ownBlock ∧
   (v'.ownBlock = v.ownBlock ∨ v'.ownBlock = some w.heap.size) := by
 obtain ⟨ht, ⟨i, hi, hz, hsize, hby⟩, hzs, hsz⟩ := T
 subst hsize
 subst hby
 have hsmall : n + m ≤ 9223372036854775807 := by simp only [maxLen] at h63; omega
 have hl := hs.newsLen
 have hlen : (xs ++ news).length = (n + m) * i.size := by rw [List.length_append, hown.1, hl, Nat.add_mul]
 have grown : ∀ (old : Nat), old < n + m → ∀ (row : Option Nat),
  (w.drew.alloc (.cells ((xs ++ news).toArray ++ Builtin.zeroCells z.cells (grownCap w (n + m) old e - (n + m))) e)).ownsRow base e i.size
        (.slice (some ⟨w.heap.size, 0, none⟩) (n + m) (grownCap w (n + m) old e)) (n + m) (xs ++ news) ∧
  w.grownBy (w.drew.alloc (.cells ((xs ++ news).toArray ++ Builtin.zeroCells z.cells (grownCap w (n + m) old e - (n + m))) e)) row := by
  intro old ho row
  have hge := grownCap_ge w (n + m) old e
  have hcm : grownCap w (n + m) old e ≤ maxLen := grownCap_le_maxLen w (n + m) old e h63
  refine ⟨⟨hlen, .inr ⟨w.heap.size, _, _, rfl, hbase, heap_alloc_new w.drew _, hge, hcm, ?_, ?_⟩⟩, ⟨rfl, rfl, rfl, by simp, fun k hk _ => Below.heap_alloc w.drew _ k hk⟩⟩
  ·rw [Array.size_append, List.size_toArray, hlen, size_zeroCells, hzs, ← Nat.add_mul]
   congr 1
   omega
  ·rw [Array.toList_append, ← hlen]
   exact List.take_left
 rcases hown.2 with ⟨rfl, rfl⟩ | ⟨g, cap, cur, rfl, hbg, hg, hnc, hcm, hcs, htake⟩
 ·have hx : xs = [] := List.eq_nil_of_length_eq_zero (by simpa using hown.1)
  subst hx
  by_cases hm : m = 0
  ·subst hm
   have hn : news = [] := List.eq_nil_of_length_eq_zero (by simpa using hl)
   subst hn
   refine ⟨.slice none 0 0, w, ?_, World.ownsRow_nil w base e i.size, ⟨rfl, rfl, rfl, Nat.le_refl _, fun _ _ _ => rfl⟩, Or.inl rfl⟩
   rcases hs.kind with ⟨e', hk⟩ | hk <;>
        simp [Builtin.append_, run_underlying ht, run_underlying hk, sizeOf, typeInfo, hi, hs.len, hs.cells]
  ·have hr := run_append_grow_src (P := P) w t tx ty e i z ht hi hz none 0 0 [] (run_firstCells_none w.drew i.size 0 0 0) x m news hs (by omega) (by omega) (growslice_fits (by omega) (by simpa using hbytes))
   have hgr := grown 0 (by omega) (Value.ownBlock (.slice none 0 0))
   exact ⟨_, _, hr, hgr.1, hgr.2, Or.inr rfl⟩
 ·by_cases hroom : n + m ≤ cap
  ·have hfit : n * i.size + news.length ≤ cur.size := by rw [hl, hcs, ← Nat.add_mul]; exact Nat.mul_le_mul_right _ hroom
   have hst := run_storeCells_at P g (n * i.size) e news 0 cur w hg (by simpa using hfit) hs.one
   simp only [Nat.add_zero] at hst
   refine ⟨.slice (some ⟨g, 0, none⟩) (n + m) cap, w.setRow g (cur.toList.take (n * i.size) ++ news ++ cur.toList.drop (n * i.size + news.length)).toArray, ?_, ⟨hlen, .inr ⟨g, cap, _, rfl, hbg, setRow_heap w g cur _ e _ hg, hroom, hcm, ?_, ?_⟩⟩, ⟨rfl, rfl, rfl, by simp, fun k _ hk => setRow_other w g k _ (fun e => hk (by simp [Value.ownBlock, e]))⟩, Or.inl rfl⟩
   ·rcases hs.kind with ⟨e', hk⟩ | hk <;> simp [Builtin.append_, run_underlying ht, run_underlying hk, sizeOf, typeInfo, hi, hs.len, hroom, hs.cells, Addr.add_lit, hst]
   ·simp only [List.size_toArray, List.length_append, List.length_take, List.length_drop, Array.length_toList]
    omega
   ·rw [htake, ← hlen]
    exact List.take_left
  ·have holds : ∀ j u, xs[j]? = some u → w.cell? ((⟨g, 0, none⟩ : Addr).add j) = some u := hown.cells (g := g) rfl
   have hr := run_append_grow_src (P := P) w t tx ty e i z ht hi hz (some ⟨g, 0, none⟩) n cap xs
        (run_firstCells_some w.drew i.size n ⟨g, 0, none⟩ n cap xs hown.1 (by simpa using holds)) x m news hs (by omega) (by omega) (growslice_fits (by omega) hbytes)
   have hgr := grown cap (by omega) (Value.ownBlock (.slice (some ⟨g, 0, none⟩) n cap))
   exact ⟨_, _, hr, hgr.1, hgr.2, Or.inr rfl⟩
end
/-! ### A slice that is only read: its cells, in order -/
def Sl (w : World) (v : Value) (size n : Nat) (cs : List Value) : Prop :=
 cs.length = n * size ∧ ((v = .slice none 0 0 ∧ n = 0) ∨
    ∃ a cap, v = .slice (some a) n cap ∧ n ≤ cap ∧ cap ≤ maxLen ∧ ∀ j u, cs[j]? = some u → w.cell? (a.add j) = some u)
section
variable {w : World} {v : Value} {size n : Nat} {cs : List Value}
theorem Sl.nil (w : World) (size : Nat) : Sl w (.slice none 0 0) size 0 [] := ⟨by simp, .inl ⟨rfl, rfl⟩⟩
theorem Sl.form (h : Sl w v size n cs) : ∃ a cap, v = .slice a n cap ∧ n ≤ cap ∧ cap ≤ maxLen := by
 rcases h.2 with ⟨rfl, rfl⟩ | ⟨a, cap, rfl, h1, h2, _⟩
 ·exact ⟨none, 0, rfl, Nat.le_refl _, Nat.zero_le _⟩
 ·exact ⟨some a, cap, rfl, h1, h2⟩
theorem Sl.ofOwn {base : Nat} {e : TypeId} (h : w.ownsRow base e size v n cs) : Sl w v size n cs := by
 refine ⟨h.1, ?_⟩
 rcases h.2 with h0 | ⟨g, cap, cur, rfl, hb, hg, hn, hm, hs, ht⟩
 ·exact .inl h0
 ·exact .inr ⟨_, cap, rfl, hn, hm, h.cells (g := g) rfl⟩
theorem Sl.src {P : Program} {tx e' : TypeId} (h : Sl w v size n cs) (hk : P.underlying tx = some (.slice e')) (h1 : ∀ u ∈ cs, u.oneCell' = true) : Src P size tx v n cs w := by
 rcases h.2 with ⟨rfl, rfl⟩ | ⟨a, cap, rfl, hn, hm, hc⟩
 ·have hx : cs = [] := List.eq_nil_of_length_eq_zero (by simpa using h.1)
  subst hx
  exact Src.ofNil w hk 0
 ·exact Src.ofSlice w hk a n cap cs h.1 hc h1
theorem addr_add_add (a : Addr) (i j : Nat) : (a.add i).add j = a.add (i + j) := by
 unfold Addr.add
 by_cases hi : i = 0 <;> by_cases hj : j = 0 <;> simp [hi, hj, Nat.add_assoc]
theorem Sl.take {a : Addr} {cap m : Nat} (h : Sl w (.slice (some a) n cap) size n cs) (hm : m ≤ n) : Sl w (.slice (some a) m cap) size m (cs.take (m * size)) := by
 rcases h.2 with ⟨h0, _⟩ | ⟨a', cap', hx, hn, hc, hcell⟩
 ·cases h0
 cases hx
 have hle : m * size ≤ n * size := Nat.mul_le_mul_right _ hm
 refine ⟨by rw [List.length_take, h.1]; omega, .inr ⟨a, cap, rfl, by omega, hc, fun j u hu => ?_⟩⟩
 rw [List.getElem?_take] at hu
 split at hu
 ·exact hcell j u hu
 ·cases hu
theorem Sl.cut {a A : Addr} {cap k m : Nat} (h : Sl w (.slice (some a) n cap) size n cs) (hk : k ≤ m) (hm : m ≤ n) (hA : A = if cap = k then a else a.add (k * size)) : Sl w (.slice (some A) (m - k) (cap - k)) size (m - k) ((cs.take (m * size)).drop (k * size)) := by
 rcases h.2 with ⟨h0, _⟩ | ⟨a', cap', hx, hn, hc, hcell⟩
 ·cases h0
 cases hx
 have hle : m * size ≤ n * size := Nat.mul_le_mul_right _ hm
 have hks : k * size ≤ m * size := Nat.mul_le_mul_right _ hk
 refine ⟨by rw [List.length_drop, List.length_take, h.1, Nat.sub_mul]; omega, .inr ⟨A, cap - k, rfl, by omega, by omega, fun j u hu => ?_⟩⟩
 rw [List.getElem?_drop, List.getElem?_take] at hu
 split at hu
 ·rename_i hlt
  have hne : ¬ cap = k := by
   intro e
   have : m * size ≤ k * size := Nat.mul_le_mul_right _ (by omega)
   omega
  rw [if_neg hne] at hA
  rw [hA, addr_add_add]
  exact hcell _ u hu
 ·cases hu
theorem Sl.plain {a : Option Addr} {c : Nat} (h : Sl w (.slice a n c) size n cs) (hn : 0 < cs.length) :
 ∃ b off, a = some ⟨b, off, none⟩ ∧ b < w.heap.size ∧ ∀ j u, cs[j]? = some u → w.cell? ⟨b, off + j, none⟩ = some u := by
 rcases h.2 with ⟨_, h0⟩ | ⟨⟨b, off, spot⟩, c', ha, _, _, hc⟩
 ·have := h.1; rw [h0, Nat.zero_mul] at this; omega
 cases ha
 have h0 := hc 0 cs[0] (by simp [hn])
 have hspot : spot = none := by simpa [Addr.add] using World.cell?_spot h0
 subst hspot
 refine ⟨b, off, rfl, World.block_lt_of_cell? w _ (by simpa [Addr.add] using h0), fun j u hu => ?_⟩
 have := hc j u hu
 rwa [Addr.add_mid] at this
theorem flat_get {α : Type} (f : α → List Value) (n : Nat) : ∀ (l : List α) (k j : Nat) (x : α), (∀ y, (f y).length = n) → l[k]? = some x → j < n → (l.flatMap f)[k * n + j]? = (f x)[j]?
 | [], k, j, x, _, h, _ => by simp at h
 | y :: r, 0, j, x, hf, h, hj => by
   simp only [List.getElem?_cons_zero, Option.some.injEq] at h
   subst h
   rw [List.flatMap_cons, Nat.zero_mul, Nat.zero_add, List.getElem?_append_left (by rw [hf]; exact hj)]
 | y :: r, k + 1, j, x, hf, h, hj => by
   rw [List.flatMap_cons, List.getElem?_append_right (by rw [hf, Nat.add_mul]; omega), hf]
   rw [show (k + 1) * n + j - n = k * n + j by rw [Nat.add_mul]; omega]
   exact flat_get f n r k j x hf (by simpa using h) hj
theorem Sl.keep {w' : World} (h : Sl w v size n cs) (hb : ∀ k, v.ownBlock = some k → k < w.heap.size → w'.heap[k]? = w.heap[k]?) : Sl w' v size n cs := by
 refine ⟨h.1, ?_⟩
 rcases h.2 with h0 | ⟨a, cap, rfl, hn, hm, hc⟩
 ·exact .inl h0
 ·refine .inr ⟨a, cap, rfl, hn, hm, fun j u hu => ?_⟩
  have h1 := hc j u hu
  have hab : (a.add j).block = a.block := by unfold Addr.add; split <;> rfl
  have hlt : a.block < w.heap.size := by have := World.block_lt_of_cell? w _ h1; rwa [hab] at this
  rw [World.cell?_of_block (w := w) (by rw [hab]; exact hb a.block rfl hlt)]
  exact h1
end
def strV (l : List ByteArray) : List Value := l.map .string
theorem strV_length (l : List ByteArray) : (strV l).length = l.length := by simp [strV]
/-! ### What a call may have turned -/
structure Ext (S : Nat → Prop) (w w' : World) : Prop where
 os : w'.os = w.os
 tape : w'.tape = w.tape
 output : w'.output = w.output
 size : w.heap.size ≤ w'.heap.size
 block : ∀ k, k < w.heap.size → ¬ S k → w'.heap[k]? = w.heap[k]?
theorem Ext.refl (S : Nat → Prop) (w : World) : Ext S w w := ⟨rfl, rfl, rfl, Nat.le_refl _, fun _ _ _ => rfl⟩
theorem Ext.trans {S : Nat → Prop} {a b c : World} (h : Ext S a b) (k : Ext S b c) : Ext S a c :=
 ⟨k.os.trans h.os, k.tape.trans h.tape, k.output.trans h.output, Nat.le_trans h.size k.size, fun i hi hs => (k.block i (Nat.lt_of_lt_of_le hi h.size) hs).trans (h.block i hi hs)⟩
theorem Ext.mono {S S' : Nat → Prop} {a b : World} (h : Ext S a b) (hS : ∀ k, k < a.heap.size → S k → S' k) : Ext S' a b :=
 ⟨h.os, h.tape, h.output, h.size, fun k hk hs => h.block k hk fun h' => hs (hS k hk h')⟩
theorem Ext.drew {S : Nat → Prop} {a b : World} (h : Ext S a b) : Ext S a b.drew := ⟨h.os, h.tape, h.output, h.size, h.block⟩
theorem Ext.drewN {S : Nat → Prop} {a b : World} (h : Ext S a b) (n : Nat) : Ext S a (b.drewN n) := ⟨h.os, h.tape, h.output, h.size, h.block⟩
theorem Ext.alloc {S : Nat → Prop} {a b : World} (h : Ext S a b) (o : Obj) : Ext S a (b.alloc o) :=
 h.trans ⟨rfl, rfl, rfl, by simp, fun k hk _ => Below.heap_alloc _ _ _ hk⟩
theorem Ext.setCell {S : Nat → Prop} {a b : World} (h : Ext S a b) {p : Addr} (hp : S p.block ∨ a.heap.size ≤ p.block) (u : Value) : Ext S a (b.setCell p u) :=
 ⟨h.os, h.tape, h.output, by simpa [World.setCell] using h.size, fun k hk hs => (Below.heap_setCell _ _ _ _ (hp.elim (fun hp e => hs (by rw [e]; exact hp)) (fun hp => by omega))).trans (h.block k hk hs)⟩
theorem Ext.set1 (w : World) (b j : Nat) (u : Value) : Ext (fun k => k = b) w (w.setCell ⟨b, j, none⟩ u) :=
 (Ext.refl (fun k => k = b) w).setCell (p := ⟨b, j, none⟩) (.inl rfl) u
theorem Ext.grown {S : Nat → Prop} {a b c : World} {row : Option Nat} (h : Ext S a b) (hg : b.grownBy c row) (hr : ∀ k, row = some k → S k ∨ a.heap.size ≤ k) : Ext S a c :=
 ⟨hg.os.trans h.os, hg.tape.trans h.tape, hg.output.trans h.output, Nat.le_trans h.size hg.size, fun k hk hs => (hg.block k (Nat.lt_of_lt_of_le hk h.size) (fun e => (hr k e.symm).elim hs (fun h' => by omega))).trans (h.block k hk hs)⟩
theorem Ext.below {S : Nat → Prop} {a b : World} (h : Ext S a b) (hS : ∀ k, k < a.heap.size → ¬ S k) : Below a.heap.size a b :=
 ⟨h.os, h.tape, h.output, h.size, fun k hk => h.block k hk (hS k hk)⟩
theorem Ext.of_below {S : Nat → Prop} {a b : World} (h : Below a.heap.size a b) : Ext S a b := ⟨h.os, h.tape, h.output, h.size, fun k hk _ => h.block k hk⟩
theorem Ext.ofB {a b : World} (h : Below a.heap.size a b) : Ext (fun _ => False) a b := .of_below h
theorem Ext.cell {S : Nat → Prop} {a b : World} (h : Ext S a b) {p : Addr} (hlt : p.block < a.heap.size) (hp : ¬ S p.block) : b.cell? p = a.cell? p := World.cell?_of_block (h.block _ hlt hp)
theorem Ext.cellOf {S : Nat → Prop} {a b : World} (h : Ext S a b) {p : Addr} {v : Value} (hc : a.cell? p = some v) (hp : ¬ S p.block) : b.cell? p = some v :=
 (h.cell (World.block_lt_of_cell? a p hc) hp).trans hc
theorem Ext.Ai {S : Nat → Prop} {a b : World} (h : Ext S a b) {k : Nat} {o : Obj} (hc : a.heap[k]? = some o) (hp : ¬ S k) : b.heap[k]? = some o :=
 (h.block k (Array.getElem?_eq_some_iff.1 hc).1 hp).trans hc
theorem Ext.keeps {w w' : World} {S : Nat → Prop} (h : Ext S w w') : w.heap.size ≤ w'.heap.size ∧ (∀ b j, b < w.heap.size → ¬ S b → w'.cell? ⟨b, j, none⟩ = w.cell? ⟨b, j, none⟩) ∧ (∀ b j, b < w.heap.size → ¬ S b → w'.frozen? ⟨b, j, none⟩ = w.frozen? ⟨b, j, none⟩) :=
 ⟨h.size, fun _ _ hb hr => World.cell?_of_block (h.block _ hb hr), fun _ _ hb hr => World.frozen?_of_block (h.block _ hb hr)⟩
theorem Sl.ext {S : Nat → Prop} {w w' : World} {v : Value} {size n : Nat} {cs : List Value} (h : Sl w v size n cs) (he : Ext S w w') (hS : ∀ k, v.ownBlock = some k → ¬ S k) : Sl w' v size n cs :=
 h.keep fun k hk hlt => he.block k hlt (hS k hk)
theorem Bl.set {a w : World} (h : Below a.heap.size a w) {b j : Nat} (hb : a.heap.size ≤ b) (u : Value) : Below a.heap.size a (w.setCell ⟨b, j, none⟩ u) := h.setCell (p := ⟨b, j, none⟩) hb u
theorem Bl.new {a w : World} (h : Below a.heap.size a w) (o : Obj) : Below a.heap.size a (w.alloc o) := h.alloc h.size o
theorem Bl.drew {a w : World} (h : Below a.heap.size a w) : Below a.heap.size a w.drew := h.drew
theorem Bl.drewN {a w : World} (h : Below a.heap.size a w) (n : Nat) : Below a.heap.size a (w.drewN n) := ⟨h.os, h.tape, h.output, h.size, h.block⟩
theorem Bl.call {a w w' : World} (h : Below a.heap.size a w) (k : Below w.heap.size w w') : Below a.heap.size a w' := h.trans (k.mono h.size)
theorem Bl.grown {a w w' : World} {row : Option Nat} (h : Below a.heap.size a w) (hg : w.grownBy w' row) (hr : ∀ k, row = some k → a.heap.size ≤ k) : Below a.heap.size a w' := h.grown hg h.size hr
theorem Bl.ext {S : Nat → Prop} {a w w' : World} (h : Below a.heap.size a w) (k : Ext S w w') (hS : ∀ k, k < a.heap.size → ¬ S k) : Below a.heap.size a w' :=
 ((Ext.of_below (S := S) h).trans k).below hS
theorem Sl.below {w w' : World} {v : Value} {size n : Nat} {cs : List Value} (h : Sl w v size n cs) (he : Below w.heap.size w w') : Sl w' v size n cs :=
 h.keep fun k _ hlt => he.block k hlt
theorem GI {S : Nat → Prop} {w w' : World} {base : Nat} {e : TypeId} {v : Value} {size n : Nat} {xs : List Value} (h : w.ownsRow base e size v n xs) (he : Ext S w w') (hS : ∀ k, v.ownBlock = some k → ¬ S k) : w'.ownsRow base e size v n xs := by
 refine ⟨h.1, ?_⟩
 rcases h.2 with h0 | ⟨g, cap, cur, rfl, hb, hg, r⟩
 ·exact .inl h0
 ·exact .inr ⟨g, cap, cur, rfl, hb, by rw [he.block g (Array.getElem?_eq_some_iff.1 hg).1 (hS g rfl)]; exact hg, r⟩
theorem TV {w : World} {base base' : Nat} {e : TypeId} {v : Value} {size n : Nat} {xs : List Value} (h : w.ownsRow base e size v n xs) (hb : ∀ k, v.ownBlock = some k → base' ≤ k) : w.ownsRow base' e size v n xs := by
 refine ⟨h.1, ?_⟩
 rcases h.2 with h0 | ⟨g, cap, cur, rfl, _, r⟩
 ·exact .inl h0
 ·exact .inr ⟨g, cap, cur, rfl, hb g rfl, r⟩
theorem str_eq {s t : ByteArray} (h : s.toList = t.toList) : s = t := by
 rw [ByteArray.toList_eq, ByteArray.toList_eq] at h
 rw [← Go.Lib.mk_data s, ← Go.Lib.mk_data t, h]
theorem ET {s t : ByteArray} (h : s ≠ t) : (s.toList == t.toList) = false := by
 rw [beq_eq_false_iff_ne]
 exact fun e => h (str_eq e)
/-! ### Blocks -/
theorem heap_setCell_same {w : World} {b j : Nat} {cs : Array Value} {t : TypeId} {fr : Nat × Nat} (h : w.heap[b]? = some (.cells cs t fr)) (u : Value) :
 (w.setCell ⟨b, j, none⟩ u).heap[b]? = some (.cells (cs.setIfInBounds j u) t fr) := by
 simp only [World.setCell, Array.getElem?_modify, if_true, h]
 rfl
theorem AX {w : World} {b c j : Nat} (u : Value) (h : c ≠ b) : (w.setCell ⟨b, j, none⟩ u).heap[c]? = w.heap[c]? := Below.heap_setCell w ⟨b, j, none⟩ u c h
theorem AL (w : World) (o : Obj) : (w.alloc o).heap[w.heap.size]? = some o := by
 show (w.heap.push o)[w.heap.size]? = _
 simp
theorem Pw (w : World) (o : Obj) (k : Nat) : (w.alloc o).heap[k]? = if k = w.heap.size then some o else w.heap[k]? := by
 show (w.heap.push o)[k]? = _
 rw [Array.getElem?_push]
theorem Ak {w : World} {k : Nat} {x : Obj} (h : w.heap[k]? = some x) (o : Obj) : (w.alloc o).heap[k]? = some x := by
 rw [Pw, if_neg (by have := (Array.getElem?_eq_some_iff.1 h).1; omega)]; exact h
theorem Ad {w : World} {k : Nat} (o : Obj) (h : k = w.heap.size) : (w.alloc o).heap[k]? = some o := by
 rw [Pw, if_pos h]
theorem Oy {w : World} {base k n size : Nat} {e : TypeId} {cs : Array Value} (hk : k = w.heap.size) (hb : base ≤ k) (hm : n ≤ maxLen) (hs : cs.size = n * size) :
 (w.alloc (.cells cs e)).ownsRow base e size (.slice (some ⟨k, 0, none⟩) n n) n cs.toList := by
 subst hk
 exact World.ownsRow_lit w cs n hb hm hs
theorem AA {w : World} {b : Nat} {cs : Array Value} {t : TypeId} (h : w.heap[b]? = some (.cells cs t (0, 0))) : (∀ j, w.cell? ⟨b, j, none⟩ = cs[j]?) ∧ (∀ j, w.frozen? ⟨b, j, none⟩ = false) :=
 ⟨fun j => cell_of_row w b j cs t _ h, fun j => by simp [World.frozen?, h]⟩
theorem AO {w : World} {b j : Nat} {cs : Array Value} {t : TypeId} {fr : Nat × Nat} (h : w.heap[b]? = some (.cells cs t fr)) : w.cell? ⟨b, j, none⟩ = cs[j]? := cell_of_row w b j cs t fr h
theorem BK {w : World} {b j : Nat} {cs : Array Value} {t : TypeId} (h : w.heap[b]? = some (.cells cs t (0, 0))) : w.frozen? ⟨b, j, none⟩ = false := by
 simp [World.frozen?, h]
theorem AJ {w : World} {b : Nat} {o : Obj} (h : w.heap[b]? = some o) : b < w.heap.size := (Array.getElem?_eq_some_iff.1 h).1
theorem Ext.setMany (b : Nat) : ∀ (vs : List Value) (o : Nat) (w : World), Ext (fun k => k = b) w (w.setCells b o vs)
 | [], _, w => Ext.refl _ w
 | v :: r, o, w => by
   rw [World.setCells]
   exact (Ext.set1 w b o v).trans (Ext.setMany b r (o + 1) _)
theorem Cz {b : Nat} {t : TypeId} {fr : Nat × Nat} : ∀ (vs : List Value) (o : Nat) (w : World) (cs : Array Value), w.heap[b]? = some (.cells cs t fr) →
 ∃ cs' : Array Value, (w.setCells b o vs).heap[b]? = some (.cells cs' t fr) ∧ cs'.size = cs.size ∧ (∀ j, j < o → cs'[j]? = cs[j]?) ∧ (o + vs.length ≤ cs.size → ∀ j, j < vs.length → cs'[o + j]? = vs[j]?) ∧ (∀ j, o + vs.length ≤ j → cs'[j]? = cs[j]?)
 | [], o, w, cs, h => ⟨cs, h, rfl, fun _ _ => rfl, fun _ j hj => by simp at hj, fun _ _ => rfl⟩
 | v :: r, o, w, cs, h => by
   obtain ⟨cs', h1, h2, h3, h4, h5⟩ := Cz r (o + 1) (w.setCell ⟨b, o, none⟩ v) (cs.setIfInBounds o v) (heap_setCell_same h v)
   refine ⟨cs', by rw [World.setCells]; exact h1, by simpa using h2, fun j hj => ?_, fun hle j hj => ?_, fun j hj => ?_⟩
   ·rw [h3 j (by omega), Array.getElem?_setIfInBounds_ne (by omega)]
   ·match j, hj with
    | 0, _ =>
      rw [h3 (o + 0) (by omega)]
      simp only [List.length_cons] at hle
      simp [show o < cs.size by omega]
    | j + 1, hj =>
      have := h4 (by simp only [List.length_cons] at hle; simp; omega) j (by simpa using hj)
      rw [show o + (j + 1) = o + 1 + j by omega]
      simpa using this
   ·simp only [List.length_cons] at hj
    rw [h5 j (by omega), Array.getElem?_setIfInBounds_ne (by omega)]
open Go Go.RowKit Go.ChangeShapes Go.WideShapes
abbrev CK := Option (Option IntKind)
def Y5 : CK → Value → Prop
 | none, v => ∃ s : ByteArray, v = .string s ∧ s.size ≤ maxLen
 | some none, v => ∃ b, v = .bool b
 | some (some k), v => ∃ n, v = .int k n ∧ (Lit.int k n).wf = true
def EA (P : Program) (F : TypeId → Option (List CK)) : Nat → List Field → Option (List CK)
 | _, [] => some []
 | off, f :: r => match F f.type with
   | some l => if f.offset = off ∧ P.cellsOf f.type = l.length then (EA P F (off + l.length) r).map (l ++ ·) else none
   | none => none
def flat (P : Program) : Nat → TypeId → Option (List CK)
 | 0, _ => none
 | n + 1, t => match P.underlying t with
   | some .bool => some [some none]
   | some (.int k) => some [some (some k)]
   | some .string => some [none]
   | some (.struct fs) => match EA P (flat P n) 0 fs.toList with
     | some l => if P.cellsOf t = l.length then some l else none
     | none => none
   | some (.array m e) => match flat P n e with
     | some l => if P.cellsOf t = m * l.length ∧ P.cellsOf e = l.length then some ((List.replicate m l).flatten) else none
     | none => none
   | _ => none
def Fits (ks : List CK) (cs : List Value) : Prop := ks.length = cs.length ∧ ∀ (i : Nat) (k : CK), ks[i]? = some k → ∃ v, cs[i]? = some v ∧ Y5 k v
theorem NU {P : Program} {F : TypeId → Option (List CK)} {cs : List Value} : ∀ (fs : List Field) (off : Nat) (ks : List CK), EA P F off fs = some ks →
 (∀ f ∈ fs, ∀ l, F f.type = some l → P.cellsOf f.type = l.length → Fits l ((cs.drop f.offset).take (P.cellsOf f.type))) → ∀ (i : Nat) (k : CK), ks[i]? = some k → ∃ v, cs[off + i]? = some v ∧ Y5 k v
 | [], off, ks, h, _, i, k, hk => by
   simp [EA] at h
   subst h
   simp at hk
 | f :: r, off, ks, h, hf, i, k, hk => by
   simp only [EA] at h
   cases hl : F f.type with
   | none => rw [hl] at h; cases h
   | some l =>
     rw [hl] at h
     simp only at h
     split at h
     ·rename_i hc
      obtain ⟨ks', hks, rfl⟩ := Option.map_eq_some_iff.1 h
      by_cases hi : i < l.length
      ·rw [List.getElem?_append_left hi] at hk
       obtain ⟨v, hv, hok⟩ := (hf f (List.mem_cons_self ..) l hl hc.2).2 i k hk
       rw [List.getElem?_take] at hv
       split at hv
       ·rw [List.getElem?_drop, hc.1] at hv
        exact ⟨v, hv, hok⟩
       ·cases hv
      ·rw [List.getElem?_append_right (by omega)] at hk
       obtain ⟨v, hv, hok⟩ := NU r (off + l.length) ks' hks (fun f' hm => hf f' (List.mem_cons_of_mem _ hm)) (i - l.length) k hk
       exact ⟨v, by rw [show off + i = off + l.length + (i - l.length) by omega]; exact hv, hok⟩
     ·cases h
theorem Dy {α : Type} (l : List α) : ∀ (m i : Nat), i < m * l.length → (List.replicate m l).flatten[i]? = l[i % l.length]?
 | 0, i, h => by simp at h
 | m + 1, i, h => by
   have hl : 0 < l.length := by
     rcases Nat.eq_zero_or_pos l.length with h0 | h0
     ·rw [h0] at h; simp at h
     ·exact h0
   rw [List.replicate_succ, List.flatten_cons]
   by_cases hi : i < l.length
   ·rw [List.getElem?_append_left hi, Nat.mod_eq_of_lt hi]
   ·rw [List.getElem?_append_right (by omega), Dy l m (i - l.length) (by rw [Nat.add_mul] at h; omega)]
    congr 1
    rw [Nat.mod_eq_sub_mod (a := i) (by omega)]
section
variable {H : Type} {enc : TypeId × Value → H} {P : Program} {w : World} {base : Nat} {spare : Nat → Bool} {held : Bool}
theorem O4 : ∀ (n : Nat) (t : TypeId) (ks : List CK), flat P n t = some ks → ∀ (fuel : Nat) (cs : List Value) (x : DataW H × List MemPlace), DataW.trod enc P w base spare held fuel t cs = some x → Fits ks cs := by
 intro n
 induction n with
 | zero => intro t ks h; simp [flat] at h
 | succ n ih =>
   intro t ks h fuel cs x hx
   simp only [flat] at h
   cases hu : P.underlying t with
   | none => rw [hu] at h; cases h
   | some d =>
     rw [hu] at h
     cases d with
     | bool =>
       simp only [Option.some.injEq] at h
       subst h
       obtain ⟨b, rfl, _⟩ := DataW.trod_bool hu hx
       exact ⟨rfl, fun i k hk => by match i, hk with | 0, hk => simp at hk; subst hk; exact ⟨_, rfl, b, rfl⟩⟩
     | int kd =>
       simp only [Option.some.injEq] at h
       subst h
       obtain ⟨z, rfl, _, hw⟩ := DataW.trod_int hu hx
       exact ⟨rfl, fun i k hk => by match i, hk with | 0, hk => simp at hk; subst hk; exact ⟨_, rfl, z, rfl, hw⟩⟩
     | string =>
       simp only [Option.some.injEq] at h
       subst h
       obtain ⟨s, rfl, _, hw⟩ := DataW.trod_string hu hx
       exact ⟨rfl, fun i k hk => by match i, hk with | 0, hk => simp at hk; subst hk; exact ⟨_, rfl, s, rfl, hw⟩⟩
     | struct fs =>
       simp only at h
       cases hf : EA P (flat P n) 0 fs.toList with
       | none => rw [hf] at h; cases h
       | some l =>
         rw [hf] at h
         simp only at h
         split at h
         ·rename_i hc
          simp only [Option.some.injEq] at h
          subst h
          obtain ⟨xs, m, _, _, hlen, hxl, hget⟩ := DataW.trod_struct hu hx
          refine ⟨by omega, fun i k hk => ?_⟩
          have := NU (cs := cs) fs.toList 0 l hf (fun f hm l' hl' hc' => ?_) i k hk
          ·simpa using this
          ·obtain ⟨j, hj⟩ := List.mem_iff_getElem?.1 hm
           have hj' : fs[j]? = some f := by simpa using hj
           have h1 := hget j f hj'
           have hlt : j < xs.length := by rw [hxl]; exact (Array.getElem?_eq_some_iff.1 hj').1
           rw [List.getElem?_eq_getElem hlt] at h1
           exact ih f.type l' hl' m _ _ h1
         ·cases h
     | array m e =>
       simp only at h
       cases hf : flat P n e with
       | none => rw [hf] at h; cases h
       | some l =>
         rw [hf] at h
         simp only at h
         split at h
         ·rename_i hc
          simp only [Option.some.injEq] at h
          subst h
          obtain ⟨xs, q, _, _, hlen, hxl, hget⟩ := DataW.trod_array hu hx
          refine ⟨by rw [List.length_flatten]; simp; omega, fun i k hk => ?_⟩
          have hi : i < m * l.length := by
             have := (List.getElem?_eq_some_iff.1 hk).1
             rw [List.length_flatten] at this
             simpa using this
          have hl : 0 < l.length := by
             rcases Nat.eq_zero_or_pos l.length with h0 | h0
             ·rw [h0] at hi; simp at hi
             ·exact h0
          rw [Dy l m i hi] at hk
          have hd : i / l.length < m := Nat.div_lt_of_lt_mul (by rw [Nat.mul_comm]; exact hi)
          have h1 := hget (i / l.length) hd
          rw [List.getElem?_eq_getElem (by omega)] at h1
          obtain ⟨v, hv, hok⟩ := (ih e l hf q _ _ h1).2 (i % l.length) k hk
          rw [List.getElem?_take] at hv
          split at hv
          ·rw [List.getElem?_drop, hc.2] at hv
           refine ⟨v, ?_, hok⟩
           rw [← hv]
           congr 1
           rw [Nat.mul_comm]
           exact (Nat.div_add_mod i l.length).symm
          ·cases hv
         ·cases h
     | _ => cases h
end
open Go Go.RowKit
def Ow (w : World) (base : Nat) (e : TypeId) (size : Nat) (v : Value) (n : Nat) (xs : List Value) : Prop :=
 xs.length = n * size ∧ ((v = .slice none 0 0 ∧ n = 0) ∨
    ∃ g cap cur fr, v = .slice (some ⟨g, 0, none⟩) n cap ∧ base ≤ g ∧ w.heap[g]? = some (.cells cur e fr) ∧ n ≤ cap ∧ cap ≤ maxLen ∧ cur.size = cap * size ∧ cur.toList.take (n * size) = xs ∧ ∀ j, j < cur.size → ¬ (fr.1 ≤ j ∧ j < fr.2))
section
variable {w : World} {base : Nat} {e : TypeId} {size : Nat} {v : Value} {n : Nat} {xs : List Value}
theorem Ow.of (h : w.ownsRow base e size v n xs) : Ow w base e size v n xs := by
 refine ⟨h.1, ?_⟩
 rcases h.2 with h0 | ⟨g, cap, cur, hv, hb, hg, hn, hm, hs, ht⟩
 ·exact .inl h0
 ·exact .inr ⟨g, cap, cur, (0, 0), hv, hb, hg, hn, hm, hs, ht, fun j _ h => by simp at h⟩
theorem Ow.nil (w : World) (base : Nat) (e : TypeId) (size : Nat) : Ow w base e size (.slice none 0 0) 0 [] := Ow.of (World.ownsRow_nil w base e size)
theorem Ow.sl (h : Ow w base e size v n xs) : Sl w v size n xs := by
 refine ⟨h.1, ?_⟩
 rcases h.2 with h0 | ⟨g, cap, cur, fr, rfl, hb, hg, hn, hm, hs, ht, _⟩
 ·exact .inl h0
 ·refine .inr ⟨_, cap, rfl, hn, hm, fun j u hu => ?_⟩
  rw [Addr.add_mid, Nat.zero_add, AO hg]
  rw [← ht, List.getElem?_take] at hu
  split at hu
  ·simpa using hu
  ·cases hu
theorem Ow.form (h : Ow w base e size v n xs) : ∃ a c, v = .slice a n c ∧ n ≤ c ∧ c ≤ maxLen := h.sl.form
theorem Ow.lt (h : Ow w base e size v n xs) : ∀ k, v.ownBlock = some k → base ≤ k ∧ k < w.heap.size := by
 intro k hk
 rcases h.2 with ⟨rfl, _⟩ | ⟨g, cap, cur, fr, rfl, hb, hg, _⟩
 ·simp [Value.ownBlock] at hk
 ·simp [Value.ownBlock] at hk
  subst hk
  exact ⟨hb, AJ hg⟩
theorem Ow.ext {S : Nat → Prop} {w' : World} (h : Ow w base e size v n xs) (he : Ext S w w') (hS : ∀ k, v.ownBlock = some k → ¬ S k) : Ow w' base e size v n xs := by
 refine ⟨h.1, ?_⟩
 rcases h.2 with h0 | ⟨g, cap, cur, fr, rfl, hb, hg, r⟩
 ·exact .inl h0
 ·exact .inr ⟨g, cap, cur, fr, rfl, hb, by rw [he.block g (AJ hg) (hS g rfl)]; exact hg, r⟩
theorem Ow.rebase {base' : Nat} (h : Ow w base e size v n xs) (hb : ∀ k, v.ownBlock = some k → base' ≤ k) : Ow w base' e size v n xs := by
 refine ⟨h.1, ?_⟩
 rcases h.2 with h0 | ⟨g, cap, cur, fr, rfl, _, r⟩
 ·exact .inl h0
 ·exact .inr ⟨g, cap, cur, fr, rfl, hb g rfl, r⟩
end
section
variable {P : Program} (w : World)
theorem Fj (ty tx : TypeId) {t e : TypeId} {size bytes : Nat} {z : Value} (T : BN P t e size bytes z) (base : Nat)
 (v : Value) (n : Nat) (xs : List Value) (hown : Ow w base e size v n xs)
 (x : Value) (m : Nat) (news : List Value) (hs : Src P size tx x m news w)
 (h63 : n + m ≤ maxLen) (hbytes : (n + m) * bytes ≤ 140737488355328) (hbase : base ≤ w.heap.size) :
 ∃ v' w', (Builtin.append_ #[t, tx] ty #[v, x]).run P w = .ok v' w' ∧ Ow w' base e size v' (n + m) (xs ++ news) ∧ w.grownBy w' v.ownBlock ∧
   (v'.ownBlock = v.ownBlock ∨ v'.ownBlock = some w.heap.size) := by
 rcases hown.2 with ⟨rfl, rfl⟩ | ⟨g, cap, cur, fr, rfl, hbg, hg, hnc, hcm, hcs, htake, hfr⟩
 ·have hx : xs = [] := List.eq_nil_of_length_eq_zero (by simpa using hown.1)
  subst hx
  obtain ⟨v', w', h1, h2, h3, h4⟩ := run_app w ty tx T base _ 0 [] (World.ownsRow_nil w base e size) x m news hs h63 hbytes hbase
  exact ⟨v', w', h1, Ow.of h2, h3, h4⟩
 ·obtain ⟨ht, ⟨i, hi, hz, hsize, hby⟩, hzs, hsz⟩ := T
  subst hsize
  subst hby
  have hl := hs.newsLen
  have hlen : (xs ++ news).length = (n + m) * i.size := by rw [List.length_append, hown.1, hl, Nat.add_mul]
  by_cases hroom : n + m ≤ cap
  ·have hfit : n * i.size + news.length ≤ cur.size := by rw [hl, hcs, ← Nat.add_mul]; exact Nat.mul_le_mul_right _ hroom
   have hr := run_append_room_src (P := P) w t tx ty e i ht hi g 0 n cap x m news hs hroom
        (fun j hj => by rw [AO hg, Nat.zero_add, Array.getElem?_eq_getElem (by omega)]; rfl)
        (fun j hj => by
         have := hfr (0 + n * i.size + j) (by omega)
         simp only [World.frozen?, hg]
         simp only [Bool.and_eq_false_iff, decide_eq_false_iff_not]
         omega)
   rw [Nat.zero_add] at hr
   obtain ⟨cs', h1, h2, h3, h4, h5⟩ := Cz news (n * i.size) w cur hg
   refine ⟨_, _, hr, ⟨hlen, .inr ⟨g, cap, cs', fr, rfl, hbg, h1, hroom, hcm, by omega, ?_, fun j hj => hfr j (by omega)⟩⟩, ?_, .inl rfl⟩
   ·apply List.ext_getElem?
    intro j
    rw [List.getElem?_take]
    by_cases hj : j < (n + m) * i.size
    ·rw [if_pos hj]
     rw [Nat.add_mul] at hj
     by_cases hj2 : j < n * i.size
     ·rw [List.getElem?_append_left (by rw [hown.1]; exact hj2), ← htake, List.getElem?_take, if_pos hj2]
      have := h3 j hj2
      simpa using this
     ·rw [List.getElem?_append_right (by rw [hown.1]; omega), hown.1]
      have := h4 (by omega) (j - n * i.size) (by omega)
      rw [show n * i.size + (j - n * i.size) = j by omega] at this
      simpa using this
    ·rw [if_neg hj, List.getElem?_eq_none (by omega)]
   ·have he := Ext.setMany g news (n * i.size) w
    exact ⟨he.os, he.tape, he.output, he.size, fun k hk hne => he.block k hk (fun e => hne (by rw [e]; rfl))⟩
  ·have holds : ∀ j u, xs[j]? = some u → w.cell? ((⟨g, 0, none⟩ : Addr).add j) = some u := fun j u hu => by
        rcases hown.sl.2 with ⟨h0, _⟩ | ⟨a, c, ha, _, _, hc⟩
        ·cases h0
        ·cases ha; exact hc j u hu
   have hr := run_append_grow_src (P := P) w t tx ty e i z ht hi hz (some ⟨g, 0, none⟩) n cap xs
        (run_firstCells_some w.drew i.size n ⟨g, 0, none⟩ n cap xs hown.1 (by simpa using holds)) x m news hs (by omega) (by simp only [maxLen] at h63; omega) (growslice_fits (by omega) hbytes)
   have hge := grownCap_ge w (n + m) cap e
   have hcm' : grownCap w (n + m) cap e ≤ maxLen := grownCap_le_maxLen w (n + m) cap e h63
   refine ⟨_, _, hr, ⟨hlen, .inr ⟨w.heap.size, _, _, (0, 0), rfl, hbase, heap_alloc_new w.drew _, hge, hcm', ?_, ?_, fun j _ h => by simp at h⟩⟩, ⟨rfl, rfl, rfl, by simp, fun k hk _ => Below.heap_alloc w.drew _ k hk⟩, Or.inr rfl⟩
   ·rw [Array.size_append, List.size_toArray, hlen, size_zeroCells, hzs, ← Nat.add_mul]
    congr 1
    omega
   ·rw [Array.toList_append, ← hlen]
    exact List.take_left
theorem Qu {o : Oper} {a : Act} {K : Act → World → Prop} {Q : Exit → Act → World → Prop} (s x : Operand) (t tx : TypeId)
 (ho : o.op = .call { callee := .builtin .append, args := #[s, x], argTypes := #[t, tx] })
 {e : TypeId} {size bytes : Nat} {z : Value} (T : BN P t e size bytes z) (base : Nat)
 (v : Value) (n : Nat) (xs : List Value) (hv : a.eval s = v) (hown : Ow w base e size v n xs)
 (y : Value) (m : Nat) (news : List Value) (hy : a.eval x = y) (hs : Src P size tx y m news w)
 (N : Nat) (hN : n + m = N) (zs : List Value) (hz : xs ++ news = zs)
 (h63 : N ≤ maxLen) (hbytes : N * bytes ≤ 140737488355328) (hbase : base ≤ w.heap.size)
 (h : ∀ a' c' w', Ow w' base e size (.slice a' N c') N zs → w.grownBy w' v.ownBlock → ((Value.slice a' N c').ownBlock = v.ownBlock ∨ (Value.slice a' N c').ownBlock = some w.heap.size) → K (a.put o.dst (.slice a' N c')) w') : o.wp P a w K Q := by
 subst hN
 subst hz
 obtain ⟨v', w', hr, h2, h3, h4⟩ := Fj (P := P) w o.type tx T base v n xs hown y m news hs h63 hbytes hbase
 unfold Oper.wp execOp
 simp only [ho, resolve, invoke, builtin, Sem.run_bind, Sem.run_pure, Result.andThen_ok, List.map_toArray, List.map_cons, List.map_nil, hv, hy, hr]
 obtain ⟨a', c', rfl, _, _⟩ := h2.form
 exact h a' c' w' h2 h3 h4
theorem Al {ops : Array Oper} {rest : List Oper} {o : Oper} {a : Act} {Q : Exit → Act → World → Prop} (hgd : o.guard = none) (s x : Operand) (t tx : TypeId)
 (ho : o.op = .call { callee := .builtin .append, args := #[s, x], argTypes := #[t, tx] })
 {e : TypeId} {size bytes : Nat} {z : Value} (T : BN P t e size bytes z) (base : Nat)
 (v : Value) (n : Nat) (xs : List Value) (hv : a.eval s = v) (hown : Ow w base e size v n xs)
 (y : Value) (m : Nat) (news : List Value) (hy : a.eval x = y) (hs : Src P size tx y m news w)
 (N : Nat) (hN : n + m = N) (zs : List Value) (hz : xs ++ news = zs)
 (h63 : N ≤ maxLen) (hbytes : N * bytes ≤ 140737488355328) (hbase : base ≤ w.heap.size)
 (h : ∀ a' c' w', Ow w' base e size (.slice a' N c') N zs → w.grownBy w' v.ownBlock → ((Value.slice a' N c').ownBlock = v.ownBlock ∨ (Value.slice a' N c').ownBlock = some w.heap.size) → wpList P ops Q rest (a.put o.dst (.slice a' N c')) w') : wpList P ops Q (o :: rest) a w :=
 wpList_plain hgd fun _ hK => Qu w s x t tx ho T base v n xs hv hown y m news hy hs N hN zs hz h63 hbytes hbase fun a' c' w' h2 h3 h4 => hK _ _ (h a' c' w' h2 h3 h4)
def byV (l : List UInt8) : List Value := l.map fun b => Value.int .u8 b.toNat
theorem AZ (l : List UInt8) : (byV l).length = l.length := by simp [byV]
theorem Ao (l r : List UInt8) : byV (l ++ r) = byV l ++ byV r := by simp [byV]
theorem VX (l : List UInt8) : ∀ u ∈ byV l, u.oneCell' = true := by
 intro u hu
 obtain ⟨s, _, rfl⟩ := List.mem_map.1 hu
 rfl
theorem O8 (s : ByteArray) : byteCells s = byV s.data.toList := rfl
theorem PU : ∀ (l : List UInt8) (s : ByteArray), l.foldl (fun r b => r.push b) s = ⟨(s.data.toList ++ l).toArray⟩
 | [], s => by simp
 | b :: l, s => by
   rw [List.foldl_cons, PU l (s.push b)]
   congr 1
   simp [ByteArray.push]
theorem Ex {base : Nat} (e : TypeId) (s : ByteArray) (hs : s.size ≤ maxLen) (hb : base ≤ w.heap.size) :
 Ow (Go.Lib.bytesWorld w e s) base e 1 (.slice (some ⟨w.heap.size, 0, none⟩) s.size (grownCap w s.size 0 e)) s.size (byV s.data.toList) := by
 have hge := grownCap_ge w s.size 0 e
 have hc := grownCap_le_maxLen w s.size 0 e hs
 have hl : (byV s.data.toList).length = s.size := by rw [AZ]; exact (Go.Lib.size_eq s).symm
 refine ⟨by omega, .inr ⟨_, _, _, _, rfl, hb, Go.Lib.bytesWorld_at_new w e s, hge, hc, ?_, ?_, fun j hj h => by omega⟩⟩
 ·simp [Go.Lib.bytesCells]; omega
 ·simp only [Go.Lib.bytesCells, Array.toList_append, Nat.mul_one]
  rw [List.take_left' (by simp)]
  simp [byV]
theorem Dn (e : TypeId) (s : ByteArray) : Below w.heap.size w (Go.Lib.bytesWorld w e s) :=
 ⟨by simp [Go.Lib.bytesWorld, World.freeze, World.alloc, World.drew, -World.alloc_eq, -World.drew_eq], by simp [Go.Lib.bytesWorld, World.freeze, World.alloc, World.drew, -World.alloc_eq, -World.drew_eq], by simp [Go.Lib.bytesWorld, World.freeze, World.alloc, World.drew, -World.alloc_eq, -World.drew_eq], by rw [Go.Lib.bytesWorld_size]; omega, fun k hk => Go.Lib.bytesWorld_at_old w e s k hk⟩
theorem run_text (src dst e : TypeId) (hs : P.underlying src = some (.slice e)) (he : P.underlying e = some (.int .u8)) (hd : P.underlying dst = some .string)
 (v : Value) (l : List UInt8) (hv : Sl w v 1 l.length (byV l)) : (convert src dst v).run P w = .ok (.string ⟨l.toArray⟩) w := by
 rcases hv.2 with ⟨rfl, h0⟩ | ⟨a, cap, rfl, hn, hm, hc⟩
 ·have : l = [] := List.eq_nil_of_length_eq_zero h0
  subst this
  rw [run_convert_bytes_string w src dst e none 0 0 hs he hd]
  rfl
 ·rw [run_convert_bytes_string w src dst e (some a) l.length cap hs he hd]
  have h1 : (loadCells a l.length).run P w = .ok ((l.map fun b => (b.toNat : Int)).map (Value.int .u8)).toArray w := by
   have := run_loadCells_list (P := P) w a (byV l) hc
   rw [AZ] at this
   rw [this]
   simp [byV]
  rw [run_bytesToString w a l.length cap _ h1]
  congr 2
  rw [List.foldl_map]
  have h2 : (fun (r : ByteArray) (b : UInt8) => r.push (UInt8.ofNat (Int.toNat (b.toNat : Int)))) = fun r b => r.push b := by
   funext r b
   simp
  rw [h2, PU]
  rfl
end
theorem Ow.bytes {w : World} {base : Nat} {e : TypeId} {v : Value} {n : Nat} {l : List UInt8} (h : Ow w base e 1 v n (byV l)) : Ow w base e 1 v l.length (byV l) := by
 have hl := h.1
 rw [AZ, Nat.mul_one] at hl
 rw [hl]
 exact h
theorem YT : ∀ a : Fin 256, (a.val ||| 128) = a.val % 128 + 128 := by decide +kernel
theorem Ql (m : Nat) : bits .or .u8 ((m : Int) % 256) 128 = ((UInt8.ofNat (m % 128 + 128)).toNat : Int) := by
 have h := u8_or_nat (m % 256) 128 (by omega) (by omega)
 have e : ((m : Int) % 256) = ((m % 256 : Nat) : Int) := by omega
 rw [e]
 show bits .or .u8 ((m % 256 : Nat) : Int) ((128 : Nat) : Int) = _
 rw [h]
 have h2 := YT ⟨m % 256, by omega⟩
 simp only at h2
 rw [h2]
 have h3 : (UInt8.ofNat (m % 128 + 128)).toNat = (m % 128 + 128) % 256 := rfl
 rw [h3]
 omega
theorem Sw {m : Nat} (h : m < 256) : (m : Int) = ((UInt8.ofNat m).toNat : Int) := by
 have h3 : (UInt8.ofNat m).toNat = m % 256 := rfl
 rw [h3]
 omega
/-! ### A slice that grew -/
theorem Ext.step {S S' : Nat → Prop} {a b c : World} (h : Ext S a b) (k : Ext S' b c) (hS : ∀ k, k < a.heap.size → S' k → S k) : Ext S a c :=
 ⟨k.os.trans h.os, k.tape.trans h.tape, k.output.trans h.output, Nat.le_trans h.size k.size, fun i hi hs => (k.block i (Nat.lt_of_lt_of_le hi h.size) (fun hs' => hs (hS i hi hs'))).trans (h.block i hi hs)⟩
structure Gr (base : Nat) (e : TypeId) (size : Nat) (w : World) (v : Value) (w' : World) (v' : Value) (n : Nat) (cs : List Value) : Prop where
 own : Ow w' base e size v' n cs
 ext : Ext (fun k => v.ownBlock = some k) w w'
 frm : v'.ownBlock = v.ownBlock ∨ ∃ k, v'.ownBlock = some k ∧ w.heap.size ≤ k
section
variable {base : Nat} {e : TypeId} {size : Nat} {w w1 w2 : World} {v v1 v2 : Value} {n n1 n2 : Nat} {cs cs1 cs2 : List Value}
theorem Gr.refl (h : Ow w base e size v n cs) : Gr base e size w v w v n cs := ⟨h, Ext.refl _ _, .inl rfl⟩
theorem Gr.sub (h : Gr base e size w v w1 v1 n1 cs1) : ∀ k, k < w.heap.size → v1.ownBlock = some k → v.ownBlock = some k := by
 intro k hk hs
 rcases h.frm with h' | ⟨j, h', hj⟩
 ·rw [← h']; exact hs
 ·rw [h'] at hs
  cases hs
  omega
theorem Gr.trans (h : Gr base e size w v w1 v1 n1 cs1) (k : Gr base e size w1 v1 w2 v2 n2 cs2) : Gr base e size w v w2 v2 n2 cs2 := by
 refine ⟨k.own, h.ext.step k.ext h.sub, ?_⟩
 rcases k.frm with h' | ⟨j, h', hj⟩
 ·rw [h']; exact h.frm
 ·exact .inr ⟨j, h', Nat.le_trans h.ext.size hj⟩
theorem Gr.still (h : Gr base e size w v w1 v1 n1 cs1) (k : Ext (fun _ => False) w1 w2) : Gr base e size w v w2 v1 n1 cs1 :=
 ⟨h.own.ext k (fun _ _ h => h), h.ext.step k (fun _ _ h => h.elim), h.frm⟩
theorem Gr.app {wx : World} (h : Gr base e size w v w1 v1 n1 cs1) (hE : Ext (fun _ => False) w1 wx) (hown : Ow w2 base e size v2 n2 cs2) (hg : wx.grownBy w2 v1.ownBlock) {K : Nat} (hat : v2.ownBlock = v1.ownBlock ∨ v2.ownBlock = some K) (hK : w1.heap.size ≤ K) : Gr base e size w v w2 v2 n2 cs2 := by
 refine h.trans ⟨hown, (hE.mono (S' := fun k => v1.ownBlock = some k) (fun _ _ h => h.elim)).grown hg (fun k h => .inl h), ?_⟩
 rcases hat with h' | h'
 ·exact .inl h'
 ·exact .inr ⟨_, h', hK⟩
theorem Gr.below (h : Gr base e size w v w1 v1 n1 cs1) (hv : ∀ k, v.ownBlock = some k → w.heap.size ≤ k) : Below w.heap.size w w1 :=
 h.ext.below (fun k hk hs => by have := hv k hs; omega)
theorem Gr.ofNil (h : Gr base e size w (.slice none 0 0) w1 v1 n1 cs1) : Below w.heap.size w w1 :=
 h.below (fun k hk => by simp [Value.ownBlock] at hk)
end
/-! ### Texts as lists of bytes -/
def bsOf (l : List UInt8) : ByteArray := ⟨l.toArray⟩
def bl (s : ByteArray) : List UInt8 := s.data.toList
theorem AV (l : List UInt8) : bl (bsOf l) = l := by simp [bl, bsOf]
theorem CG (s : ByteArray) : bsOf (bl s) = s := by simp [bl, bsOf]
theorem AP (s : ByteArray) : (bl s).length = s.size := (Go.Lib.size_eq s).symm
theorem AY (l : List UInt8) : (bsOf l).size = l.length := by rw [← AP, AV]
theorem Aj (s : ByteArray) (a b : Nat) : bl (s.extract a b) = ((bl s).drop a).take (b - a) := by
 unfold bl
 rw [Go.Lib.extract_data]
theorem bl_get (s : ByteArray) (k : Nat) (h : k < s.size) : (bl s)[k]? = some s[k] := by
 unfold bl
 have hk : k < s.data.toList.length := by rw [← Go.Lib.size_eq]; exact h
 rw [List.getElem?_eq_getElem hk]
 rfl
theorem Dv (s : ByteArray) (k : Nat) (h : k < s.size) : (bl s).drop k = s[k] :: (bl s).drop (k + 1) := by
 have hk : k < (bl s).length := by rw [AP]; exact h
 rw [List.drop_eq_getElem_cons hk]
 congr 1
theorem BV (s : ByteArray) : s.toList = bl s := ByteArray.toList_eq s
theorem BX {P : Program} (w : World) (src dst e : TypeId) (hs : P.underlying src = some (.slice e)) (he : P.underlying e = some (.int .u8)) (hd : P.underlying dst = some .string)
 (v : Value) (l : List UInt8) (hv : Sl w v 1 l.length (byV l)) : (convert src dst v).run P w = .ok (.string (bsOf l)) w := run_text w src dst e hs he hd v l hv
section
variable {P : Program} {w : World}
theorem CJ {e e' tx : TypeId} {u : Value} (hk : P.underlying tx = some (.slice e')) (h1 : u.oneCell' = true) : Src P 1 tx (.slice (some ⟨w.heap.size, 0, none⟩) 1 1) 1 [u] (w.alloc (.cells #[u] e)) :=
 Src.ofSlice _ hk _ _ _ _ rfl (by simpa using cell_one_new w u e) (by simpa using h1)
theorem DT {ops : Array Oper} {rest : List Oper} {o : Oper} {a : Act} {Q : Exit → Act → World → Prop} (hgd : o.guard = none) (s x : Operand) (t tx : TypeId)
 (ho : o.op = .call { callee := .builtin .append, args := #[s, x], argTypes := #[t, tx] })
 {e : TypeId} {size bytes : Nat} {z : Value} (T : BN P t e size bytes z) {base : Nat} {w0 wr : World} {v0 v : Value} {n : Nat} {xs : List Value} (HG : Gr base e size w0 v0 wr v n xs) (hv : a.eval s = v)
 (y : Value) (m : Nat) (news : List Value) (hy : a.eval x = y) (hE : Ext (fun _ => False) wr w) (hs : Src P size tx y m news w)
 (N : Nat) (hN : n + m = N) (zs : List Value) (hz : xs ++ news = zs)
 (h63 : N ≤ maxLen) (hbytes : N * bytes ≤ 140737488355328) (hbase : base ≤ w0.heap.size)
 (h : ∀ a' c' w', Gr base e size w0 v0 w' (.slice a' N c') N zs → w.grownBy w' v.ownBlock → wpList P ops Q rest (a.put o.dst (.slice a' N c')) w') : wpList P ops Q (o :: rest) a w :=
 Al w hgd s x t tx ho T base v n xs hv (HG.own.ext hE (fun _ _ h => h)) y m news hy hs N hN zs hz h63 hbytes (Nat.le_trans hbase (Nat.le_trans HG.ext.size hE.size)) fun a' c' w' h2 h3 h4 => h a' c' w' (HG.app hE h2 h3 h4 hE.size) h3
end
open Go Go.RowKit
section
variable {P : Program} {l n : Nat} {ops : Array Oper} {Q : Exit → Act → World → Prop}
def Du (o : Oper) : Bool := match o.op with
 | .defer _ => false
 | _ => true
theorem IM {o : Oper} (h : Du o = true) (c : Go.Call) : o.op ≠ .defer c := by
 intro e
 rw [Du, e] at h
 cases h
theorem QZ {o : Oper} {a : Act} {w : World} {K : Act → World → Prop} (hd : Du o = true) (h : o.wp P a w K Q) : o.wpIn (Fence.wide.inRound l) n P a w K Q := by
 refine ⟨fun _ _ => trivial, ?_⟩
 have hs : o.semAt (Fence.wide.inRound l).round a.eval = execOp a.eval o := Oper.semAt_some l a.eval o (IM hd)
 rw [hs]
 unfold Oper.wp at h
 generalize (execOp a.eval o).run P w = r at h ⊢
 cases r with
 | ok nx w' =>
   cases nx with
   | value v => exact h
   | skip => exact h
   | defer d => exact h
   | enter f args => exact ⟨fun hx => by simp [Fence.wide] at hx, CallsIn.inRound l (callsIn_wide.2 h)⟩
   | row r args => exact ⟨fun hx => by simp [Fence.wide] at hx, fun c cs _ => let ⟨v, w2, hr, s⟩ := h c cs; ⟨v, w2, hr, stepsIn_wide.2 s⟩⟩
   | round a b c d e => exact h.elim
   | _ => exact h.elim
 | halt x w' =>
   cases x with
   | panic v => exact h
   | _ => exact h.elim
theorem Og {i : Nat} {a : Act} {w : World} {K : Act → World → Prop} (hd : ops.all Du = true) (hQ : ¬ LetsOut Q) (h : wpOp P ops Q i K a w) : wpOpIn (Fence.wide.inRound l) n P ops Q i K a w := by
 unfold wpOp at h
 unfold wpOpIn
 cases ho : ops[i]? with
 | none => rw [ho] at h; exact h
 | some o =>
   rw [ho] at h
   simp only at h ⊢
   have hdo : Du o = true := by
    obtain ⟨hi, he⟩ := Array.getElem?_eq_some_iff.1 ho
    rw [← he]
    exact (Array.all_eq_true.1 hd) i hi
   split at h
   ·rename_i hw
    rw [if_pos hw]
    rcases h with h | ⟨_, h⟩
    ·exact QZ hdo h
    ·exact absurd h hQ
   ·rename_i hw
    rw [if_neg hw]
    exact ⟨fun _ _ => trivial, h⟩
theorem Em {md : Region.Mode} (hd : ops.all Du = true) (hQ : ¬ LetsOut Q) : ∀ (fuel : Nat) (listed : Array Bool) (a : Act) (w : World), wpAny P md ops Q fuel listed a w → wpAnyIn (Fence.wide.inRound l) n P md ops Q fuel listed a w
 | 0, _, _, _, h => h
 | fuel + 1, _, _, _, h => ⟨h.1, fun i hi => Og hd hQ (wpOp_mono (fun a' w' h' => Em hd hQ fuel _ a' w' h') (h.2 i hi))⟩
theorem Ap {i : Nat} {o : Oper} {a : Act} {w w' : World} {v : Value} {K : Act → World → Prop} (ho : ops[i]? = some o) (hw : Region.wanted o (yielded ops a.tmps) = true) (hr : (execOp a.eval o).run P w = .ok (.value v) w')
 (h : K (a.put o.dst v) w') : wpOp P ops Q i K a w := by
 unfold wpOp
 simp only [ho, hw, if_true, Oper.wp, hr]
 exact .inl h
theorem BR {i : Nat} {o : Oper} {a : Act} {w w' : World} {f : FuncId} {args : Array Value} {K : Act → World → Prop} (ho : ops[i]? = some o) (hw : Region.wanted o (yielded ops a.tmps) = true) (hr : (execOp a.eval o).run P w = .ok (.enter f args) w')
 (h : Calls P f args w' fun e w'' => ∃ v, e = .returned v ∧ K (a.put o.dst v) w'') : wpOp P ops Q i K a w := by
 unfold wpOp
 simp only [ho, hw, if_true, Oper.wp, hr]
 refine .inl (h.mono ?_)
 rintro e w'' ⟨v, rfl, hk⟩
 exact hk
theorem BO {i : Nat} {o : Oper} {a : Act} {w w' : World} {K : Act → World → Prop} (ho : ops[i]? = some o) (hw : Region.wanted o (yielded ops a.tmps) = true) (hr : (execOp a.eval o).run P w = .ok .skip w')
 (h : K (a.put o.dst undef) w') : wpOp P ops Q i K a w := by
 unfold wpOp
 simp only [ho, hw, if_true, Oper.wp, hr]
 exact .inl h
theorem IC {id : Nat} {a : Act} {w : World} (hm : P.follows .mixedOrders = true) (hd : ops.all Du = true) (hQ : ¬ LetsOut Q) (S : World → Prop)
 (h : wpAnyH P .any ops Q S ops.size (Array.replicate ops.size false) a w.drew) : (Code.region id ops true).wpIn (Fence.wide.inRound l) n P Q a w :=
 wpIn_region_any hm (Em hd hQ _ _ _ _ (wpAny_of_held _ _ _ _ h))
end
namespace U32
open Go Go.RowKit
def u (x : UInt32) : Int := x.toNat
theorem u_lt (x : UInt32) : u x < 4294967296 := by have := x.toNat_lt; unfold u; omega
theorem u_ge (x : UInt32) : 0 ≤ u x := by unfold u; omega
abbrev V (x : UInt32) : Value := .int .u32 (u x)
section
variable (t : TypeId) (yk : IntKind) (x y : UInt32)
theorem ai : (u x + u y) % 4294967296 = u (x + y) := by
 unfold u; rw [UInt32.toNat_add]; omega
theorem b_add : binOp .add t (.int .u32 (u x)) (.int .u32 (u y)) = pure (.int .u32 (u (x + y))) := by
 rw [binOp_add]
 show pure (Value.int .u32 (IntKind.u32.wrap (u x + u y))) = _
 rw [IntKind.wrap_u32', ai]
theorem IZ : binOp .xor t (.int .u32 (u x)) (.int .u32 (u y)) = pure (.int .u32 (u (x ^^^ y))) := by
 rw [binOp_xor, intBits_xor]
 congr 2
 show bits .xor .u32 (x.toNat : Int) (y.toNat : Int) = _
 rw [u32_xor_nat _ _ x.toNat_lt y.toNat_lt, ← UInt32.toNat_xor]
 rfl
theorem b_or : binOp .or t (.int .u32 (u x)) (.int .u32 (u y)) = pure (.int .u32 (u (x ||| y))) := by
 rw [binOp_or, intBits_or]
 congr 2
 show bits .or .u32 (x.toNat : Int) (y.toNat : Int) = _
 rw [u32_or_nat _ _ x.toNat_lt y.toNat_lt, ← UInt32.toNat_or]
 rfl
theorem b_and : binOp .and t (.int .u32 (u x)) (.int .u32 (u y)) = pure (.int .u32 (u (x &&& y))) := by
 rw [binOp_and, intBits_and]
 congr 2
 show bits .and .u32 (x.toNat : Int) (y.toNat : Int) = _
 rw [u32_and_nat _ _ x.toNat_lt y.toNat_lt, ← UInt32.toNat_and]
 rfl
theorem G8 (n : Nat) (hn : n < 32) : u x / 2 ^ n = u (x >>> UInt32.ofNat n) := by
 unfold u
 rw [UInt32.toNat_shiftRight, UInt32.toNat_ofNat', Nat.shiftRight_eq_div_pow, Nat.mod_eq_of_lt (a := n) (b := 2 ^ 32) (by omega), Nat.mod_eq_of_lt (a := n) (b := 32) hn]
 push_cast
 rfl
theorem shl_nat (n : Nat) (hn : n < 32) : (u x * 2 ^ n) % 4294967296 = u (x <<< UInt32.ofNat n) := by
 unfold u
 rw [UInt32.toNat_shiftLeft, UInt32.toNat_ofNat', Nat.shiftLeft_eq, Nat.mod_eq_of_lt (a := n) (b := 2 ^ 32) (by omega), Nat.mod_eq_of_lt (a := n) (b := 32) hn]
 rw [Int.natCast_emod, Int.natCast_mul, Int.natCast_pow]
 rfl
theorem WM (n : Nat) (hn : n < 32) : binOp .shr t (.int .u32 (u x)) (.int yk n) = pure (.int .u32 (u (x >>> UInt32.ofNat n))) := by
 rw [binOp_shr, shift_shr _ _ _ _ (by omega) (by simp [IntKind.bits]; omega), Int.toNat_natCast, G8 x n hn]
theorem Ff : Op.unary .xor (.int .u32 (u x)) = pure (.int .u32 (u (~~~x))) := by
 have h := IZ 0 0xFFFFFFFF x
 have e : u 0xFFFFFFFF = 4294967295 := by decide
 rw [e, binOp_xor] at h
 have : Op.unary .xor (.int .u32 (u x)) = Op.intBits .xor .u32 4294967295 (u x) := rfl
 rw [this, h]
 congr 3
theorem b_shr3 : binOp .shr t (.int .u32 (u x)) (.int yk 3) = pure (.int .u32 (u (x >>> 3))) := WM t yk x 3 (by omega)
theorem b_shr10 : binOp .shr t (.int .u32 (u x)) (.int yk 10) = pure (.int .u32 (u (x >>> 10))) := WM t yk x 10 (by omega)
end
end U32
namespace Steps
open Go Go.RowKit
theorem AB {w w' : World} {p : Addr} {v : Value} (hb : Below w.heap.size w w') (h : w.cell? p = some v) : w'.cell? p = some v := (hb.cell (World.block_lt_of_cell? w _ h)).trans h
theorem AR {w : World} {g : Nat} {old cs : Array Value} {t : TypeId} {fr : Nat × Nat} (h : w.heap[g]? = some (.cells old t fr)) : (w.setRow g cs).heap[g]? = some (.cells cs t fr) := setRow_heap w g old cs t fr h
theorem CO {w : World} {g k : Nat} (cs : Array Value) (h : k ≠ g) : (w.setRow g cs).heap[k]? = w.heap[k]? := setRow_other w g k cs h
theorem AQ {B : Nat} {w0 w : World} {g : Nat} (h : Below B w0 w) (hg : B ≤ g) (cs : Array Value) : Below B w0 (w.setRow g cs) :=
 h.trans ⟨rfl, rfl, rfl, by simp [World.setRow], fun k hk => setRow_other w g k cs (by omega)⟩
theorem AC {P : Program} {ops : Array Oper} {rest : List Oper} {o : Oper} {a : Act} {w : World} {Q : Exit → Act → World → Prop} (hgd : o.guard = none) (ty : TypeId) (x y : Operand) (ho : o.op = .store ty x y)
 (g : Nat) (cells : Array Value) (hx : a.eval x = .pointer (some ⟨g, 0, none⟩)) (hy : a.eval y = .agg cells)
 (t : TypeId) (old : Array Value) (hg : w.heap[g]? = some (.cells old t (0, 0))) (hi : (P.info? ty).map (·.size) = some cells.size)
 (hold : old.size = cells.size) (h1 : cells.all (·.oneCell') = true)
 (h : ∀ w', Hid (w' = w.setRow g cells) → wpList P ops Q rest (a.put o.dst undef) w') : wpList P ops Q (o :: rest) a w :=
 wpList_store_row hgd ty x y ho g cells hx hy t old hg hi hold h1 (h _ (lh rfl))
end Steps
namespace Uniform
open Go Go.RowKit
section
variable {P : Program} {ops : Array Oper} {S : World → Prop} {md : Region.Mode} {Q : Exit → Act → World → Prop}
def UStep (P : Program) (S : World → Prop) (o : Oper) (v : Value) (a : Act) (w : World) : Prop :=
 match (execOp a.eval o).run P w with
 | .ok (.value u) w' => u = v ∧ S w'
 | .ok .skip w' => undef = v ∧ S w'
 | .ok (.enter f args) w' => Calls P f args w' fun e w'' => e = .returned v ∧ S w''
 | _ => False
theorem UStep.value {o : Oper} {v : Value} {a : Act} {w w' : World} (h : (execOp a.eval o).run P w = .ok (.value v) w') (hS : S w') : UStep P S o v a w := by
 unfold UStep
 rw [h]
 exact ⟨rfl, hS⟩
theorem UStep.skip {o : Oper} {a : Act} {w w' : World} (h : (execOp a.eval o).run P w = .ok .skip w') (hS : S w') : UStep P S o undef a w := by
 unfold UStep
 rw [h]
 exact ⟨rfl, hS⟩
theorem UStep.call {o : Oper} {v : Value} {a : Act} {w w' : World} {f : FuncId} {args : Array Value} (h : (execOp a.eval o).run P w = .ok (.enter f args) w') (hc : Calls P f args w' fun e w'' => e = .returned v ∧ S w'') : UStep P S o v a w := by
 unfold UStep
 rw [h]
 exact hc
def SY (P : Program) (ops : Array Oper) (S : World → Prop) (o : Oper) (v : Value) (a : Act) : Prop :=
 (Region.wanted o (yielded ops a.tmps) = true ∧ ∀ w, S w → UStep P S o v a w) ∨
 (Region.wanted o (yielded ops a.tmps) = false ∧ v = undef)
theorem SY.of_same {o : Oper} {v : Value} {a a' : Act} (hy : SY P ops S o v a) (he : execOp a'.eval o = execOp a.eval o)
 (hw : Region.wanted o (yielded ops a'.tmps) = Region.wanted o (yielded ops a.tmps)) : SY P ops S o v a' := by
 unfold SY UStep at *
 rw [he, hw]
 exact hy
theorem SY.wpOp {i : Nat} {o : Oper} {v : Value} {a : Act} (hi : ops[i]? = some o) (hy : SY P ops S o v a)
 {K : Act → World → Prop} {w : World} (hS : S w) (h : ∀ w', S w' → K (a.put o.dst v) w') : wpOp P ops Q i K a w := by
 unfold Go.wpOp
 simp only [hi]
 rcases hy with ⟨hw, hv⟩ | ⟨hw, rfl⟩
 ·simp only [hw, if_true]
  refine .inl ?_
  have := hv w hS
  unfold UStep at this
  unfold Oper.wp
  generalize (execOp a.eval o).run P w = r at this ⊢
  cases r with
  | ok n w' =>
    cases n with
    | value u =>
      obtain ⟨rfl, h'⟩ := this
      exact h w' h'
    | skip =>
      obtain ⟨rfl, h'⟩ := this
      exact h w' h'
    | enter f args =>
      refine Calls.mono this fun e w'' he => ?_
      obtain ⟨rfl, h'⟩ := he
      exact h w'' h'
    | _ => exact this.elim
  | halt x w' => exact this.elim
 ·simp only [hw, Bool.false_eq_true, if_false]
  exact h w hS
def ND (P : Program) (md : Region.Mode) (ops : Array Oper) (Q : Exit → Act → World → Prop) (S : World → Prop) : Nat → Array Bool → Act → Prop
 | 0, listed, a => Region.ready md ops listed = [] ∧ ∀ w, S w → Q .normal a w
 | fuel + 1, listed, a =>
   (Region.ready md ops listed = [] → ∀ w, S w → Q .normal a w) ∧
   ∀ i ∈ Region.ready md ops listed, ∃ oi v, ops[i]? = some oi ∧ SY P ops S oi v a ∧ ND P md ops Q S fuel (listed.setIfInBounds i true) (a.put oi.dst v)
theorem Gw : ∀ (fuel : Nat) (listed : Array Bool) (a : Act), ND P md ops Q S fuel listed a → ∀ w, S w → wpAny P md ops Q fuel listed a w
 | 0, _, _, h, w, hS => ⟨h.1, h.2 w hS⟩
 | fuel + 1, _, _, h, w, hS => ⟨fun hr => h.1 hr w hS, fun i hi => by
   obtain ⟨oi, v, ho, hu, h'⟩ := h.2 i hi
   exact hu.wpOp ho hS fun w' hS' => Gw fuel _ _ h' w' hS'⟩
theorem Oh {i : Nat} {oi : Oper} {v : Value} (hi : ops[i]? = some oi) (hsel : ∀ (j : Nat) (o : Oper) cs b, ops[j]? = some o → o.op ≠ .select cs b) :
 ∀ (fuel : Nat) (listed : Array Bool) (a : Act),
   (∀ j oj, ops[j]? = some oj → j ≠ i → listed.getD j true = false → (∀ e ∈ oj.after, Region.binds md e = true → e.on ≠ i) → oi.apart ops oj = true) →
   i ∈ Region.ready md ops listed → SY P ops S oi v a →
   ND P md ops Q S fuel (listed.setIfInBounds i true) (a.put oi.dst v) → ND P md ops Q S (fuel + 1) listed a := by
 intro fuel
 induction fuel with
 | zero =>
   intro listed a _ hr hy H
   refine ⟨fun h => (by rw [h] at hr; cases hr), fun j hj => ?_⟩
   by_cases hji : j = i
   ·subst hji; exact ⟨oi, v, hi, hy, H⟩
   ·have := ready_mono hj hji
    rw [H.1] at this
    cases this
 | succ fuel ih =>
   intro listed a hfree hr hy H
   refine ⟨fun h => (by rw [h] at hr; cases hr), fun j hj => ?_⟩
   by_cases hji : j = i
   ·subst hji; exact ⟨oi, v, hi, hy, H⟩
   ·obtain ⟨oj', vj, aS, huj, h1⟩ := H.2 j (ready_mono hj hji)
    obtain ⟨hjun, oj, hoj, hall⟩ := mem_ready.1 hj
    obtain rfl : oj = oj' := Option.some.inj (hoj.symm.trans aS)
    have hnot : ∀ e ∈ oj.after, Region.binds md e = true → e.on ≠ i := fun e he hb heq => by
        have h1 := hall e he hb
        have h0 := (mem_ready.1 hr).1
        rw [heq] at h1
        rcases Nat.lt_or_ge i listed.size with h' | h'
        ·simp [h'] at h0 h1; rw [h0] at h1; cases h1
        ·simp [Array.getElem?_eq_none h'] at h1
    have hap := hfree j oj hoj hji hjun hnot
    obtain ⟨a1, a2, a3⟩ := Oper.apart_spec hap
    have hsi := fun cs b => hsel i oi cs b hi
    have hsj := fun cs b => hsel j oj cs b hoj
    have aR : SY P ops S oj vj a := huj.of_same (execOp_put oj hsj a oi.dst v a1).symm (wanted_put oj a oi.dst v a1).symm
    have hui' : SY P ops S oi v (a.put oj.dst vj) := hy.of_same (execOp_put oi hsi a oj.dst vj a3) (wanted_put oi a oj.dst vj a3)
    have hfree' : ∀ k ok, ops[k]? = some ok → k ≠ i → (listed.setIfInBounds j true).getD k true = false →
     (∀ e ∈ ok.after, Region.binds md e = true → e.on ≠ i) → oi.apart ops ok = true := fun k ok hk hki hun hno => by
        refine hfree k ok hk hki ?_ hno
        by_cases hjk : j = k
        ·subst hjk; exact hjun
        ·rw [getD_set_ne true hjk] at hun; exact hun
    refine ⟨oj, vj, hoj, aR, ih (listed.setIfInBounds j true) _ hfree' (ready_mono hr (Ne.symm hji)) hui' ?_⟩
    rw [Array.setIfInBounds_comm _ _ hji, ← Act.put_comm a v vj a2]
    exact h1
def PY (md : Region.Mode) (ops : Array Oper) : Array Bool → List Nat → Bool
 | listed, [] => (Region.ready md ops listed).isEmpty
 | listed, i :: is => (ops[i]?).isSome && Region.free md ops listed i && (Region.ready md ops listed).contains i && PY md ops (listed.setIfInBounds i true) is
def Ua (P : Program) (ops : Array Oper) (S : World → Prop) (Q : Exit → Act → World → Prop) : List Nat → Act → Prop
 | [], a => ∀ w, S w → Q .normal a w
 | i :: is, a => ∃ oi v, ops[i]? = some oi ∧ SY P ops S oi v a ∧ Ua P ops S Q is (a.put oi.dst v)
theorem PH {listed : Array Bool} {a : Act} (hr : Region.ready md ops listed = []) (h : ∀ w, S w → Q .normal a w) : ∀ fuel, ND P md ops Q S fuel listed a
 | 0 => ⟨hr, h⟩
 | _ + 1 => ⟨fun _ => h, by rw [hr]; simp⟩
theorem Gx (hs : Region.noSelect ops = true) : ∀ (is : List Nat) (fuel : Nat) (listed : Array Bool) (a : Act), PY md ops listed is = true → is.length ≤ fuel → Ua P ops S Q is a → ND P md ops Q S fuel listed a
 | [], fuel, listed, a, hp, _, h => PH (by simpa [PY] using hp) h fuel
 | i :: is, 0, listed, a, _, hl, _ => by simp at hl
 | i :: is, fuel + 1, listed, a, hp, hl, h => by
   simp only [PY, Bool.and_eq_true] at hp
   obtain ⟨⟨⟨_, hf⟩, hr⟩, hp'⟩ := hp
   obtain ⟨oi, v, hi, hu, h'⟩ := h
   exact Oh hi (Region.noSelect_spec hs) fuel listed a (Region.free_spec hi hf) (by simpa using hr) hu (Gx hs is fuel _ _ hp' (by simpa using hl) h')
theorem A9 {id : Nat} {a : Act} {w : World} (S : World → Prop) (is : List Nat) (hm : P.follows .mixedOrders = true)
 (hp : (Region.noSelect ops && (PY .any ops (Array.replicate ops.size false) is && decide (is.length ≤ ops.size))) = true) (hS : S w.drew) (h : Ua P ops S Q is a) : (Code.region id ops true).wp P Q a w := by
 simp only [Bool.and_eq_true, decide_eq_true_eq] at hp
 exact wp_region_any hm (Gw _ _ _ (Gx hp.1 is _ _ _ hp.2.1 hp.2.2 h) _ hS)
end
theorem uV {P : Program} {ops : Array Oper} {Q : Exit → Act → World → Prop} {md : Region.Mode} {S : World → Prop} {fuel i : Nat} {listed : Array Bool} {a : Act} {oi : Oper} (v : Value) (h1 : ∀ w, S w → (execOp a.eval oi).run P w = .ok (.value v) w)
 (h2 : ND P md ops Q S fuel (listed.setIfInBounds i true) (a.put oi.dst v)) (hi : ops[i]? = some oi := by rfl) (hw : Region.wanted oi (yielded ops a.tmps) = true := by rfl) : ∃ oi v, ops[i]? = some oi ∧ SY P ops S oi v a ∧ ND P md ops Q S fuel (listed.setIfInBounds i true) (a.put oi.dst v) :=
 ⟨oi, v, hi, .inl ⟨hw, fun w hS => UStep.value (h1 w hS) hS⟩, h2⟩
end Uniform
end Go.Proofs.YtceiajepcokacaaGreatDoor
