/-
  WHAT IS PROVED: small laws over whatever program: append onto a slice that is owned, of whatever source; slices that are only read; which blocks a call may have turned. No condition beside those that each law names.
-/
import Derived.WalkKit
import Derived.ProofKit
import Derived.Below
import Derived.Deep.AppendSrc
import Derived.Maps.AppendAt
import Derived.Deep.AppendLies
import Derived.Deep.RegionHeld3
import Derived.Lib.Hide
import Derived.Lib.Strings
import Derived.Deep.Quiet
import Derived.Deep.QuietTactic
import Derived.BigQuiet
import Derived.OwnWalk
import Derived.Deep.DeepMust
import Derived.Outline
namespace Go.Proofs.Ytadnldnmefhlcaa
open Go Go.RowKit

/-- A slice type, its element's type, cells, bytes and zero. -/
structure SliceTy (P : Program) (t e : TypeId) (size bytes : Nat) (z : Value) : Prop where
  ht : P.underlying t = some (.slice e)
  ex : ∃ i, P.info? e = some i ∧ i.zero = some z ∧ i.size = size ∧ i.bytes = bytes
  hzs : z.cells.size = size
  hsz : 0 < size

theorem SliceTy.mk' {P : Program} {t e : TypeId} {size bytes : Nat} {z : Value} (ht : P.underlying t = some (.slice e))
    (hi : (P.info? e).map (fun i => (i.zero, i.size, i.bytes)) = some (some z, size, bytes)) (hzs : z.cells.size = size) (hsz : 0 < size) : SliceTy P t e size bytes z := by
  refine ⟨ht, ?_, hzs, hsz⟩
  cases h : P.info? e with
  | none => rw [h] at hi; cases hi
  | some i =>
    rw [h] at hi
    simp only [Option.map_some, Option.some.injEq, Prod.mk.injEq] at hi
    exact ⟨i, rfl, hi.1, hi.2.1, hi.2.2⟩

section
variable {P : Program} (w : World)

theorem ownsRow_slice {w : World} {base : Nat} {e : TypeId} {size : Nat} {v : Value} {n : Nat} {xs : List Value} (h : w.ownsRow base e size v n xs) : ∃ a c, v = .slice a n c ∧ n ≤ c ∧ c ≤ maxLen := by
  rcases h.2 with ⟨rfl, rfl⟩ | ⟨g, cap, cur, rfl, hb, hg, hn, hm, _⟩
  · exact ⟨none, 0, rfl, Nat.le_refl _, Nat.zero_le _⟩
  · exact ⟨_, cap, rfl, hn, hm⟩

theorem run_app (ty tx : TypeId) {t e : TypeId} {size bytes : Nat} {z : Value} (T : SliceTy P t e size bytes z) (base : Nat)
    (v : Value) (n : Nat) (xs : List Value) (hown : w.ownsRow base e size v n xs)
    (x : Value) (m : Nat) (news : List Value) (hs : Src P size tx x m news w)
    (h63 : n + m ≤ maxLen) (hbytes : (n + m) * bytes ≤ 140737488355328) (hbase : base ≤ w.heap.size) :
    ∃ v' w', (Builtin.append_ #[t, tx] ty #[v, x]).run P w = .ok v' w' ∧ w'.ownsRow base e size v' (n + m) (xs ++ news) ∧ w.grownBy w' v.ownBlock ∧
      (v'.ownBlock = v.ownBlock ∨ v'.ownBlock = some w.heap.size) := by
  obtain ⟨ht, ⟨i, hi, hz, hsize, hby⟩, hzs, hsz⟩ := T
  subst hsize
  subst hby
  have hsmall : n + m ≤ 9223372036854775807 := by simp only [maxLen] at h63; omega
  have hl := hs.newsLen
  have hlen : (xs ++ news).length = (n + m) * i.size := by rw [List.length_append, hown.1, hl, Nat.add_mul]
  have grown : ∀ (old : Nat), old < n + m → ∀ (row : Option Nat),
      (w.drew.alloc (.cells ((xs ++ news).toArray ++ Builtin.zeroCells z.cells (grownCap w (n + m) old e - (n + m))) e)).ownsRow base e i.size
        (.slice (some ⟨w.heap.size, 0, none⟩) (n + m) (grownCap w (n + m) old e)) (n + m) (xs ++ news) ∧
      w.grownBy (w.drew.alloc (.cells ((xs ++ news).toArray ++ Builtin.zeroCells z.cells (grownCap w (n + m) old e - (n + m))) e)) row := by
    intro old ho row
    have hge := grownCap_ge w (n + m) old e
    have hcm : grownCap w (n + m) old e ≤ maxLen := grownCap_le_maxLen w (n + m) old e h63
    refine ⟨⟨hlen, .inr ⟨w.heap.size, _, _, rfl, hbase, heap_alloc_new w.drew _, hge, hcm, ?_, ?_⟩⟩, ⟨rfl, rfl, rfl, by simp, fun k hk _ => Below.heap_alloc w.drew _ k hk⟩⟩
    · rw [Array.size_append, List.size_toArray, hlen, size_zeroCells, hzs, ← Nat.add_mul]
      congr 1
      omega
    · rw [Array.toList_append, ← hlen]
      exact List.take_left
  rcases hown.2 with ⟨rfl, rfl⟩ | ⟨g, cap, cur, rfl, hbg, hg, hnc, hcm, hcs, htake⟩
  · have hx : xs = [] := List.eq_nil_of_length_eq_zero (by simpa using hown.1)
    subst hx
    by_cases hm : m = 0
    · subst hm
      have hn : news = [] := List.eq_nil_of_length_eq_zero (by simpa using hl)
      subst hn
      refine ⟨.slice none 0 0, w, ?_, World.ownsRow_nil w base e i.size, ⟨rfl, rfl, rfl, Nat.le_refl _, fun _ _ _ => rfl⟩, Or.inl rfl⟩
      rcases hs.kind with ⟨e', hk⟩ | hk <;>
        simp [Builtin.append_, run_underlying ht, run_underlying hk, sizeOf, typeInfo, hi, hs.len, hs.cells]
    · have hr := run_append_grow_src (P := P) w t tx ty e i z ht hi hz none 0 0 [] (run_firstCells_none w.drew i.size 0 0 0) x m news hs (by omega) (by omega) (growslice_fits (by omega) (by simpa using hbytes))
      have hgr := grown 0 (by omega) (Value.ownBlock (.slice none 0 0))
      exact ⟨_, _, hr, hgr.1, hgr.2, Or.inr rfl⟩
  · by_cases hroom : n + m ≤ cap
    · have hfit : n * i.size + news.length ≤ cur.size := by rw [hl, hcs, ← Nat.add_mul]; exact Nat.mul_le_mul_right _ hroom
      have hst := run_storeCells_at P g (n * i.size) e news 0 cur w hg (by simpa using hfit) hs.one
      simp only [Nat.add_zero] at hst
      refine ⟨.slice (some ⟨g, 0, none⟩) (n + m) cap, w.setRow g (cur.toList.take (n * i.size) ++ news ++ cur.toList.drop (n * i.size + news.length)).toArray, ?_, ⟨hlen, .inr ⟨g, cap, _, rfl, hbg, setRow_heap w g cur _ e _ hg, hroom, hcm, ?_, ?_⟩⟩, ⟨rfl, rfl, rfl, by simp, fun k _ hk => setRow_other w g k _ (fun e => hk (by simp [Value.ownBlock, e]))⟩, Or.inl rfl⟩
      · rcases hs.kind with ⟨e', hk⟩ | hk <;> simp [Builtin.append_, run_underlying ht, run_underlying hk, sizeOf, typeInfo, hi, hs.len, hroom, hs.cells, Addr.add_lit, hst]
      · simp only [List.size_toArray, List.length_append, List.length_take, List.length_drop, Array.length_toList]
        omega
      · rw [htake, ← hlen]
        exact List.take_left
    · have holds : ∀ j u, xs[j]? = some u → w.cell? ((⟨g, 0, none⟩ : Addr).add j) = some u := hown.cells (g := g) rfl
      have hr := run_append_grow_src (P := P) w t tx ty e i z ht hi hz (some ⟨g, 0, none⟩) n cap xs
        (run_firstCells_some w.drew i.size n ⟨g, 0, none⟩ n cap xs hown.1 (by simpa using holds)) x m news hs (by omega) (by omega) (growslice_fits (by omega) hbytes)
      have hgr := grown cap (by omega) (Value.ownBlock (.slice (some ⟨g, 0, none⟩) n cap))
      exact ⟨_, _, hr, hgr.1, hgr.2, Or.inr rfl⟩

theorem wp_app {o : Oper} {a : Act} {K : Act → World → Prop} {Q : Exit → Act → World → Prop} (s x : Operand) (t tx : TypeId)
    (ho : o.op = .call { callee := .builtin .append, args := #[s, x], argTypes := #[t, tx] })
    {e : TypeId} {size bytes : Nat} {z : Value} (T : SliceTy P t e size bytes z) (base : Nat)
    (v : Value) (n : Nat) (xs : List Value) (hv : a.eval s = v) (hown : w.ownsRow base e size v n xs)
    (y : Value) (m : Nat) (news : List Value) (hy : a.eval x = y) (hs : Src P size tx y m news w)
    (N : Nat) (hN : n + m = N) (zs : List Value) (hz : xs ++ news = zs)
    (h63 : N ≤ maxLen) (hbytes : N * bytes ≤ 140737488355328) (hbase : base ≤ w.heap.size)
    (h : ∀ a' c' w', w'.ownsRow base e size (.slice a' N c') N zs → w.grownBy w' v.ownBlock → ((Value.slice a' N c').ownBlock = v.ownBlock ∨ (Value.slice a' N c').ownBlock = some w.heap.size) → K (a.put o.dst (.slice a' N c')) w') : o.wp P a w K Q := by
  subst hN
  subst hz
  obtain ⟨v', w', hr, h2, h3, h4⟩ := run_app (P := P) w o.type tx T base v n xs hown y m news hs h63 hbytes hbase
  unfold Oper.wp execOp
  simp only [ho, resolve, invoke, builtin, Sem.run_bind, Sem.run_pure, Result.andThen_ok, List.map_toArray, List.map_cons, List.map_nil, hv, hy, hr]
  obtain ⟨a', c', rfl, _, _⟩ := ownsRow_slice h2
  exact h a' c' w' h2 h3 h4

theorem wpList_app {ops : Array Oper} {rest : List Oper} {o : Oper} {a : Act} {Q : Exit → Act → World → Prop} (hgd : o.guard = none) (s x : Operand) (t tx : TypeId)
    (ho : o.op = .call { callee := .builtin .append, args := #[s, x], argTypes := #[t, tx] })
    {e : TypeId} {size bytes : Nat} {z : Value} (T : SliceTy P t e size bytes z) (base : Nat)
    (v : Value) (n : Nat) (xs : List Value) (hv : a.eval s = v) (hown : w.ownsRow base e size v n xs)
    (y : Value) (m : Nat) (news : List Value) (hy : a.eval x = y) (hs : Src P size tx y m news w)
    (N : Nat) (hN : n + m = N) (zs : List Value) (hz : xs ++ news = zs)
    (h63 : N ≤ maxLen) (hbytes : N * bytes ≤ 140737488355328) (hbase : base ≤ w.heap.size)
    (h : ∀ a' c' w', w'.ownsRow base e size (.slice a' N c') N zs → w.grownBy w' v.ownBlock → ((Value.slice a' N c').ownBlock = v.ownBlock ∨ (Value.slice a' N c').ownBlock = some w.heap.size) → wpList P ops Q rest (a.put o.dst (.slice a' N c')) w') : wpList P ops Q (o :: rest) a w :=
  wpList_plain hgd fun _ hK => wp_app w s x t tx ho T base v n xs hv hown y m news hy hs N hN zs hz h63 hbytes hbase fun a' c' w' h2 h3 h4 => hK _ _ (h a' c' w' h2 h3 h4)

theorem step_app {ops : Array Oper} {o : Oper} {a : Act} {K : Act → World → Prop} {Q : Exit → Act → World → Prop} {E : Prop} (hgd : o.guard = none) (s x : Operand) (t tx : TypeId)
    (ho : o.op = .call { callee := .builtin .append, args := #[s, x], argTypes := #[t, tx] })
    {e : TypeId} {size bytes : Nat} {z : Value} (T : SliceTy P t e size bytes z) (base : Nat)
    (v : Value) (n : Nat) (xs : List Value) (hv : a.eval s = v) (hown : w.ownsRow base e size v n xs)
    (y : Value) (m : Nat) (news : List Value) (hy : a.eval x = y) (hs : Src P size tx y m news w)
    (N : Nat) (hN : n + m = N) (zs : List Value) (hz : xs ++ news = zs)
    (h63 : N ≤ maxLen) (hbytes : N * bytes ≤ 140737488355328) (hbase : base ≤ w.heap.size)
    (h : ∀ a' c' w', w'.ownsRow base e size (.slice a' N c') N zs → w.grownBy w' v.ownBlock → ((Value.slice a' N c').ownBlock = v.ownBlock ∨ (Value.slice a' N c').ownBlock = some w.heap.size) → K (a.put o.dst (.slice a' N c')) w') :
    if Region.wanted o (yielded ops a.tmps) = true then Oper.wp P o a w K Q else E := by
  have hw : Region.wanted o (yielded ops a.tmps) = true := by simp [Region.wanted, hgd]
  rw [if_pos hw]
  exact wp_app w s x t tx ho T base v n xs hv hown y m news hy hs N hN zs hz h63 hbytes hbase h
end

/-! ### A slice that is only read: its cells, in order -/

/-- 'v' is a slice of n elements of 'size' cells each: nil, or behind an address at which the cells 'cs' lie. -/
def Sl (w : World) (v : Value) (size n : Nat) (cs : List Value) : Prop :=
  cs.length = n * size ∧ ((v = .slice none 0 0 ∧ n = 0) ∨
    ∃ a cap, v = .slice (some a) n cap ∧ n ≤ cap ∧ cap ≤ maxLen ∧ ∀ j u, cs[j]? = some u → w.cell? (a.add j) = some u)

section
variable {w : World} {v : Value} {size n : Nat} {cs : List Value}

theorem Sl.nil (w : World) (size : Nat) : Sl w (.slice none 0 0) size 0 [] := ⟨by simp, .inl ⟨rfl, rfl⟩⟩

theorem Sl.form (h : Sl w v size n cs) : ∃ a cap, v = .slice a n cap ∧ n ≤ cap ∧ cap ≤ maxLen := by
  rcases h.2 with ⟨rfl, rfl⟩ | ⟨a, cap, rfl, h1, h2, _⟩
  · exact ⟨none, 0, rfl, Nat.le_refl _, Nat.zero_le _⟩
  · exact ⟨some a, cap, rfl, h1, h2⟩

theorem Sl.ofOwn {base : Nat} {e : TypeId} (h : w.ownsRow base e size v n cs) : Sl w v size n cs := by
  refine ⟨h.1, ?_⟩
  rcases h.2 with h0 | ⟨g, cap, cur, rfl, hb, hg, hn, hm, hs, ht⟩
  · exact .inl h0
  · exact .inr ⟨_, cap, rfl, hn, hm, h.cells (g := g) rfl⟩

theorem Sl.src {P : Program} {tx e' : TypeId} (h : Sl w v size n cs) (hk : P.underlying tx = some (.slice e')) (h1 : ∀ u ∈ cs, u.oneCell' = true) : Src P size tx v n cs w := by
  rcases h.2 with ⟨rfl, rfl⟩ | ⟨a, cap, rfl, hn, hm, hc⟩
  · have hx : cs = [] := List.eq_nil_of_length_eq_zero (by simpa using h.1)
    subst hx
    exact Src.ofNil w hk 0
  · exact Src.ofSlice w hk a n cap cs h.1 hc h1

theorem addr_add_add (a : Addr) (i j : Nat) : (a.add i).add j = a.add (i + j) := by
  unfold Addr.add
  by_cases hi : i = 0 <;> by_cases hj : j = 0 <;> simp [hi, hj, Nat.add_assoc]

theorem Sl.take {a : Addr} {cap m : Nat} (h : Sl w (.slice (some a) n cap) size n cs) (hm : m ≤ n) : Sl w (.slice (some a) m cap) size m (cs.take (m * size)) := by
  rcases h.2 with ⟨h0, _⟩ | ⟨a', cap', hx, hn, hc, hcell⟩
  · cases h0
  cases hx
  have hle : m * size ≤ n * size := Nat.mul_le_mul_right _ hm
  refine ⟨by rw [List.length_take, h.1]; omega, .inr ⟨a, cap, rfl, by omega, hc, fun j u hu => ?_⟩⟩
  rw [List.getElem?_take] at hu
  split at hu
  · exact hcell j u hu
  · cases hu

/-- 's[k:m]': the address is the old one where nothing is left up to the capacity. -/
theorem Sl.cut {a A : Addr} {cap k m : Nat} (h : Sl w (.slice (some a) n cap) size n cs) (hk : k ≤ m) (hm : m ≤ n) (hA : A = if cap = k then a else a.add (k * size)) : Sl w (.slice (some A) (m - k) (cap - k)) size (m - k) ((cs.take (m * size)).drop (k * size)) := by
  rcases h.2 with ⟨h0, _⟩ | ⟨a', cap', hx, hn, hc, hcell⟩
  · cases h0
  cases hx
  have hle : m * size ≤ n * size := Nat.mul_le_mul_right _ hm
  have hks : k * size ≤ m * size := Nat.mul_le_mul_right _ hk
  refine ⟨by rw [List.length_drop, List.length_take, h.1, Nat.sub_mul]; omega, .inr ⟨A, cap - k, rfl, by omega, by omega, fun j u hu => ?_⟩⟩
  rw [List.getElem?_drop, List.getElem?_take] at hu
  split at hu
  · rename_i hlt
    have hne : ¬ cap = k := by
      intro e
      have : m * size ≤ k * size := Nat.mul_le_mul_right _ (by omega)
      omega
    rw [if_neg hne] at hA
    rw [hA, addr_add_add]
    exact hcell _ u hu
  · cases hu

/-- A slice that has an element lies in a block, behind a plain address. -/
theorem Sl.plain {a : Option Addr} {c : Nat} (h : Sl w (.slice a n c) size n cs) (hn : 0 < cs.length) :
    ∃ b off, a = some ⟨b, off, none⟩ ∧ b < w.heap.size ∧ ∀ j u, cs[j]? = some u → w.cell? ⟨b, off + j, none⟩ = some u := by
  rcases h.2 with ⟨_, h0⟩ | ⟨⟨b, off, spot⟩, c', ha, _, _, hc⟩
  · have := h.1; rw [h0, Nat.zero_mul] at this; omega
  cases ha
  have h0 := hc 0 cs[0] (by simp [hn])
  have hspot : spot = none := by simpa [Addr.add] using World.cell?_spot h0
  subst hspot
  refine ⟨b, off, rfl, World.block_lt_of_cell? w _ (by simpa [Addr.add] using h0), fun j u hu => ?_⟩
  have := hc j u hu
  rwa [Addr.add_mid] at this

/-- A cell of the k-th element of a list of elements of n cells each. -/
theorem flat_get {α : Type} (f : α → List Value) (n : Nat) : ∀ (l : List α) (k j : Nat) (x : α), (∀ y, (f y).length = n) → l[k]? = some x → j < n → (l.flatMap f)[k * n + j]? = (f x)[j]?
  | [], k, j, x, _, h, _ => by simp at h
  | y :: r, 0, j, x, hf, h, hj => by
    simp only [List.getElem?_cons_zero, Option.some.injEq] at h
    subst h
    rw [List.flatMap_cons, Nat.zero_mul, Nat.zero_add, List.getElem?_append_left (by rw [hf]; exact hj)]
  | y :: r, k + 1, j, x, hf, h, hj => by
    rw [List.flatMap_cons, List.getElem?_append_right (by rw [hf, Nat.add_mul]; omega), hf]
    rw [show (k + 1) * n + j - n = k * n + j by rw [Nat.add_mul]; omega]
    exact flat_get f n r k j x hf (by simpa using h) hj

/-- It reads as it did where its block reads as it did. -/
theorem Sl.keep {w' : World} (h : Sl w v size n cs) (hb : ∀ k, v.ownBlock = some k → k < w.heap.size → w'.heap[k]? = w.heap[k]?) : Sl w' v size n cs := by
  refine ⟨h.1, ?_⟩
  rcases h.2 with h0 | ⟨a, cap, rfl, hn, hm, hc⟩
  · exact .inl h0
  · refine .inr ⟨a, cap, rfl, hn, hm, fun j u hu => ?_⟩
    have h1 := hc j u hu
    have hab : (a.add j).block = a.block := by unfold Addr.add; split <;> rfl
    have hlt : a.block < w.heap.size := by have := World.block_lt_of_cell? w _ h1; rwa [hab] at this
    rw [World.cell?_of_block (w := w) (by rw [hab]; exact hb a.block rfl hlt)]
    exact h1

end

/-- Strings as cells. -/
def strV (l : List ByteArray) : List Value := l.map .string
theorem strV_length (l : List ByteArray) : (strV l).length = l.length := by simp [strV]
theorem strV_append (l r : List ByteArray) : strV (l ++ r) = strV l ++ strV r := by simp [strV]
theorem strV_one (l : List ByteArray) : ∀ u ∈ strV l, u.oneCell' = true := by
  intro u hu
  obtain ⟨s, _, rfl⟩ := List.mem_map.1 hu
  rfl

/-! ### What a call may have turned -/

/-- w' is w, but for new blocks, and for the blocks of S. -/
structure Ext (S : Nat → Prop) (w w' : World) : Prop where
  os : w'.os = w.os
  tape : w'.tape = w.tape
  output : w'.output = w.output
  size : w.heap.size ≤ w'.heap.size
  block : ∀ k, k < w.heap.size → ¬ S k → w'.heap[k]? = w.heap[k]?

theorem Ext.refl (S : Nat → Prop) (w : World) : Ext S w w := ⟨rfl, rfl, rfl, Nat.le_refl _, fun _ _ _ => rfl⟩
theorem Ext.trans {S : Nat → Prop} {a b c : World} (h : Ext S a b) (k : Ext S b c) : Ext S a c :=
  ⟨k.os.trans h.os, k.tape.trans h.tape, k.output.trans h.output, Nat.le_trans h.size k.size, fun i hi hs => (k.block i (Nat.lt_of_lt_of_le hi h.size) hs).trans (h.block i hi hs)⟩
theorem Ext.mono {S S' : Nat → Prop} {a b : World} (h : Ext S a b) (hS : ∀ k, k < a.heap.size → S k → S' k) : Ext S' a b :=
  ⟨h.os, h.tape, h.output, h.size, fun k hk hs => h.block k hk fun h' => hs (hS k hk h')⟩
theorem Ext.drew {S : Nat → Prop} {a b : World} (h : Ext S a b) : Ext S a b.drew := ⟨h.os, h.tape, h.output, h.size, h.block⟩
theorem Ext.drewN {S : Nat → Prop} {a b : World} (h : Ext S a b) (n : Nat) : Ext S a (b.drewN n) := ⟨h.os, h.tape, h.output, h.size, h.block⟩
theorem Ext.alloc {S : Nat → Prop} {a b : World} (h : Ext S a b) (o : Obj) : Ext S a (b.alloc o) :=
  h.trans ⟨rfl, rfl, rfl, by simp, fun k hk _ => Below.heap_alloc _ _ _ hk⟩
theorem Ext.setCell {S : Nat → Prop} {a b : World} (h : Ext S a b) {p : Addr} (hp : S p.block ∨ a.heap.size ≤ p.block) (u : Value) : Ext S a (b.setCell p u) :=
  ⟨h.os, h.tape, h.output, by simpa [World.setCell] using h.size, fun k hk hs => (Below.heap_setCell _ _ _ _ (hp.elim (fun hp e => hs (by rw [e]; exact hp)) (fun hp => by omega))).trans (h.block k hk hs)⟩
theorem Ext.set1 (w : World) (b j : Nat) (u : Value) : Ext (fun k => k = b) w (w.setCell ⟨b, j, none⟩ u) :=
  (Ext.refl (fun k => k = b) w).setCell (p := ⟨b, j, none⟩) (.inl rfl) u
theorem Ext.grown {S : Nat → Prop} {a b c : World} {row : Option Nat} (h : Ext S a b) (hg : b.grownBy c row) (hr : ∀ k, row = some k → S k ∨ a.heap.size ≤ k) : Ext S a c :=
  ⟨hg.os.trans h.os, hg.tape.trans h.tape, hg.output.trans h.output, Nat.le_trans h.size hg.size, fun k hk hs => (hg.block k (Nat.lt_of_lt_of_le hk h.size) (fun e => (hr k e.symm).elim hs (fun h' => by omega))).trans (h.block k hk hs)⟩
theorem Ext.below {S : Nat → Prop} {a b : World} (h : Ext S a b) (hS : ∀ k, k < a.heap.size → ¬ S k) : Below a.heap.size a b :=
  ⟨h.os, h.tape, h.output, h.size, fun k hk => h.block k hk (hS k hk)⟩
theorem Ext.below' {B : Nat} {a b : World} (h : Ext (fun k => B ≤ k) a b) (hB : B ≤ a.heap.size) : Below B a b :=
  ⟨h.os, h.tape, h.output, h.size, fun k hk => h.block k (by omega) (by omega)⟩
theorem Ext.of_below {S : Nat → Prop} {a b : World} (h : Below a.heap.size a b) : Ext S a b := ⟨h.os, h.tape, h.output, h.size, fun k hk _ => h.block k hk⟩
theorem Ext.then_below {S : Nat → Prop} {a b c : World} (h : Ext S a b) (k : Below b.heap.size b c) : Ext S a c := h.trans (.of_below k)
theorem Ext.ofB {a b : World} (h : Below a.heap.size a b) : Ext (fun _ => False) a b := .of_below h
theorem Ext.cell {S : Nat → Prop} {a b : World} (h : Ext S a b) {p : Addr} (hlt : p.block < a.heap.size) (hp : ¬ S p.block) : b.cell? p = a.cell? p := World.cell?_of_block (h.block _ hlt hp)
theorem Ext.cellOf {S : Nat → Prop} {a b : World} (h : Ext S a b) {p : Addr} {v : Value} (hc : a.cell? p = some v) (hp : ¬ S p.block) : b.cell? p = some v :=
  (h.cell (World.block_lt_of_cell? a p hc) hp).trans hc
theorem Ext.blockOf {S : Nat → Prop} {a b : World} (h : Ext S a b) {k : Nat} {o : Obj} (hc : a.heap[k]? = some o) (hp : ¬ S k) : b.heap[k]? = some o :=
  (h.block k (Array.getElem?_eq_some_iff.1 hc).1 hp).trans hc

theorem Ext.keeps {w w' : World} {S : Nat → Prop} (h : Ext S w w') : w.heap.size ≤ w'.heap.size ∧ (∀ b j, b < w.heap.size → ¬ S b → w'.cell? ⟨b, j, none⟩ = w.cell? ⟨b, j, none⟩) ∧ (∀ b j, b < w.heap.size → ¬ S b → w'.frozen? ⟨b, j, none⟩ = w.frozen? ⟨b, j, none⟩) :=
  ⟨h.size, fun _ _ hb hr => World.cell?_of_block (h.block _ hb hr), fun _ _ hb hr => World.frozen?_of_block (h.block _ hb hr)⟩
theorem below_keeps {w w' : World} (h : Below w.heap.size w w') : w.heap.size ≤ w'.heap.size ∧ (∀ b j, b < w.heap.size → w'.cell? ⟨b, j, none⟩ = w.cell? ⟨b, j, none⟩) ∧ (∀ b j, b < w.heap.size → w'.frozen? ⟨b, j, none⟩ = w.frozen? ⟨b, j, none⟩) :=
  ⟨h.size, fun _ _ hb => World.cell?_of_block (h.block _ hb), fun _ _ hb => World.frozen?_of_block (h.block _ hb)⟩

/-- A block that is known whole, behind a step that has not turned it. -/
theorem live {S : Nat → Prop} {w w' : World} (hE : Ext S w w') {b : Nat} {cs : Array Value} {t : TypeId} (h : w.heap[b]? = some (.cells cs t (0, 0))) (hS : ¬ S b) :
    w'.heap[b]? = some (.cells cs t (0, 0)) ∧ (∀ j, w'.cell? ⟨b, j, none⟩ = cs[j]?) ∧ (∀ j, w'.frozen? ⟨b, j, none⟩ = false) :=
  have h' := (hE.block b (Array.getElem?_eq_some_iff.1 h).1 hS).trans h
  ⟨h', fun j => cell_of_row w' b j cs t _ h', fun j => by simp [World.frozen?, h']⟩

theorem Sl.ext {S : Nat → Prop} {w w' : World} {v : Value} {size n : Nat} {cs : List Value} (h : Sl w v size n cs) (he : Ext S w w') (hS : ∀ k, v.ownBlock = some k → ¬ S k) : Sl w' v size n cs :=
  h.keep fun k hk hlt => he.block k hlt (hS k hk)
/-- 'Below' of a call, from its start on: a store into a block of its own; a new block; a draw. -/
theorem Bl.set {a w : World} (h : Below a.heap.size a w) {b j : Nat} (hb : a.heap.size ≤ b) (u : Value) : Below a.heap.size a (w.setCell ⟨b, j, none⟩ u) := h.setCell (p := ⟨b, j, none⟩) hb u
theorem Bl.new {a w : World} (h : Below a.heap.size a w) (o : Obj) : Below a.heap.size a (w.alloc o) := h.alloc h.size o
theorem Bl.drew {a w : World} (h : Below a.heap.size a w) : Below a.heap.size a w.drew := h.drew
theorem Bl.drewN {a w : World} (h : Below a.heap.size a w) (n : Nat) : Below a.heap.size a (w.drewN n) := ⟨h.os, h.tape, h.output, h.size, h.block⟩
theorem Bl.call {a w w' : World} (h : Below a.heap.size a w) (k : Below w.heap.size w w') : Below a.heap.size a w' := h.trans (k.mono h.size)
theorem Bl.grown {a w w' : World} {row : Option Nat} (h : Below a.heap.size a w) (hg : w.grownBy w' row) (hr : ∀ k, row = some k → a.heap.size ≤ k) : Below a.heap.size a w' := h.grown hg h.size hr
theorem Bl.ext {S : Nat → Prop} {a w w' : World} (h : Below a.heap.size a w) (k : Ext S w w') (hS : ∀ k, k < a.heap.size → ¬ S k) : Below a.heap.size a w' :=
  ((Ext.of_below (S := S) h).trans k).below hS

theorem Sl.below {w w' : World} {v : Value} {size n : Nat} {cs : List Value} (h : Sl w v size n cs) (he : Below w.heap.size w w') : Sl w' v size n cs :=
  h.keep fun k _ hlt => he.block k hlt
theorem own_ext {S : Nat → Prop} {w w' : World} {base : Nat} {e : TypeId} {v : Value} {size n : Nat} {xs : List Value} (h : w.ownsRow base e size v n xs) (he : Ext S w w') (hS : ∀ k, v.ownBlock = some k → ¬ S k) : w'.ownsRow base e size v n xs := by
  refine ⟨h.1, ?_⟩
  rcases h.2 with h0 | ⟨g, cap, cur, rfl, hb, hg, r⟩
  · exact .inl h0
  · exact .inr ⟨g, cap, cur, rfl, hb, by rw [he.block g (Array.getElem?_eq_some_iff.1 hg).1 (hS g rfl)]; exact hg, r⟩
theorem own_base {w : World} {base base' : Nat} {e : TypeId} {v : Value} {size n : Nat} {xs : List Value} (h : w.ownsRow base e size v n xs) (hb : ∀ k, v.ownBlock = some k → base' ≤ k) : w.ownsRow base' e size v n xs := by
  refine ⟨h.1, ?_⟩
  rcases h.2 with h0 | ⟨g, cap, cur, rfl, _, r⟩
  · exact .inl h0
  · exact .inr ⟨g, cap, cur, rfl, hb g rfl, r⟩



theorem str_eq {s t : ByteArray} (h : s.toList = t.toList) : s = t := by
  rw [ByteArray.toList_eq, ByteArray.toList_eq] at h
  rw [← Go.Lib.mk_data s, ← Go.Lib.mk_data t, h]
theorem str_ne {s t : ByteArray} (h : s ≠ t) : (s.toList == t.toList) = false := by
  rw [beq_eq_false_iff_ne]
  exact fun e => h (str_eq e)

/-! ### Blocks -/
theorem heap_setCell_same {w : World} {b j : Nat} {cs : Array Value} {t : TypeId} {fr : Nat × Nat} (h : w.heap[b]? = some (.cells cs t fr)) (u : Value) :
    (w.setCell ⟨b, j, none⟩ u).heap[b]? = some (.cells (cs.setIfInBounds j u) t fr) := by
  simp only [World.setCell, Array.getElem?_modify, if_true, h]
  rfl
theorem heap_setCell_far {w : World} {b c j : Nat} (u : Value) (h : c ≠ b) : (w.setCell ⟨b, j, none⟩ u).heap[c]? = w.heap[c]? := Below.heap_setCell w ⟨b, j, none⟩ u c h
theorem heap_new (w : World) (o : Obj) : (w.alloc o).heap[w.heap.size]? = some o := by
  show (w.heap.push o)[w.heap.size]? = _
  simp
theorem heap_get (w : World) (o : Obj) (k : Nat) : (w.alloc o).heap[k]? = if k = w.heap.size then some o else w.heap[k]? := by
  show (w.heap.push o)[k]? = _
  rw [Array.getElem?_push]
theorem heap_getN (w : World) (n k : Nat) : (w.drewN n).heap[k]? = w.heap[k]? := rfl
theorem heap_at {w : World} {k : Nat} {x : Obj} (h : w.heap[k]? = some x) (o : Obj) : (w.alloc o).heap[k]? = some x := by
  rw [heap_get, if_neg (by have := (Array.getElem?_eq_some_iff.1 h).1; omega)]; exact h
theorem heap_new' {w : World} {k : Nat} (o : Obj) (h : k = w.heap.size) : (w.alloc o).heap[k]? = some o := by
  rw [heap_get, if_pos h]
theorem heap_gr {w w' : World} {row : Option Nat} (hg : w.grownBy w' row) {k : Nat} {x : Obj} (h : w.heap[k]? = some x) (hne : row ≠ some k) : w'.heap[k]? = some x :=
  (hg.block k (Array.getElem?_eq_some_iff.1 h).1 (Ne.symm hne)).trans h
theorem ownBlock_some (a : Addr) (n c : Nat) : (Value.slice (some a) n c).ownBlock = some a.block := rfl
theorem ownBlock_none (n c : Nat) : (Value.slice none n c).ownBlock = none := rfl
theorem own_new {w : World} {base k n size : Nat} {e : TypeId} {cs : Array Value} (hk : k = w.heap.size) (hb : base ≤ k) (hm : n ≤ maxLen) (hs : cs.size = n * size) :
    (w.alloc (.cells cs e)).ownsRow base e size (.slice (some ⟨k, 0, none⟩) n n) n cs.toList := by
  subst hk
  exact World.ownsRow_lit w cs n hb hm hs
/-- What the walk is told of a block that is known whole. -/
theorem row_facts {w : World} {b : Nat} {cs : Array Value} {t : TypeId} (h : w.heap[b]? = some (.cells cs t (0, 0))) : (∀ j, w.cell? ⟨b, j, none⟩ = cs[j]?) ∧ (∀ j, w.frozen? ⟨b, j, none⟩ = false) :=
  ⟨fun j => cell_of_row w b j cs t _ h, fun j => by simp [World.frozen?, h]⟩
theorem cell_row {w : World} {b j : Nat} {cs : Array Value} {t : TypeId} {fr : Nat × Nat} (h : w.heap[b]? = some (.cells cs t fr)) : w.cell? ⟨b, j, none⟩ = cs[j]? := cell_of_row w b j cs t fr h
theorem frozen_row {w : World} {b j : Nat} {cs : Array Value} {t : TypeId} (h : w.heap[b]? = some (.cells cs t (0, 0))) : w.frozen? ⟨b, j, none⟩ = false := by
  simp [World.frozen?, h]
theorem lt_row {w : World} {b : Nat} {o : Obj} (h : w.heap[b]? = some o) : b < w.heap.size := (Array.getElem?_eq_some_iff.1 h).1

theorem Ext.setMany (b : Nat) : ∀ (vs : List Value) (o : Nat) (w : World), Ext (fun k => k = b) w (w.setCells b o vs)
  | [], _, w => Ext.refl _ w
  | v :: r, o, w => by
    rw [World.setCells]
    exact (Ext.set1 w b o v).trans (Ext.setMany b r (o + 1) _)

theorem heap_setCells_same {b : Nat} {t : TypeId} {fr : Nat × Nat} : ∀ (vs : List Value) (o : Nat) (w : World) (cs : Array Value), w.heap[b]? = some (.cells cs t fr) →
    ∃ cs' : Array Value, (w.setCells b o vs).heap[b]? = some (.cells cs' t fr) ∧ cs'.size = cs.size ∧ (∀ j, j < o → cs'[j]? = cs[j]?) ∧ (o + vs.length ≤ cs.size → ∀ j, j < vs.length → cs'[o + j]? = vs[j]?) ∧ (∀ j, o + vs.length ≤ j → cs'[j]? = cs[j]?)
  | [], o, w, cs, h => ⟨cs, h, rfl, fun _ _ => rfl, fun _ j hj => by simp at hj, fun _ _ => rfl⟩
  | v :: r, o, w, cs, h => by
    obtain ⟨cs', h1, h2, h3, h4, h5⟩ := heap_setCells_same r (o + 1) (w.setCell ⟨b, o, none⟩ v) (cs.setIfInBounds o v) (heap_setCell_same h v)
    refine ⟨cs', by rw [World.setCells]; exact h1, by simpa using h2, fun j hj => ?_, fun hle j hj => ?_, fun j hj => ?_⟩
    · rw [h3 j (by omega), Array.getElem?_setIfInBounds_ne (by omega)]
    · match j, hj with
      | 0, _ =>
        rw [h3 (o + 0) (by omega)]
        simp only [List.length_cons] at hle
        simp [show o < cs.size by omega]
      | j + 1, hj =>
        have := h4 (by simp only [List.length_cons] at hle; simp; omega) j (by simpa using hj)
        rw [show o + (j + 1) = o + 1 + j by omega]
        simpa using this
    · simp only [List.length_cons] at hj
      rw [h5 j (by omega), Array.getElem?_setIfInBounds_ne (by omega)]

/-- A row that is owned, and whose first cells are written anew. -/
theorem own_setCells {w : World} {base g cap size n m : Nat} {e : TypeId} {xs vs : List Value} (h : w.ownsRow base e size (.slice (some ⟨g, 0, none⟩) n cap) n xs) (hv : vs.length = n * size) (hm : m ≤ n) :
    (w.setCells g 0 vs).ownsRow base e size (.slice (some ⟨g, 0, none⟩) m cap) m (vs.take (m * size)) := by
  rcases h.2 with ⟨hx, _⟩ | ⟨g', cap', cur, hx, hb, hg, hn, hc, hs, ht⟩
  · cases hx
  cases hx
  obtain ⟨cs', h1, h2, _, h4, _⟩ := heap_setCells_same vs 0 w cur hg
  have hle : m * size ≤ n * size := Nat.mul_le_mul_right _ hm
  have hle2 : n * size ≤ cap * size := Nat.mul_le_mul_right _ hn
  refine ⟨by rw [List.length_take]; omega, .inr ⟨g, cap, cs', rfl, hb, h1, by omega, hc, by omega, ?_⟩⟩
  apply List.ext_getElem?
  intro j
  rw [List.getElem?_take, List.getElem?_take]
  by_cases hj : j < m * size
  · rw [if_pos hj, if_pos hj]
    have := h4 (by omega) j (by omega)
    simpa using this
  · rw [if_neg hj, if_neg hj]

end Go.Proofs.Ytadnldnmefhlcaa
