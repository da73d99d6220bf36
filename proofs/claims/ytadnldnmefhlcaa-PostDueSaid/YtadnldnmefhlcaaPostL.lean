/-
  WHAT IS PROVED: the iterator of the letters yields a pointer to each letter, in order, and puts back what the round has left there. Condition: what each theorem names.
-/
import Derived.Test.YtadnldnmefhlcaaPostI
import Derived.Test.YtadnldnmefhlcaaPostN
import Derived.LoopIn
namespace Go.Proofs.Ytadnldnmefhlcaa.PostL
open Go Go.RowKit Go.Conc Go.Proofs.Ytadnldnmefhlcaa Go.Proofs.Ytadnldnmefhlcaa.PostA Go.Proofs.Ytadnldnmefhlcaa.PostT Go.Proofs.Ytadnldnmefhlcaa.PostF Go.Proofs.Ytadnldnmefhlcaa.PostI Go.Proofs.Ytadnldnmefhlcaa.SeqP
set_option linter.unusedVariables false
set_option linter.unusedSimpArgs false
attribute [local go_sem] Oper.semAt_some

set_option maxRecDepth 100000 in
set_option maxHeartbeats 2000000 in
theorem yield1_in (d l : Nat) (hd : 1 ≤ d) (W : World) (B Bo By : Nat) (ho : W.heap[Bo]? = some (.cells #[.bool true] 4 (0, 0))) (hy : W.heap[By]? = some (.cells #[.func (.yield l) #[] #[]] 72 (0, 0))) (Q : World → Prop)
    (hQ : ∀ W', Q W' → W'.heap[Bo]? = some (.cells #[.bool true] 4 (0, 0)))
    (hY : YieldAt Fence.wide (d - 1) Try.prog l #[.pointer (some ⟨B, 0, none⟩)] W fun e W' => e = .returned (.bool true) ∧ Q W') :
    CallsIn Fence.wide d Try.prog 27 #[.pointer (some ⟨B, 0, none⟩), .pointer (some ⟨Bo, 0, none⟩), .pointer (some ⟨By, 0, none⟩)] W fun e W' => e = .returned (.bool true) ∧ ∃ W1, Q W1 ∧ W' = W1.setCell ⟨Bo, 0, none⟩ (.bool true) := by
  refine callsIn_of_wp Try.func27 rfl trivial ?_ rfl
  simp only [Try.ntmps27, List.size_toArray, List.length_cons, List.length_nil, Nat.reduceAdd, Nat.reduceSub, Array.replicate_succ, Array.replicate_zero, List.push_toArray, List.append_toArray, List.nil_append, List.cons_append]
  obtain ⟨co, fo⟩ := row_facts ho
  obtain ⟨cy, fy⟩ := row_facts hy
  obtain ⟨fn, tmps, assign, body, hy1, hR⟩ := hY
  have hy2 : (Instr.yield l #[.pointer (some ⟨B, 0, none⟩)]).run Try.prog W = .ok (.round l fn tmps assign body) W := hy1
  have HR := Lib.hid hR
  have HQ := Lib.hid hQ
  clear hR hy1 ho hy hQ
  gi_wp2
  refine HR.out.mono ?_
  rintro e W5 ⟨rfl, hq⟩
  obtain ⟨c5, f5⟩ := row_facts (HQ.out _ hq)
  have Hq := Lib.hid hq
  clear hq co fo cy fy hy2
  gi_wp2
  go_ret
  exact ⟨rfl, W5, Hq.out, rfl⟩

/-- The blocks that the iterator keeps. -/
def Keep4 (c Bo By K : Nat) (W : World) : Nat → Prop := fun k => (k = c ∨ k = Bo ∨ k = By ∨ k = K) ∧ k < W.heap.size
def encL (x : Nat × Lt) : Array Value := #[.pointer (some ⟨x.1, 0, none⟩)]
/-- What is yielded: a pointer to a letter. -/
def GivL (n0 : Nat) (L : List Lt) (pre : List (Nat × Lt)) (T : Nat → Prop) (x : Nat × Lt) (W : World) : Prop :=
  W.heap[x.1]? = some (.cells x.2.cs 64 (0, 0)) ∧ n0 ≤ x.1 ∧ ¬ T x.1 ∧ pre.map Prod.snd ++ [x.2] <+: L
/-- What the round leaves. -/
def LeftL (f : Lt → Lt) (x : Nat × Lt) (W : World) : Prop := W.heap[x.1]? = some (.cells (f x.2).cs 64 (0, 0))

set_option maxRecDepth 100000 in
set_option maxHeartbeats 2000000 in
theorem iter_in (d : Nat) (hd : 3 ≤ d) (l : Nat) (W : World) (n0 n1 p c cap Bp : Nat) (f : Lt → Lt) (L : List Lt) (gap last lost : Value) (hn0 : n0 ≤ W.heap.size) (hn1 : n1 ≤ W.heap.size)
    (hB : W.heap[Bp]? = some (.cells #[.pointer (some ⟨p, 0, none⟩)] 24 (0, 0))) (hp : W.heap[p]? = some (.cells #[.chan (some c), gap, last, lost] 60 (0, 0))) (hL : InBox W c cap L) (hcap : cap ≤ 256)
    (J : List (Nat × Lt) → (Nat → Prop) → World → Prop) (hJ : ∀ pre T T' W1 W2, J pre T W1 → Ext T W1 W2 → (∀ k, T' k → More T W1 W2 k) → J pre T' W2)
    (hY : ∀ pre T x W, J pre T W → GivL n1 L pre T x W → pre.length < L.length → YieldAt Fence.wide (d - 1 - 1 - 1) Try.prog l (encL x) W fun e W' =>
      e = .returned (.bool true) ∧ J (pre ++ [x]) T W' ∧ Held T W W' ∧ Below n0 W W' ∧ LeftL f x W') (h0 : J [] (fun k => k = c) W) :
    CallsIn Fence.wide d Try.prog 26 #[.func (.yield l) #[] #[], .pointer (some ⟨Bp, 0, none⟩)] W fun e W' => (∃ v, e = .returned v) ∧ ∃ xs T, (xs.map Prod.snd = L ∧ InBox W' c cap (L.map f)) ∧ J xs T W' := by
  obtain ⟨hlen, s0, r0, hc⟩ := hL
  have lc := lt_row hc
  have lB := lt_row hB
  have lp := lt_row hp
  obtain ⟨W2, hW2⟩ : ∃ x, x = (W.alloc (.cells #[.func (.yield l) #[] #[]] 72)).alloc (.cells #[.bool true] 4) := ⟨_, rfl⟩
  have hE2 : Ext (fun _ => False) W W2 := by rw [hW2]; exact ((Ext.refl _ _).alloc _).alloc _
  have ho2 : W2.heap[W.heap.size + 1]? = some (.cells #[.bool true] 4 (0, 0)) := by rw [hW2]; exact heap_new' _ (by simp)
  have hy2 : W2.heap[W.heap.size]? = some (.cells #[.func (.yield l) #[] #[]] 72 (0, 0)) := by rw [hW2]; exact heap_at (heap_new _ _) _
  have hc2 : W2.heap[c]? = some (.chan cap (vs L) false s0 r0 false) := (hE2.block c lc id).trans hc
  have hp2 := (hE2.block p lp id).trans hp
  have hB2 := (hE2.block Bp lB id).trans hB
  have cB := cell_row (j := 0) hB2
  have cp := cell_row (j := 0) hp2
  rw [hW2] at cB cp
  have z2 := lt_row ho2
  obtain ⟨K, hK⟩ : ∃ K, K = W2.heap.size := ⟨_, rfl⟩
  have hT := turn_in (d - 1) (by omega) W2 c cap L ⟨hlen, s0, r0, hc2⟩ hcap 27 #[.pointer (some ⟨W.heap.size + 1, 0, none⟩), .pointer (some ⟨W.heap.size, 0, none⟩)] (enters_of Try.func27 (by kernel_rfl) rfl)
    (fun pre kept V => ∃ xs, xs.map Prod.snd = pre ∧ kept = pre.map f ∧ J xs (Keep4 c (W.heap.size + 1) W.heap.size K V) V ∧ V.heap[W.heap.size + 1]? = some (.cells #[.bool true] 4 (0, 0)) ∧ V.heap[W.heap.size]? = some (.cells #[.func (.yield l) #[] #[]] 72 (0, 0)) ∧ K ≤ V.heap.size)
    ⟨[], rfl, rfl, hJ _ _ _ _ _ h0 (hE2.mono (fun _ _ h => h.elim)) (fun k hk => by
      rcases hk.1 with h | h | h | h
      · exact .inl h
      · exact .inr ⟨by omega, hk.2⟩
      · exact .inr ⟨by omega, hk.2⟩
      · have := hk.2; omega), ho2, hy2, by omega⟩
    (fun pre kept V V' hj hz hE => by
      obtain ⟨xs, h1, h2, h3, h4, h5, h6⟩ := hj
      have hEk : Ext (Keep4 c (W.heap.size + 1) W.heap.size K V) V V' := hE.mono (fun k hk h => ⟨.inl h, hk⟩)
      refine ⟨xs, h1, h2, hJ _ _ _ _ _ h3 hEk (fun k hk => ?_), hE.blockOf h4 (fun h => by omega), hE.blockOf h5 (fun h => by omega), Nat.le_trans h6 hE.size⟩
      by_cases hv : k < V.heap.size
      · exact .inl ⟨hk.1, hv⟩
      · exact .inr ⟨by omega, hk.2⟩)
    (fun pre kept x V B hj hpre hB1 hV hBx => by
      obtain ⟨xs, h1, h2, h3, h4, h5, h6⟩ := hj
      have hxl : xs.length = pre.length := by rw [← h1, List.length_map]
      have hpl : pre.length < L.length := by
        have := hpre.length_le
        simp at this
        omega
      have hnT : ¬ Keep4 c (W.heap.size + 1) W.heap.size K V B := fun h => by
        rcases h.1 with h | h | h | h <;> omega
      have hyy := hY xs _ (B, x) V h3 ⟨hBx, by omega, hnT, by rw [h1]; exact hpre⟩ (by omega)
      refine (yield1_in (d - 1 - 1) l (by omega) V B (W.heap.size + 1) W.heap.size h4 h5 (fun V' => J (xs ++ [(B, x)]) (Keep4 c (W.heap.size + 1) W.heap.size K V) V' ∧ Held (Keep4 c (W.heap.size + 1) W.heap.size K V) V V' ∧ Below n0 V V' ∧ LeftL f (B, x) V')
        (fun V' hq => (hq.2.1 _ ⟨.inr (.inl rfl), lt_row h4⟩ (lt_row h4)).trans h4) hyy).mono ?_
      rintro e V'' ⟨rfl, V', ⟨q1, q2, q3, q4⟩, rfl⟩
      have hoV : V'.heap[W.heap.size + 1]? = some (.cells #[.bool true] 4 (0, 0)) := (q2 _ ⟨.inr (.inl rfl), lt_row h4⟩ (lt_row h4)).trans h4
      have hyV : V'.heap[W.heap.size]? = some (.cells #[.func (.yield l) #[] #[]] 72 (0, 0)) := (q2 _ ⟨.inr (.inr (.inl rfl)), lt_row h5⟩ (lt_row h5)).trans h5
      have hcV : c < V.heap.size := by omega
      have hset : (V'.setCell ⟨W.heap.size + 1, 0, none⟩ (.bool true)).heap.size = V'.heap.size := by simp [World.setCell]
      have hVV := q3.size
      refine ⟨true, f x, rfl, ?_, ?_, ?_, ?_, xs ++ [(B, x)], by rw [List.map_append, h1]; rfl, by rw [h2]; simp, ?_, ?_, ?_, ?_⟩
      · rw [heap_setCell_far _ (by omega)]
        exact q4
      · rw [heap_setCell_far _ (by omega)]
        exact q2 c ⟨.inl rfl, hcV⟩ hcV
      · rw [heap_setCell_far _ (by omega), ← hK]
        exact q2 K ⟨.inr (.inr (.inr rfl)), by omega⟩ (by omega)
      · rw [hset]
        exact hVV
      · refine hJ _ _ _ _ _ q1 ((Ext.set1 V' (W.heap.size + 1) 0 (.bool true)).mono (fun k hk h => ⟨.inr (.inl h), by omega⟩)) (fun k hk => .inl ⟨hk.1, ?_⟩)
        rcases hk.1 with h | h | h | h <;> omega
      · exact heap_setCell_same hoV _
      · rw [heap_setCell_far _ (by omega)]
        exact hyV
      · rw [hset]
        omega)
  have HT := Lib.hid hT
  have HW2 := Lib.hid hW2
  have HK := Lib.hid hK
  clear hT hJ hY h0 hW2 hE2 ho2 hy2 hc hc2 hp hp2 hB hB2 hK
  refine callsIn_of_wp Try.func26 rfl trivial ?_ rfl
  simp only [Try.ntmps26, List.size_toArray, List.length_cons, List.length_nil, Nat.reduceAdd, Nat.reduceSub, Array.replicate_succ, Array.replicate_zero, List.push_toArray, List.append_toArray, List.nil_append, List.cons_append]
  gi_wp2_with fail
  rw [← HW2.out]
  refine ⟨trivial, fun _ => by omega, ?_⟩
  refine HT.out.mono ?_
  rintro e V ⟨kept, rfl, hbox, hkl, xs, h1, h2, h3, h4, h5, h6⟩
  have hpost : ∃ xs T, (xs.map Prod.snd = L ∧ InBox V c cap (L.map f)) ∧ J xs T V := ⟨xs, _, ⟨h1, by rw [← h2]; exact hbox⟩, h3⟩
  have HP := Lib.hid hpost
  clear hpost hbox hkl h1 h2 h3 h4 h5 h6 cB cp
  gi_wp2
  go_end0
  exact ⟨⟨_, rfl⟩, HP.out⟩

theorem seq_letters (d : Nat) (hd : 3 ≤ d) (w : World) (n0 n1 : Nat) (hn0 : n0 ≤ w.heap.size) (hn1 : n1 ≤ w.heap.size) (p c cap Bp : Nat) (f : Lt → Lt) (L : List Lt) (gap last lost : Value)
    (hB : w.heap[Bp]? = some (.cells #[.pointer (some ⟨p, 0, none⟩)] 24 (0, 0))) (hp : w.heap[p]? = some (.cells #[.chan (some c), gap, last, lost] 60 (0, 0))) (hL : InBox w c cap L) (hcap : cap ≤ 256) :
    SeqP Fence.wide d (d - 1 - 1 - 1) Try.prog 26 #[.pointer (some ⟨Bp, 0, none⟩)] encL (GivL n1 L) (LeftL f) n0 (fun xs W => xs.map Prod.snd = L ∧ InBox W c cap (L.map f)) (fun k => k = c) L.length w := fun l J W hW hJ hY h0 => by
  obtain ⟨hlen, s0, r0, hc⟩ := hL
  exact iter_in d hd l W n0 n1 p c cap Bp f L gap last lost (Nat.le_trans hn0 hW.size) (Nat.le_trans hn1 hW.size) ((hW.block _ (lt_row hB)).trans hB) ((hW.block _ (lt_row hp)).trans hp) ⟨hlen, s0, r0, (hW.block _ (lt_row hc)).trans hc⟩ hcap J hJ hY h0

end Go.Proofs.Ytadnldnmefhlcaa.PostL
