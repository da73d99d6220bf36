/-
  WHAT IS PROVED: all mails of a box, in order. Condition: what the theorem names.
-/
import Derived.Test.YtadnldnmefhlcaaPostL
import Derived.Test.YtadnldnmefhlcaaPostP
import Derived.Test.YtadnldnmefhlcaaRoundK
namespace Go.Proofs.Ytadnldnmefhlcaa.PostQ
open Go Go.RowKit Go.Conc Go.Proofs.Ytadnldnmefhlcaa Go.Proofs.Ytadnldnmefhlcaa.PostA Go.Proofs.Ytadnldnmefhlcaa.PostT Go.Proofs.Ytadnldnmefhlcaa.PostF Go.Proofs.Ytadnldnmefhlcaa.PostN Go.Proofs.Ytadnldnmefhlcaa.PostL Go.Proofs.Ytadnldnmefhlcaa.SeqP Go.Proofs.Ytadnldnmefhlcaa.RowsX Go.Proofs.Ytadnldnmefhlcaa.RoundK
set_option linter.unusedVariables false
set_option linter.unusedSimpArgs false
attribute [local go_sem] Oper.semAt_some
attribute [-go_sem] Builtin.append_

def mc (x : Lt) : List Value := [.int .i64 x.id, .int .i64 x.to, .string x.text]
theorem mcF : RowFn 3 mc := ⟨fun _ => rfl, fun x u hu => by simp [mc] at hu; rcases hu with rfl | rfl | rfl <;> rfl⟩
theorem tyMail : SliceTy Try.prog 39 53 3 32 (.agg #[.int .i64 0, .int .i64 0, .string ByteArray.empty]) := SliceTy.mk' (by kernel_rfl) (by kernel_rfl) rfl (by omega)

/-- What the range over the letters keeps. -/
structure InvA (w : World) (c : Nat) (pre : List (Nat × Lt)) (T : Nat → Prop) (W : World) : Prop where
  out : ∃ u, W.heap[w.heap.size]? = some (.cells #[u] 39 (0, 0)) ∧ Ow W w.heap.size 53 3 u pre.length ((pre.map Prod.snd).flatMap mc) ∧ ∀ k, u.ownBlock = some k → w.heap.size + 2 ≤ k ∧ ¬ T k
  ext : Ext (fun k => k = c) w W
  sz : w.heap.size + 2 ≤ W.heap.size
  tk : ∀ k, T k → (k = c ∨ w.heap.size + 2 ≤ k) ∧ k < W.heap.size
  lt : c < w.heap.size
theorem InvA.kept {w : World} {c : Nat} : OwnFrom (w.heap.size + 2) (fun (s : List (Nat × Lt) × (Nat → Prop)) W => InvA w c s.1 s.2 W) := by
  rintro ⟨pre, T⟩ X Y row hI hg hr
  obtain ⟨v, h1, h2, h3⟩ := hI.out
  have hz := hg.size
  have hs := hI.sz
  exact ⟨⟨v, (hg.block _ (by omega) (fun e => by have := (hr _ e.symm).1; omega)).trans h1, own_kept h2 hg (fun r e => (hr r e).2), h3⟩, hI.ext.grown hg (fun k hk => .inr (by have := (hr k hk).1; omega)), by omega, fun k hk => ⟨(hI.tk k hk).1, by have := (hI.tk k hk).2; omega⟩, hI.lt⟩
theorem InvA.more {w : World} {c : Nat} : ∀ (pre : List (Nat × Lt)) (T T' : Nat → Prop) (X Y : World), InvA w c pre T X → Ext T X Y → (∀ k, T' k → More T X Y k) → InvA w c pre T' Y := by
  intro pre T T' X Y hI hE hs'
  obtain ⟨v, h1, h2, h3⟩ := hI.out
  have hs := hI.sz
  have hz := hE.size
  have hlt := hI.lt
  refine ⟨⟨v, hE.blockOf h1 (fun h => by have := (hI.tk _ h).1; omega), h2.ext hE (fun k hk => (h3 k hk).2), fun k hk => ⟨(h3 k hk).1, fun hT => (hs' _ hT).elim (h3 k hk).2 (fun h => by have := (h2.lt k hk).2; omega)⟩⟩, ext_more hI.ext (hE.mono (fun k _ hk => (hI.tk k hk).1.elim .inl (fun h => .inr (by omega)))), by omega, fun k hk => ?_, hlt⟩
  rcases hs' k hk with h | h
  · exact ⟨(hI.tk k h).1, by have := (hI.tk k h).2; omega⟩
  · exact ⟨.inr (by omega), h.2⟩
theorem kept_cells {W W' : World} {row : Option Nat} {k : Nat} {cs : Array Value} {t : TypeId} {fr : Nat × Nat} (h : W.heap[k]? = some (.cells cs t fr)) (hg : W.grownBy W' row) (hr : ∀ r, row = some r → ∃ o : Obj, W.heap[r]? = some o ∧ o.isCells = false) : W'.heap[k]? = some (.cells cs t fr) :=
  (hg.block _ (lt_row h) (fun e => by
    obtain ⟨o, ho, hc⟩ := hr _ e.symm
    rw [h] at ho
    cases ho
    cases hc)).trans h
theorem GivL.kept {n1 : Nat} {L : List Lt} {pre : List (Nat × Lt)} {T : Nat → Prop} (B : Nat) : OwnFrom B (GivL n1 L pre T) := fun x W W' row hs hg hr => ⟨kept_cells hs.1 hg (fun r e => (hr r e).2), hs.2⟩
theorem LeftL.kept {f : Lt → Lt} (B : Nat) : OwnFrom B (LeftL f) := fun x W W' row hs hg hr => kept_cells hs hg (fun r e => (hr r e).2)
theorem box_kept {B c cap : Nat} {L M : List Lt} (hc : c < B) : OwnFrom B (fun (xs : List (Nat × Lt)) W => xs.map Prod.snd = L ∧ InBox W c cap M) := by
  rintro xs W W' row ⟨h1, h2, s, r, h3⟩ hg hr
  exact ⟨h1, h2, s, r, (hg.block c (lt_row h3) (fun e => by have := (hr _ e.symm).1; omega)).trans h3⟩

def AllPost (w : World) (p c cap : Nat) (gap : Int) (L : List Lt) (last lost : Int) (e : Ending) (w' : World) : Prop :=
  ∃ v, e = .returned v ∧ Ow w' w.heap.size 53 3 v L.length (L.flatMap mc) ∧ PostAt w' p c cap gap L last lost ∧ Ext (fun k => k = c) w w'
set_option maxRecDepth 100000 in
set_option maxHeartbeats 4000000 in
theorem All_ok (w : World) (p c cap : Nat) (gap : Int) (L : List Lt) (last lost : Int) (h : PostAt w p c cap gap L last lost) :
    Calls Try.prog 16 #[.pointer (some ⟨p, 0, none⟩)] w (AllPost w p c cap gap L last lost) := by
  have hne := h.ne
  obtain ⟨hlen, s0, r0, hc⟩ := h.box
  have hbk := h.blk
  have hcap := h.cap0
  have lc := lt_row hc
  have lp := lt_row hbk
  have H := Lib.hid h
  clear h
  refine callsIn_wide (n := 6) |>.1 ?_
  refine callsIn_of_wp_marks Try.func16 rfl trivial ?_ rfl
  simp only [Try.ntmps16, List.size_toArray, List.length_cons, List.length_nil, Nat.reduceAdd, Nat.reduceSub, Array.replicate_succ, Array.replicate_zero, List.push_toArray, List.append_toArray, List.nil_append, List.cons_append]
  gi_wp2_with (first | (refine ⟨trivial, fun _ => by omega, ?_⟩; gi_at_call 21; refine (callsIn_wide.2 (letters_ok _ p)).mono ?_; rintro e w' ⟨rfl, rfl⟩) | (refine ⟨trivial, ?_⟩; gi_at_call 21; refine (callsIn_wide.2 (letters_ok _ p)).mono ?_; rintro e w' ⟨rfl, rfl⟩))
  obtain ⟨W0, hW0⟩ : ∃ W0, W0 = (w.alloc (.cells #[.slice none 0 0] 39)).alloc (.cells #[.pointer (some ⟨p, 0, none⟩)] 24) := ⟨_, rfl⟩
  have hsz : W0.heap.size = w.heap.size + 2 := by rw [hW0]; simp
  have hE0 : Ext (fun k => k = c) w W0 := by rw [hW0]; exact ((Ext.refl _ _).alloc _).alloc _
  have b0 : W0.heap[w.heap.size]? = some (.cells #[.slice none 0 0] 39 (0, 0)) := by rw [hW0]; exact heap_at (heap_new _ _) _
  have b1 : W0.heap[w.heap.size + 1]? = some (.cells #[.pointer (some ⟨p, 0, none⟩)] 24 (0, 0)) := by rw [hW0]; exact heap_new' _ (by simp)
  have hp0 : W0.heap[p]? = some (.cells #[.chan (some c), .int .i64 gap, .int .i64 last, .int .i64 lost] 60 (0, 0)) := hE0.blockOf hbk hne
  have hc0 : W0.heap[c]? = some (.chan cap (vs L) false s0 r0 false) := by rw [hW0]; exact heap_at (heap_at hc _) _
  have hI0 : InvA w c [] (fun k => k = c) W0 := ⟨⟨_, b0, Ow.nil _ _ _ _, fun k hk => by simp [Value.ownBlock] at hk⟩, hE0, by omega, fun k hk => ⟨.inl hk, by omega⟩, lc⟩
  rw [← hW0]
  refine wpIn_rangeFunc_T rfl (by omega) (gf := 26) (lb := #[.pointer (some ⟨w.heap.size + 1, 0, none⟩)]) rfl trivial (enters_of Try.func26 (by kernel_rfl) rfl)
    (seq_letters 5 (by omega) W0 w.heap.size W0.heap.size (by omega) (Nat.le_refl _) p c cap (w.heap.size + 1) id L (.int .i64 gap) (.int .i64 last) (.int .i64 lost) b1 hp0 ⟨hlen, s0, r0, hc0⟩ hcap) (by omega) (Below.refl _ _) (fun _ => rfl)
    (fun pre T W => InvA w c pre T W)
    (by rw [hsz]; exact InvA.kept) InvA.more (fun pre T => GivL.kept _) (LeftL.kept _) (box_kept (by omega)) (fun k hk => by have hk : k = c := hk; omega) hI0
    (fun x => { tmps := #[.pointer (some ⟨p, 0, none⟩), undef, .slice none 0 0, .pointer (some ⟨w.heap.size, 0, none⟩), .pointer (some ⟨x.1, 0, none⟩), .pointer (some ⟨p, 0, none⟩), .func (.func 26) #[] #[.pointer (some ⟨w.heap.size + 1, 0, none⟩)], .pointer (some ⟨x.1, 0, none⟩), undef, undef, undef, undef, undef, undef, undef, undef], defers := [] })
    ?assign ?body ?done
  case assign =>
    intro l u W K hK
    dsimp only [encL]
    gi_wp2
    exact hK
  case body =>
    intro l pre T x W hI hG hlt
    obtain ⟨v, bV, hO, hvs⟩ := hI.out
    have hsW := hI.sz
    obtain ⟨hx, hxn, hxT, hxp⟩ := hG
    obtain ⟨B, id', to', text, at', sent⟩ := x
    simp only at hx hxn hxT hxp
    unfold Lt.cs at hx
    simp only at hx
    have hap := row_apart hx (by decide) hO
    obtain ⟨av, cv, rfl, _, _⟩ := hO.form
    obtain ⟨k, hk⟩ : ∃ k, k = pre.length := ⟨_, rfl⟩
    rw [← hk] at hO bV hlt hvs hap
    have lB := lt_row hx
    have k0 : W.cell? ⟨w.heap.size, 0, none⟩ = some (.slice av k cv) := by rw [cell_row bV]; rfl
    have HO := Lib.hid hO
    have HBV := Lib.hid bV
    have Hvs := Lib.hid hvs
    have HI := Lib.hid hI
    have HX := Lib.hid hx
    have Hk := Lib.hid hk
    have Hap := Lib.hid hap
    clear hO hvs hI hk bV hap hI0 b0 b1 hp0 hc0 hbk hc hW0
    gi_wp2
    refine region_K_round (S := (fun W' => W'.cell? ⟨w.heap.size, 0, none⟩ = some (.slice av k cv) ∧ W'.heap[B]? = some (.cells #[.int .i64 id', .int .i64 to', .string text, .int .i64 at', .bool sent] 64 (0, 0)))) (K := [6, 7]) (by kernel_rfl) (by kernel_rfl) ?_ ?_
    · rintro ⟨a, w, h⟩
      exact h
    have hS0 : W.drew.cell? ⟨w.heap.size, 0, none⟩ = some (.slice av k cv) ∧ W.drew.heap[B]? = some (.cells #[.int .i64 id', .int .i64 to', .string text, .int .i64 at', .bool sent] 64 (0, 0)) := ⟨k0, hx⟩
    clear k0 hx
    refine Wr.wpAnyK_take (i := 0) (v := ?_) rfl (by kernel_rfl) (fun _ _ _ h => h) (Or.inl ⟨by rfl, ?_⟩) hS0 ?_
    rotate_left
    · intro wq hSw
      obtain ⟨q0, q1⟩ := hSw
      go_simp
      rfl
    simp only [Act.put, List.getElem_toArray, List.getElem_cons_zero, List.getElem_cons_succ, List.setIfInBounds_toArray, List.set_cons_zero, List.set_cons_succ]
    refine Wr.wpAnyK_takeP (i := 1) (v := ?_) rfl (by kernel_rfl) (fun _ _ _ h => h) (Or.inl ⟨by rfl, ?_⟩) hS0 ?_
    rotate_left
    · intro wq _
      go_simp
      rfl
    simp only [Act.put, List.getElem_toArray, List.getElem_cons_zero, List.getElem_cons_succ, List.setIfInBounds_toArray, List.set_cons_zero, List.set_cons_succ]
    refine Wr.wpAnyK_takeJ [3, 4, 5, 6, 7] (i := 2) (v := ?_) rfl (by kernel_rfl) (fun _ _ _ h => h) (Or.inl ⟨by rfl, ?_⟩) hS0 ?_
    rotate_left
    · intro wq hSw
      obtain ⟨q0, q1⟩ := hSw
      go_simp
      rfl
    simp only [Act.put, List.getElem_toArray, List.getElem_cons_zero, List.getElem_cons_succ, List.setIfInBounds_toArray, List.set_cons_zero, List.set_cons_succ]
    refine Wr.wpAnyK_takeP (i := 3) (v := ?_) rfl (by kernel_rfl) (fun _ _ _ h => h) (Or.inl ⟨by rfl, ?_⟩) hS0 ?_
    rotate_left
    · intro wq _
      go_simp
      rfl
    simp only [Act.put, List.getElem_toArray, List.getElem_cons_zero, List.getElem_cons_succ, List.setIfInBounds_toArray, List.set_cons_zero, List.set_cons_succ]
    refine Wr.wpAnyK_takeJ [5, 6, 7] (i := 4) (v := ?_) rfl (by kernel_rfl) (fun _ _ _ h => h) (Or.inl ⟨by rfl, ?_⟩) hS0 ?_
    rotate_left
    · intro wq hSw
      obtain ⟨q0, q1⟩ := hSw
      obtain ⟨qc, qf⟩ := row_facts q1
      go_simp
      rfl
    simp only [Act.put, List.getElem_toArray, List.getElem_cons_zero, List.getElem_cons_succ, List.setIfInBounds_toArray, List.set_cons_zero, List.set_cons_succ]
    refine Wr.wpAnyK_one (i := 5) (by kernel_rfl) ?_
    refine wpOp_run rfl (by rfl) (v := .slice (some ⟨W.heap.size, 0, none⟩) 1 1) (w' := W.drew.alloc (.cells #[.int .i64 id', .int .i64 to', .string text] 53)) (by go_simp; first | done | rfl | exact ⟨rfl, rfl⟩) ?_
    have hsrc := row_new_src (tx := 39) Try.underlying39 mcF W.drew ⟨id', to', text, at', sent⟩ #[.int .i64 id', .int .i64 to', .string text] rfl 53
    have hbW4 : Below W.heap.size W (W.drew.alloc (.cells #[.int .i64 id', .int .i64 to', .string text] 53)) := (Bl.drew (Below.refl _ W)).alloc (Nat.le_refl _) _
    obtain ⟨w4, hw4⟩ : ∃ w4, w4 = W.drew.alloc (.cells #[.int .i64 id', .int .i64 to', .string text] 53) := ⟨_, rfl⟩
    have hz4 : w4.heap.size = W.heap.size + 1 := by rw [hw4]; simp
    rw [← hw4] at hsrc hbW4 ⊢
    have hbV4 : w4.heap[w.heap.size]? = some (.cells #[.slice av k cv] 39 (0, 0)) := (hbW4.block _ (by omega)).trans HBV.out
    have hS1 : w4.cell? ⟨w.heap.size, 0, none⟩ = some (.slice av k cv) ∧ w4.heap[B]? = some (.cells #[.int .i64 id', .int .i64 to', .string text, .int .i64 at', .bool sent] 64 (0, 0)) := ⟨by rw [cell_row hbV4]; rfl, (hbW4.block _ lB).trans HX.out⟩
    refine ⟨hS1, ?_⟩
    have hO4 : Ow w4 w.heap.size 53 3 (.slice av k cv) k ((pre.map Prod.snd).flatMap mc) := HO.out.ext (Ext.ofB hbW4) (fun _ _ h => h)
    clear hw4 hS0
    simp only [Act.put, List.getElem_toArray, List.getElem_cons_zero, List.getElem_cons_succ, List.setIfInBounds_toArray, List.set_cons_zero, List.set_cons_succ]
    refine Wr.wpAnyK_write (i := 6) (by kernel_rfl) (by kernel_rfl) ?_
    refine Wr.wpOp_appF rfl (by rfl) _ _ _ _ rfl tyMail w.heap.size (.slice av k cv) k ((pre.map Prod.snd).flatMap mc) rfl hO4 (.slice (some ⟨W.heap.size, 0, none⟩) 1 1) 1 (mc ⟨id', to', text, at', sent⟩) rfl hsrc (k + 1) rfl (((pre ++ [(B, (⟨id', to', text, at', sent⟩ : Lt))]).map Prod.snd).flatMap mc) (by simp) (by unfold maxLen; omega) (by omega) (by omega) ?_
    intro a5 c5 w5 hown5 hgrow5 hat5
    simp only [Act.put, List.getElem_toArray, List.getElem_cons_zero, List.getElem_cons_succ, List.setIfInBounds_toArray, List.set_cons_zero, List.set_cons_succ]
    have hne5 : ∀ j, j < w.heap.size + 2 → some j ≠ (Value.slice av k cv).ownBlock := fun j hj e => by
      have := (Hvs.out j e.symm).1
      omega
    have hB5 : w5.heap[w.heap.size]? = some (.cells #[.slice av k cv] 39 (0, 0)) := (hgrow5.block _ (by omega) (hne5 _ (by omega))).trans hbV4
    have hX5 : w5.heap[B]? = some (.cells #[.int .i64 id', .int .i64 to', .string text, .int .i64 at', .bool sent] 64 (0, 0)) := (hgrow5.block _ (by omega) (fun e => Hap.out e.symm)).trans hS1.2
    obtain ⟨cx5, fx5⟩ := row_facts hB5
    refine Wr.wpAnyK_write (i := 7) (by kernel_rfl) (by kernel_rfl) ?_
    refine wpOp_skip rfl (by rfl) (w' := w5.setCell ⟨w.heap.size, 0, none⟩ (.slice a5 (k + 1) c5)) (by go_simp; first | done | rfl) ?_
    simp only [Act.put, List.getElem_toArray, List.getElem_cons_zero, List.getElem_cons_succ, List.setIfInBounds_toArray, List.set_cons_zero, List.set_cons_succ]
    refine Wr.wpAnyK_done (by kernel_rfl) ?_ _
    clear cx5 fx5
    gi_wp2
    have hz5 := hgrow5.size
    have hzs : (w5.setCell ⟨w.heap.size, 0, none⟩ (.slice a5 (k + 1) c5)).heap.size = w5.heap.size := by simp [World.setCell]
    have hv5 : ∀ j, (Value.slice a5 (k + 1) c5).ownBlock = some j → w.heap.size + 2 ≤ j ∧ ¬ T j := fun j e => by
      rcases hat5 with h | h
      · exact Hvs.out j (h ▸ e)
      · rw [h] at e
        cases e
        exact ⟨by omega, fun hT => by have := (HI.out.tk _ hT).2; omega⟩
    have hcw := HI.out.lt
    refine ⟨KeepsOthers.from (((keepsOthers_below hbW4).trans (KeepsOthers.of_grownBy hgrow5 (own_cells hO4))).trans (KeepsOthers.setCell _ _ _)) _, fun j hT hj => ?_, ((hbW4.mono (by omega)).grown hgrow5 (by omega) (fun j hj => by have := (Hvs.out j hj).1; omega)).setCell (p := ⟨w.heap.size, 0, none⟩) (by simp) _, ⟨⟨_, heap_setCell_same hB5 _, ?_, hv5⟩, ext_more HI.out.ext (((Ext.of_below (S := fun j => j = c ∨ w.heap.size ≤ j) hbW4).grown hgrow5 (fun j hj => .inl (.inr (by have := (Hvs.out j hj).1; omega)))).setCell (p := ⟨w.heap.size, 0, none⟩) (.inl (.inr (Nat.le_refl _))) _), by rw [hzs]; omega, fun j hj => ⟨(HI.out.tk j hj).1, by rw [hzs]; have := (HI.out.tk j hj).2; omega⟩, hcw⟩, ?_⟩
    · have h1 := (HI.out.tk j hT).1
      rw [heap_setCell_far _ (by omega), hgrow5.block j (by omega) (fun e => (Hvs.out j e.symm).2 hT)]
      exact hbW4.block j hj
    · rw [List.length_append, ← Hk.out]
      exact Ow.ext hown5 (Ext.set1 w5 w.heap.size 0 _) (fun j hj e => by have := (hv5 j hj).1; omega)
    · show (w5.setCell ⟨w.heap.size, 0, none⟩ (.slice a5 (k + 1) c5)).heap[B]? = _
      rw [heap_setCell_far _ (by omega)]
      exact hX5
  case done =>
    intro D xs T W hD hS hI hK
    obtain ⟨h1, hbox⟩ := hS
    obtain ⟨v, bV, hO, hvs⟩ := hI.out
    have hxl : xs.length = L.length := by rw [← h1, List.length_map]
    rw [h1, hxl] at hO
    obtain ⟨av, cv, rfl, _, _⟩ := hO.form
    obtain ⟨k0, f0⟩ := row_facts bV
    have HI := Lib.hid hI
    have HK := Lib.hid hK
    have HO := Lib.hid hO
    have HX := Lib.hid hbox
    clear hI hK hO hI0 b0 b1 bV hvs h1 hbox hp0 hc0 hbk hc hW0
    gi_wp2
    refine ⟨by simp, .inl ⟨_, _, rfl, run_takeDeferred HK.out, ?_⟩⟩
    refine ⟨_, results_tmp rfl _ _ _, ?_⟩
    have hg := grownBy_putObj' W D (Obj.deferred none)
    have hpw := HI.out.ext.blockOf H.out.blk hne
    have hez := HI.out.ext.size
    obtain ⟨hb1, s1, r1, hb2⟩ := HX.out
    rw [List.map_id] at hb1 hb2
    refine ⟨_, rfl, own_kept HO.out hg (fun r e => by cases e; exact ⟨_, HK.out, rfl⟩), ⟨(World.putObj_heap_other (by omega)).trans hpw, ⟨hb1, s1, r1, (World.putObj_heap_other (by omega)).trans hb2⟩, hcap⟩, HI.out.ext.grown hg (fun k hk => by cases hk; exact .inr (by omega))⟩

end Go.Proofs.Ytadnldnmefhlcaa.PostQ
