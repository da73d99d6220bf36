/-
  WHAT IS PROVED: which mails of a box are due, and what the box holds then. Condition: what the theorem names.
-/
import Derived.Test.YtadnldnmefhlcaaPostQ
namespace Go.Proofs.Ytadnldnmefhlcaa.PostR
open Go Go.RowKit Go.Conc Go.Proofs.Ytadnldnmefhlcaa Go.Proofs.Ytadnldnmefhlcaa.PostA Go.Proofs.Ytadnldnmefhlcaa.PostT Go.Proofs.Ytadnldnmefhlcaa.PostF Go.Proofs.Ytadnldnmefhlcaa.PostN Go.Proofs.Ytadnldnmefhlcaa.PostL Go.Proofs.Ytadnldnmefhlcaa.PostQ Go.Proofs.Ytadnldnmefhlcaa.SeqP Go.Proofs.Ytadnldnmefhlcaa.RowsX Go.Proofs.Ytadnldnmefhlcaa.RoundK
set_option linter.unusedVariables false
set_option linter.unusedSimpArgs false
attribute [local go_sem] Oper.semAt_some
attribute [-go_sem] Builtin.append_

theorem exec_load_row {P : Program} {o : Oper} {a : Act} {w : World} (ty : TypeId) (x : Operand) (ho : o.op = .load ty x)
    (g : Nat) (hx : a.eval x = .pointer (some ⟨g, 0, none⟩)) {t : TypeId} {cs : Array Value} {fr : Nat × Nat} {d : TypeDesc} (hg : w.heap[g]? = some (.cells cs t fr))
    (hu : P.underlying ty = some d) (hd : (match d with | .struct _ | .array _ _ => true | _ => false) = true) (hi : (P.info? ty).map (·.size) = some cs.size) : (execOp a.eval o).run P w = .ok (.value (.agg cs)) w := by
  unfold execOp
  simp only [ho, hx, Instr.loadAt, Instr.sureAddr, Sem.run_bind, Sem.run_pure, Result.andThen_ok, run_loadVar_row w g t ty cs fr d hg hu hd hi]

def touch (gap now : Int) (x : Lt) : Lt := if dueB gap now x = true then { x with at' := now, sent := true } else x
def dues (gap now : Int) (l : List Lt) : List Lt := l.filter (dueB gap now)
theorem dues_no {gap now : Int} {x : Lt} {B : Nat} (pre : List (Nat × Lt)) (h : false = dueB gap now x) : dues gap now ((pre ++ [(B, x)]).map Prod.snd) = dues gap now (pre.map Prod.snd) := by simp [dues, ← h]
theorem dues_yes {gap now : Int} {x : Lt} {B : Nat} (pre : List (Nat × Lt)) (h : true = dueB gap now x) : dues gap now ((pre ++ [(B, x)]).map Prod.snd) = dues gap now (pre.map Prod.snd) ++ [x] := by simp [dues, ← h]
theorem touch_no {gap now : Int} {x : Lt} (h : false = dueB gap now x) : touch gap now x = x := by unfold touch; rw [← h]; rfl
theorem touch_yes {gap now : Int} {x : Lt} (h : true = dueB gap now x) : touch gap now x = { x with at' := now, sent := true } := by unfold touch; rw [← h]; rfl
/-- What the range over the letters keeps. -/
structure InvD (w : World) (p c : Nat) (gap now : Int) (pre : List (Nat × Lt)) (T : Nat → Prop) (W : World) : Prop where
  pb : W.heap[w.heap.size]? = some (.cells #[.pointer (some ⟨p, 0, none⟩)] 24 (0, 0))
  nb : W.heap[w.heap.size + 1]? = some (.cells #[.int .i64 now] 2 (0, 0))
  out : ∃ u, W.heap[w.heap.size + 2]? = some (.cells #[u] 39 (0, 0)) ∧ Ow W w.heap.size 53 3 u (dues gap now (pre.map Prod.snd)).length ((dues gap now (pre.map Prod.snd)).flatMap mc) ∧ ∀ k, u.ownBlock = some k → w.heap.size + 4 ≤ k ∧ ¬ T k
  ext : Ext (fun k => k = c) w W
  sz : w.heap.size + 4 ≤ W.heap.size
  tk : ∀ k, T k → (k = c ∨ w.heap.size + 4 ≤ k) ∧ k < W.heap.size
  lt : c < w.heap.size
theorem InvD.kept {w : World} {p c : Nat} {gap now : Int} : OwnFrom (w.heap.size + 4) (fun (s : List (Nat × Lt) × (Nat → Prop)) W => InvD w p c gap now s.1 s.2 W) := by
  rintro ⟨pre, T⟩ X Y row hI hg hr
  obtain ⟨v, h1, h2, h3⟩ := hI.out
  have hz := hg.size
  have hs := hI.sz
  exact ⟨kept_cells hI.pb hg (fun r e => (hr r e).2), kept_cells hI.nb hg (fun r e => (hr r e).2), ⟨v, kept_cells h1 hg (fun r e => (hr r e).2), own_kept h2 hg (fun r e => (hr r e).2), h3⟩, hI.ext.grown hg (fun k hk => .inr (by have := (hr k hk).1; omega)), by omega, fun k hk => ⟨(hI.tk k hk).1, by have := (hI.tk k hk).2; omega⟩, hI.lt⟩
theorem InvD.more {w : World} {p c : Nat} {gap now : Int} : ∀ (pre : List (Nat × Lt)) (T T' : Nat → Prop) (X Y : World), InvD w p c gap now pre T X → Ext T X Y → (∀ k, T' k → More T X Y k) → InvD w p c gap now pre T' Y := by
  intro pre T T' X Y hI hE hs'
  obtain ⟨v, h1, h2, h3⟩ := hI.out
  have hs := hI.sz
  have hz := hE.size
  have hlt := hI.lt
  refine ⟨hE.blockOf hI.pb (fun h => by have := (hI.tk _ h).1; omega), hE.blockOf hI.nb (fun h => by have := (hI.tk _ h).1; omega), ⟨v, hE.blockOf h1 (fun h => by have := (hI.tk _ h).1; omega), h2.ext hE (fun k hk => (h3 k hk).2), fun k hk => ⟨(h3 k hk).1, fun hT => (hs' _ hT).elim (h3 k hk).2 (fun h => by have := (h2.lt k hk).2; omega)⟩⟩, ext_more hI.ext (hE.mono (fun k _ hk => (hI.tk k hk).1.elim .inl (fun h => .inr (by omega)))), by omega, fun k hk => ?_, hlt⟩
  rcases hs' k hk with h | h
  · exact ⟨(hI.tk k h).1, by have := (hI.tk k h).2; omega⟩
  · exact ⟨.inr (by omega), h.2⟩

def DuePost (w : World) (p c cap : Nat) (gap now : Int) (L : List Lt) (last lost : Int) (e : Ending) (w' : World) : Prop :=
  ∃ v, e = .returned v ∧ Ow w' w.heap.size 53 3 v (dues gap now L).length ((dues gap now L).flatMap mc) ∧ PostAt w' p c cap gap (L.map (touch gap now)) last lost ∧ Ext (fun k => k = c) w w'
set_option maxRecDepth 100000 in
set_option maxHeartbeats 4000000 in
theorem Due_ok (w : World) (p c cap : Nat) (gap : Int) (L : List Lt) (last lost now : Int) (h : PostAt w p c cap gap L last lost) (hn0 : 0 ≤ now) (hn1 : now ≤ 1099511627776) (hLs : ∀ x ∈ L, x.sent = true → 0 ≤ x.at' ∧ x.at' ≤ 1099511627776) :
    Calls Try.prog 12 #[.pointer (some ⟨p, 0, none⟩), .int .i64 now] w (DuePost w p c cap gap now L last lost) := by
  have hne := h.ne
  obtain ⟨hlen, s0, r0, hc⟩ := h.box
  have hbk := h.blk
  have hcap := h.cap0
  have lc := lt_row hc
  have lp := lt_row hbk
  have H := Lib.hid h
  have ht : timeB now = true := by unfold timeB; simp; omega
  have hT := fun w => time_ok w now
  rw [ht] at hT
  have HT := Lib.hid hT
  clear h hT ht
  refine callsIn_wide (n := 6) |>.1 ?_
  refine callsIn_of_wp_marks Try.func12 rfl trivial ?_ rfl
  simp only [Try.ntmps12, List.size_toArray, List.length_cons, List.length_nil, Nat.reduceAdd, Nat.reduceSub, Array.replicate_succ, Array.replicate_zero, List.push_toArray, List.append_toArray, List.nil_append, List.cons_append]
  gi_wp2_with (first | (refine ⟨trivial, ?_⟩; gi_at_call 19; refine (callsIn_wide.2 (HT.out _)).mono ?_; rintro e w' ⟨rfl, rfl⟩) | (refine ⟨trivial, fun _ => by omega, ?_⟩; gi_at_call 19; refine (callsIn_wide.2 (HT.out _)).mono ?_; rintro e w' ⟨rfl, rfl⟩) | (refine ⟨trivial, fun _ => by omega, ?_⟩; gi_at_call 21; refine (callsIn_wide.2 (letters_ok _ p)).mono ?_; rintro e w' ⟨rfl, rfl⟩) | (refine ⟨trivial, ?_⟩; gi_at_call 21; refine (callsIn_wide.2 (letters_ok _ p)).mono ?_; rintro e w' ⟨rfl, rfl⟩))
  obtain ⟨W0, hW0⟩ : ∃ W0, W0 = (((w.alloc (.cells #[.pointer (some ⟨p, 0, none⟩)] 24)).alloc (.cells #[.int .i64 now] 2)).alloc (.cells #[.slice none 0 0] 39)).alloc (.cells #[.pointer (some ⟨p, 0, none⟩)] 24) := ⟨_, rfl⟩
  have hsz : W0.heap.size = w.heap.size + 4 := by rw [hW0]; simp
  have hE0 : Ext (fun k => k = c) w W0 := by rw [hW0]; exact ((((Ext.refl _ _).alloc _).alloc _).alloc _).alloc _
  have a0 : W0.heap[w.heap.size]? = some (.cells #[.pointer (some ⟨p, 0, none⟩)] 24 (0, 0)) := by rw [hW0]; exact heap_at (heap_at (heap_at (heap_new _ _) _) _) _
  have a1 : W0.heap[w.heap.size + 1]? = some (.cells #[.int .i64 now] 2 (0, 0)) := by rw [hW0]; exact heap_at (heap_at (heap_new' _ (by simp)) _) _
  have b0 : W0.heap[w.heap.size + 2]? = some (.cells #[.slice none 0 0] 39 (0, 0)) := by rw [hW0]; exact heap_at (heap_new' _ (by simp)) _
  have b1 : W0.heap[w.heap.size + 3]? = some (.cells #[.pointer (some ⟨p, 0, none⟩)] 24 (0, 0)) := by rw [hW0]; exact heap_new' _ (by simp)
  have hp0 : W0.heap[p]? = some (.cells #[.chan (some c), .int .i64 gap, .int .i64 last, .int .i64 lost] 60 (0, 0)) := hE0.blockOf hbk hne
  have hc0 : W0.heap[c]? = some (.chan cap (vs L) false s0 r0 false) := by rw [hW0]; exact heap_at (heap_at (heap_at (heap_at hc _) _) _) _
  have hI0 : InvD w p c gap now [] (fun k => k = c) W0 := ⟨a0, a1, ⟨_, b0, Ow.nil _ _ _ _, fun k hk => by simp [Value.ownBlock] at hk⟩, hE0, by omega, fun k hk => ⟨.inl hk, by omega⟩, lc⟩
  rw [← hW0]
  refine wpIn_rangeFunc_T rfl (by omega) (gf := 26) (lb := #[.pointer (some ⟨w.heap.size + 3, 0, none⟩)]) rfl trivial (enters_of Try.func26 (by kernel_rfl) rfl)
    (seq_letters 5 (by omega) W0 w.heap.size W0.heap.size (by omega) (Nat.le_refl _) p c cap (w.heap.size + 3) (touch gap now) L (.int .i64 gap) (.int .i64 last) (.int .i64 lost) b1 hp0 ⟨hlen, s0, r0, hc0⟩ hcap) (by omega) (Below.refl _ _) (fun _ => rfl)
    (fun pre T W => InvD w p c gap now pre T W)
    (by rw [hsz]; exact InvD.kept) InvD.more (fun pre T => GivL.kept _) (LeftL.kept _) (box_kept (by omega)) (fun k hk => by have hk : k = c := hk; omega) hI0
    (fun x => { tmps := #[.pointer (some ⟨p, 0, none⟩), .int .i64 now, .pointer (some ⟨w.heap.size, 0, none⟩), .pointer (some ⟨w.heap.size + 1, 0, none⟩), .slice none 0 0, .pointer (some ⟨w.heap.size + 2, 0, none⟩), .pointer (some ⟨x.1, 0, none⟩), .int .i64 now, .bool true, .bool false, .pointer (some ⟨p, 0, none⟩), .func (.func 26) #[] #[.pointer (some ⟨w.heap.size + 3, 0, none⟩)], .pointer (some ⟨x.1, 0, none⟩), undef, undef, undef, undef, undef, undef, undef, undef, undef, undef, undef, undef, undef, undef, undef, undef, undef, undef, undef, undef, undef], defers := [] })
    ?assign ?body ?done
  case assign =>
    intro l u W K hK
    dsimp only [encL]
    gi_wp2
    exact hK
  case body =>
    intro l pre T x W hI hG hlt
    obtain ⟨v, bV, hO, hvs⟩ := hI.out
    have hsW := hI.sz
    have hpw := hI.ext.blockOf hbk hne
    have hpb := hI.pb
    have hnb := hI.nb
    obtain ⟨hx, hxn, hxT, hxp⟩ := hG
    have hxs := hLs x.2 (hxp.subset (by simp))
    obtain ⟨B, x⟩ := x
    simp only at hx hxn hxT hxp hxs
    have hap := row_apart hx (by decide) hO
    have lB := lt_row hx
    have HO := Lib.hid hO
    have HBV := Lib.hid bV
    have Hvs := Lib.hid hvs
    have HI := Lib.hid hI
    have HX := Lib.hid hx
    have Hap := Lib.hid hap
    have HPW := Lib.hid hpw
    have HPB := Lib.hid hpb
    have HNB := Lib.hid hnb
    clear hO hvs hI bV hap hI0 a0 a1 b0 b1 hp0 hc0 hbk hc hW0
    gi_wp2
    have hS0 : W.drew.heap[w.heap.size]? = some (.cells #[.pointer (some ⟨p, 0, none⟩)] 24 (0, 0)) ∧ W.drew.heap[w.heap.size + 1]? = some (.cells #[.int .i64 now] 2 (0, 0)) ∧ W.drew.heap[B]? = some (.cells x.cs 64 (0, 0)) := ⟨hpb, hnb, hx⟩
    refine region_K_round (S := (fun W' => W'.heap[w.heap.size]? = some (.cells #[.pointer (some ⟨p, 0, none⟩)] 24 (0, 0)) ∧ W'.heap[w.heap.size + 1]? = some (.cells #[.int .i64 now] 2 (0, 0)) ∧ W'.heap[B]? = some (.cells x.cs 64 (0, 0)))) (K := []) (by kernel_rfl) (by kernel_rfl) ?_ ?_
    · rintro ⟨a, w, h⟩
      exact h
    clear hpw hpb hnb hx
    refine Wr.wpAnyK_take (i := 0) (v := ?_) rfl (by kernel_rfl) (fun _ _ _ h => h) (Or.inl ⟨by rfl, ?_⟩) hS0 ?_
    rotate_left
    · intro wq hSw
      obtain ⟨q0, q1, q2⟩ := hSw
      obtain ⟨c0, f0⟩ := row_facts q0
      obtain ⟨c1, f1⟩ := row_facts q1
      go_simp
      rfl
    simp only [Act.put, List.getElem_toArray, List.getElem_cons_zero, List.getElem_cons_succ, List.setIfInBounds_toArray, List.set_cons_zero, List.set_cons_succ]
    refine Wr.wpAnyK_take (i := 1) (v := ?_) rfl (by kernel_rfl) (fun _ _ _ h => h) (Or.inl ⟨by rfl, ?_⟩) hS0 ?_
    rotate_left
    · intro wq hSw
      obtain ⟨q0, q1, q2⟩ := hSw
      obtain ⟨c0, f0⟩ := row_facts q0
      obtain ⟨c1, f1⟩ := row_facts q1
      go_simp
      rfl
    simp only [Act.put, List.getElem_toArray, List.getElem_cons_zero, List.getElem_cons_succ, List.setIfInBounds_toArray, List.set_cons_zero, List.set_cons_succ]
    refine Wr.wpAnyK_take (i := 2) (v := ?_) rfl (by kernel_rfl) (fun _ _ _ h => h) (Or.inl ⟨by rfl, ?_⟩) hS0 ?_
    rotate_left
    · intro wq hSw
      obtain ⟨q0, q1, q2⟩ := hSw
      obtain ⟨c0, f0⟩ := row_facts q0
      obtain ⟨c1, f1⟩ := row_facts q1
      go_simp
      rfl
    simp only [Act.put, List.getElem_toArray, List.getElem_cons_zero, List.getElem_cons_succ, List.setIfInBounds_toArray, List.set_cons_zero, List.set_cons_succ]
    refine Wr.wpAnyK_take (i := 3) (v := .agg x.cs) rfl (by kernel_rfl) (fun _ _ _ h => h) (Or.inl ⟨by rfl, ?_⟩) hS0 ?_
    · intro wq hSw
      obtain ⟨q0, q1, q2⟩ := hSw
      exact exec_load_row 64 _ rfl _ rfl q2 Try.underlying64 rfl (by kernel_rfl)
    simp only [Act.put, List.getElem_toArray, List.getElem_cons_zero, List.getElem_cons_succ, List.setIfInBounds_toArray, List.set_cons_zero, List.set_cons_succ]
    refine Wr.wpAnyK_take (i := 4) (v := ?_) rfl (by kernel_rfl) (fun _ _ _ h => h) (Or.inl ⟨by rfl, ?_⟩) hS0 ?_
    rotate_left
    · intro wq hSw
      obtain ⟨q0, q1, q2⟩ := hSw
      obtain ⟨c0, f0⟩ := row_facts q0
      obtain ⟨c1, f1⟩ := row_facts q1
      go_simp
      rfl
    simp only [Act.put, List.getElem_toArray, List.getElem_cons_zero, List.getElem_cons_succ, List.setIfInBounds_toArray, List.set_cons_zero, List.set_cons_succ]
    refine Wr.wpAnyK_one (i := 5) (by kernel_rfl) ?_
    refine wpOp_call rfl (by rfl) (by go_simp; first | rfl | exact ⟨⟨rfl, rfl⟩, rfl⟩ | exact ⟨rfl, rfl⟩) ?_
    refine (due_ok W.drew p c gap last lost now x hn0 hn1 hxs HPW.out).mono ?_
    rintro e W1 ⟨rfl, hb1⟩
    have hb1' : Below W.heap.size W W1 := (Bl.drew (Below.refl _ W)).trans hb1
    have hS1 : W1.heap[w.heap.size]? = some (.cells #[.pointer (some ⟨p, 0, none⟩)] 24 (0, 0)) ∧ W1.heap[w.heap.size + 1]? = some (.cells #[.int .i64 now] 2 (0, 0)) ∧ W1.heap[B]? = some (.cells x.cs 64 (0, 0)) := ⟨(hb1'.block _ (by omega)).trans hS0.1, (hb1'.block _ (by omega)).trans hS0.2.1, (hb1'.block _ lB).trans hS0.2.2⟩
    refine ⟨_, rfl, ?_, ?_⟩
    · exact hS1
    simp only [Act.put, List.getElem_toArray, List.getElem_cons_zero, List.getElem_cons_succ, List.setIfInBounds_toArray, List.set_cons_zero, List.set_cons_succ]
    refine Wr.wpAnyK_done (by kernel_rfl) ?_ _
    have HB1 := Lib.hid hb1'
    have HS1 := Lib.hid hS1
    clear hb1 hb1' hS0 hS1
    obtain ⟨b, hb⟩ : ∃ b, b = dueB gap now x := ⟨_, rfl⟩
    rw [← hb]
    have Hb := Lib.hid hb
    clear hb
    cases b
    · gi_wp2
      have hz1 := HB1.out.size
      refine ⟨KeepsOthers.from (keepsOthers_below HB1.out) _, fun k hT hk => HB1.out.block k hk, HB1.out.mono (by omega), ⟨HS1.out.1, HS1.out.2.1, ⟨v, (HB1.out.block _ (by omega)).trans HBV.out, ?_, Hvs.out⟩, HI.out.ext.trans (Ext.of_below HB1.out), by omega, fun k hk => ⟨(HI.out.tk k hk).1, by have := (HI.out.tk k hk).2; omega⟩, HI.out.lt⟩, ?_⟩
      · rw [dues_no pre Hb.out]
        exact HO.out.ext (Ext.ofB HB1.out) (fun _ _ h => h)
      · show W1.heap[B]? = some (.cells (touch gap now x).cs _ (0, 0))
        rw [touch_no Hb.out]
        exact HS1.out.2.2
    · have r1 := HS1.out.2.1
      have r2 := HS1.out.2.2
      unfold Lt.cs at r2
      obtain ⟨c1, f1⟩ := row_facts r1
      obtain ⟨c2, f2⟩ := row_facts r2
      gi_wp2
      obtain ⟨W2, hW2⟩ : ∃ y, y = (W1.setCell ⟨B, 3, none⟩ (.int .i64 now)).setCell ⟨B, 4, none⟩ (.bool true) := ⟨_, rfl⟩
      rw [← hW2]
      obtain ⟨k, hk⟩ : ∃ k, k = (dues gap now (pre.map Prod.snd)).length := ⟨_, rfl⟩
      rw [← hk] at HO
      obtain ⟨av, cv, rfl, _, _⟩ := HO.out.form
      have hz1 := HB1.out.size
      have hk8 : k ≤ 256 := by
        have h1 : (dues gap now (pre.map Prod.snd)).length ≤ (pre.map Prod.snd).length := List.length_filter_le _ _
        rw [List.length_map] at h1
        omega
      have hzW : W2.heap.size = W1.heap.size := by rw [hW2]; simp [World.setCell]
      have HX2 := Lib.hid (show W2.heap[B]? = some (.cells #[.int .i64 x.id, .int .i64 x.to, .string x.text, .int .i64 now, .bool true] 64 (0, 0)) by rw [hW2]; exact heap_setCell_same (heap_setCell_same r2 _) _)
      have hE2 : Ext (fun j => j = B) W1 W2 := by rw [hW2]; exact (Ext.set1 W1 B 3 _).setCell (p := ⟨B, 4, none⟩) (.inl rfl) _
      have hfar : ∀ j, j < W.heap.size → j ≠ B → W2.heap[j]? = W.heap[j]? := fun j h1 h2 => (hE2.block j (by omega) h2).trans (HB1.out.block j h1)
      have HBV2 := Lib.hid (show W2.heap[w.heap.size + 2]? = some (.cells #[.slice av k cv] 39 (0, 0)) from (hfar _ (by omega) (by omega)).trans HBV.out)
      have hO2 : Ow W2 w.heap.size 53 3 (.slice av k cv) k ((dues gap now (pre.map Prod.snd)).flatMap mc) := (HO.out.ext (Ext.ofB HB1.out) (fun _ _ h => h)).ext hE2 (fun j h1 h2 => Hap.out (by rw [h1, h2]))
      have k0 : W2.cell? ⟨w.heap.size + 2, 0, none⟩ = some (.slice av k cv) := by rw [cell_row HBV2.out]; rfl
      have Hk := Lib.hid hk
      have hK2 : KeepsOthers W1 W2 := by rw [hW2]; exact (KeepsOthers.setCell _ _ _).trans (KeepsOthers.setCell _ _ _)
      have hb2 : Below w.heap.size W W2 := by rw [hW2]; exact ((HB1.out.mono (by omega)).setCell (p := ⟨B, 3, none⟩) (by show w.heap.size ≤ B; omega) _).setCell (p := ⟨B, 4, none⟩) (by show w.heap.size ≤ B; omega) _
      clear hW2 c1 f1 c2 f2 r1 r2 hk
      refine region_K_round (S := (fun W' => W'.cell? ⟨w.heap.size + 2, 0, none⟩ = some (.slice av k cv) ∧ W'.heap[B]? = some (.cells #[.int .i64 x.id, .int .i64 x.to, .string x.text, .int .i64 now, .bool true] 64 (0, 0)))) (K := [6, 7]) (by kernel_rfl) (by kernel_rfl) ?_ ?_
      · rintro ⟨a, w, h⟩
        exact h
      have hS0 : W2.drew.cell? ⟨w.heap.size + 2, 0, none⟩ = some (.slice av k cv) ∧ W2.drew.heap[B]? = some (.cells #[.int .i64 x.id, .int .i64 x.to, .string x.text, .int .i64 now, .bool true] 64 (0, 0)) := ⟨k0, HX2.out⟩
      clear k0
      refine Wr.wpAnyK_take (i := 0) (v := ?_) rfl (by kernel_rfl) (fun _ _ _ h => h) (Or.inl ⟨by rfl, ?_⟩) hS0 ?_
      rotate_left
      · intro wq hSw
        obtain ⟨q0, q1⟩ := hSw
        go_simp
        rfl
      simp only [Act.put, List.getElem_toArray, List.getElem_cons_zero, List.getElem_cons_succ, List.setIfInBounds_toArray, List.set_cons_zero, List.set_cons_succ]
      refine Wr.wpAnyK_takeP (i := 1) (v := ?_) rfl (by kernel_rfl) (fun _ _ _ h => h) (Or.inl ⟨by rfl, ?_⟩) hS0 ?_
      rotate_left
      · intro wq _
        go_simp
        rfl
      simp only [Act.put, List.getElem_toArray, List.getElem_cons_zero, List.getElem_cons_succ, List.setIfInBounds_toArray, List.set_cons_zero, List.set_cons_succ]
      refine Wr.wpAnyK_takeJ [3, 4, 5, 6, 7] (i := 2) (v := ?_) rfl (by kernel_rfl) (fun _ _ _ h => h) (Or.inl ⟨by rfl, ?_⟩) hS0 ?_
      rotate_left
      · intro wq hSw
        obtain ⟨q0, q1⟩ := hSw
        go_simp
        rfl
      simp only [Act.put, List.getElem_toArray, List.getElem_cons_zero, List.getElem_cons_succ, List.setIfInBounds_toArray, List.set_cons_zero, List.set_cons_succ]
      refine Wr.wpAnyK_takeP (i := 3) (v := ?_) rfl (by kernel_rfl) (fun _ _ _ h => h) (Or.inl ⟨by rfl, ?_⟩) hS0 ?_
      rotate_left
      · intro wq _
        go_simp
        rfl
      simp only [Act.put, List.getElem_toArray, List.getElem_cons_zero, List.getElem_cons_succ, List.setIfInBounds_toArray, List.set_cons_zero, List.set_cons_succ]
      refine Wr.wpAnyK_takeJ [5, 6, 7] (i := 4) (v := ?_) rfl (by kernel_rfl) (fun _ _ _ h => h) (Or.inl ⟨by rfl, ?_⟩) hS0 ?_
      rotate_left
      · intro wq hSw
        obtain ⟨q0, q1⟩ := hSw
        obtain ⟨qc, qf⟩ := row_facts q1
        go_simp
        rfl
      simp only [Act.put, List.getElem_toArray, List.getElem_cons_zero, List.getElem_cons_succ, List.setIfInBounds_toArray, List.set_cons_zero, List.set_cons_succ]
      refine Wr.wpAnyK_one (i := 5) (by kernel_rfl) ?_
      refine wpOp_run rfl (by rfl) (v := .slice (some ⟨W2.heap.size, 0, none⟩) 1 1) (w' := W2.drew.alloc (.cells #[.int .i64 x.id, .int .i64 x.to, .string x.text] 53)) (by go_simp; first | done | rfl | exact ⟨rfl, rfl⟩) ?_
      have hsrc := row_new_src (tx := 39) Try.underlying39 mcF W2.drew x #[.int .i64 x.id, .int .i64 x.to, .string x.text] rfl 53
      have hbW4 : Below W2.heap.size W2 (W2.drew.alloc (.cells #[.int .i64 x.id, .int .i64 x.to, .string x.text] 53)) := (Bl.drew (Below.refl _ W2)).alloc (Nat.le_refl _) _
      obtain ⟨w4, hw4⟩ : ∃ w4, w4 = W2.drew.alloc (.cells #[.int .i64 x.id, .int .i64 x.to, .string x.text] 53) := ⟨_, rfl⟩
      have hz4 : w4.heap.size = W2.heap.size + 1 := by rw [hw4]; simp
      rw [← hw4] at hsrc hbW4 ⊢
      have hbV4 : w4.heap[w.heap.size + 2]? = some (.cells #[.slice av k cv] 39 (0, 0)) := (hbW4.block _ (by omega)).trans HBV2.out
      have hS1 : w4.cell? ⟨w.heap.size + 2, 0, none⟩ = some (.slice av k cv) ∧ w4.heap[B]? = some (.cells #[.int .i64 x.id, .int .i64 x.to, .string x.text, .int .i64 now, .bool true] 64 (0, 0)) := ⟨by rw [cell_row hbV4]; rfl, (hbW4.block _ (by omega)).trans HX2.out⟩
      refine ⟨hS1, ?_⟩
      have hO4 : Ow w4 w.heap.size 53 3 (.slice av k cv) k ((dues gap now (pre.map Prod.snd)).flatMap mc) := hO2.ext (Ext.ofB hbW4) (fun _ _ h => h)
      clear hw4 hS0
      simp only [Act.put, List.getElem_toArray, List.getElem_cons_zero, List.getElem_cons_succ, List.setIfInBounds_toArray, List.set_cons_zero, List.set_cons_succ]
      refine Wr.wpAnyK_write (i := 6) (by kernel_rfl) (by kernel_rfl) ?_
      refine Wr.wpOp_appF rfl (by rfl) _ _ _ _ rfl tyMail w.heap.size (.slice av k cv) k ((dues gap now (pre.map Prod.snd)).flatMap mc) rfl hO4 (.slice (some ⟨W2.heap.size, 0, none⟩) 1 1) 1 (mc x) rfl hsrc (k + 1) rfl ((dues gap now (pre.map Prod.snd) ++ [x]).flatMap mc) (by simp) (by unfold maxLen; omega) (by omega) (by omega) ?_
      intro a5 c5 w5 hown5 hgrow5 hat5
      simp only [Act.put, List.getElem_toArray, List.getElem_cons_zero, List.getElem_cons_succ, List.setIfInBounds_toArray, List.set_cons_zero, List.set_cons_succ]
      have hne5 : ∀ j, j < w.heap.size + 4 → some j ≠ (Value.slice av k cv).ownBlock := fun j hj e => by
        have := (Hvs.out j e.symm).1
        omega
      have hB5 : w5.heap[w.heap.size + 2]? = some (.cells #[.slice av k cv] 39 (0, 0)) := (hgrow5.block _ (by omega) (hne5 _ (by omega))).trans hbV4
      have hX5 : w5.heap[B]? = some (.cells #[.int .i64 x.id, .int .i64 x.to, .string x.text, .int .i64 now, .bool true] 64 (0, 0)) := (hgrow5.block _ (by omega) (fun e => Hap.out e.symm)).trans hS1.2
      obtain ⟨cx5, fx5⟩ := row_facts hB5
      refine Wr.wpAnyK_write (i := 7) (by kernel_rfl) (by kernel_rfl) ?_
      refine wpOp_skip rfl (by rfl) (w' := w5.setCell ⟨w.heap.size + 2, 0, none⟩ (.slice a5 (k + 1) c5)) (by go_simp; first | done | rfl) ?_
      simp only [Act.put, List.getElem_toArray, List.getElem_cons_zero, List.getElem_cons_succ, List.setIfInBounds_toArray, List.set_cons_zero, List.set_cons_succ]
      refine Wr.wpAnyK_done (by kernel_rfl) ?_ _
      clear cx5 fx5
      gi_wp2
      have hz5 := hgrow5.size
      have hzs : (w5.setCell ⟨w.heap.size + 2, 0, none⟩ (.slice a5 (k + 1) c5)).heap.size = w5.heap.size := by simp [World.setCell]
      have hv5 : ∀ j, (Value.slice a5 (k + 1) c5).ownBlock = some j → w.heap.size + 4 ≤ j ∧ ¬ T j := fun j e => by
        rcases hat5 with h | h
        · exact Hvs.out j (h ▸ e)
        · rw [h] at e
          cases e
          exact ⟨by omega, fun hT => by have := (HI.out.tk _ hT).2; omega⟩
      have hcw := HI.out.lt
      have hbE : Below w.heap.size W (w5.setCell ⟨w.heap.size + 2, 0, none⟩ (.slice a5 (k + 1) c5)) := ((hb2.trans (hbW4.mono (by omega))).grown hgrow5 (by omega) (fun j hj => by have := (Hvs.out j hj).1; omega)).setCell (p := ⟨w.heap.size + 2, 0, none⟩) (by simp) _
      have hold : ∀ j, j < W.heap.size → j ≠ B → j ≠ w.heap.size + 2 → (j < w.heap.size + 4 ∨ T j) → (w5.setCell ⟨w.heap.size + 2, 0, none⟩ (.slice a5 (k + 1) c5)).heap[j]? = W.heap[j]? := fun j h1 h2 h3 h4 => by
        rw [heap_setCell_far _ h3, hgrow5.block j (by omega) (fun e => by have := Hvs.out j e.symm; exact h4.elim (fun h => by omega) this.2), hbW4.block j (by omega)]
        exact hfar j h1 h2
      refine ⟨KeepsOthers.from (((((keepsOthers_below HB1.out).trans hK2).trans (keepsOthers_below hbW4)).trans (KeepsOthers.of_grownBy hgrow5 (own_cells hO4))).trans (KeepsOthers.setCell _ _ _)) _, fun j hT hj => hold j hj (fun e => hxT (e ▸ hT)) (by have := (HI.out.tk j hT).1; omega) (.inr hT), hbE, ⟨(hold _ (by omega) (by omega) (by omega) (.inl (by omega))).trans HPB.out, (hold _ (by omega) (by omega) (by omega) (.inl (by omega))).trans HNB.out, ⟨_, heap_setCell_same hB5 _, ?_, hv5⟩, ext_more HI.out.ext ⟨hbE.os, hbE.tape, hbE.output, by rw [hzs]; omega, fun j hj hs => hbE.block j (by omega)⟩, by rw [hzs]; omega, fun j hj => ⟨(HI.out.tk j hj).1, by rw [hzs]; have := (HI.out.tk j hj).2; omega⟩, hcw⟩, ?_⟩
      · rw [dues_yes pre Hb.out, List.length_append, ← Hk.out]
        exact Ow.ext hown5 (Ext.set1 w5 (w.heap.size + 2) 0 _) (fun j hj e => by have := (hv5 j hj).1; omega)
      · show (w5.setCell ⟨w.heap.size + 2, 0, none⟩ (.slice a5 (k + 1) c5)).heap[B]? = some (.cells (touch gap now x).cs _ (0, 0))
        rw [heap_setCell_far _ (by omega), touch_yes Hb.out]
        exact hX5
  case done =>
    intro D xs T W hD hS hI hK
    obtain ⟨h1, hbox⟩ := hS
    obtain ⟨v, bV, hO, hvs⟩ := hI.out
    rw [h1] at hO
    obtain ⟨n, hn⟩ : ∃ n, n = (dues gap now L).length := ⟨_, rfl⟩
    rw [← hn] at hO
    have Hn := Lib.hid hn
    obtain ⟨av, cv, rfl, _, _⟩ := hO.form
    obtain ⟨k0, f0⟩ := row_facts bV
    have HI := Lib.hid hI
    have HK := Lib.hid hK
    have HO := Lib.hid hO
    have HX := Lib.hid hbox
    clear hI hK hO hI0 a0 a1 b0 b1 bV hvs h1 hbox hp0 hc0 hbk hc hW0 hn
    gi_wp2
    refine ⟨by simp, .inl ⟨_, _, rfl, run_takeDeferred HK.out, ?_⟩⟩
    refine ⟨_, results_tmp rfl _ _ _, ?_⟩
    have hg := grownBy_putObj' W D (Obj.deferred none)
    have hpw := HI.out.ext.blockOf H.out.blk hne
    have hez := HI.out.ext.size
    obtain ⟨hb1, s1, r1, hb2⟩ := HX.out
    refine ⟨_, rfl, by rw [← Hn.out]; exact own_kept HO.out hg (fun r e => by cases e; exact ⟨_, HK.out, rfl⟩), ⟨(World.putObj_heap_other (by omega)).trans hpw, ⟨hb1, s1, r1, (World.putObj_heap_other (by omega)).trans hb2⟩, hcap⟩, HI.out.ext.grown hg (fun k hk => by cases hk; exact .inr (by omega))⟩

theorem Due_no (w : World) (p : Nat) (now : Int) (h : timeB now = false) : Calls Try.prog 12 #[.pointer (some ⟨p, 0, none⟩), .int .i64 now] w fun e w' => e = .returned (.slice none 0 0) ∧ Below w.heap.size w w' := by
  have hT := fun w => time_ok w now
  rw [h] at hT
  have HT := Lib.hid hT
  clear hT h
  refine callsIn_wide (n := 6) |>.1 ?_
  refine callsIn_of_wp_marks Try.func12 rfl trivial ?_ rfl
  simp only [Try.ntmps12, List.size_toArray, List.length_cons, List.length_nil, Nat.reduceAdd, Nat.reduceSub, Array.replicate_succ, Array.replicate_zero, List.push_toArray, List.append_toArray, List.nil_append, List.cons_append]
  gi_wp2_with (first | (refine ⟨trivial, ?_⟩; gi_at_call 19; refine (callsIn_wide.2 (HT.out _)).mono ?_; rintro e w' ⟨rfl, rfl⟩) | (refine ⟨trivial, fun _ => by omega, ?_⟩; gi_at_call 19; refine (callsIn_wide.2 (HT.out _)).mono ?_; rintro e w' ⟨rfl, rfl⟩))
  exact ⟨_, results_tmp rfl _ _ _, rfl, ((Below.refl _ w).alloc (Nat.le_refl _) _).alloc (by simp) _⟩

end Go.Proofs.Ytadnldnmefhlcaa.PostR
