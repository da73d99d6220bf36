/-
  WHAT IS PROVED: each call of a box and of the document's, whatever comes in; what a loop over such calls keeps. Condition: what each theorem names.
-/
import Derived.Test.YtadnldnmefhlcaaPoL
import Derived.Test.YtadnldnmefhlcaaPoS
namespace Go.Proofs.Ytadnldnmefhlcaa.PoM
open Go Go.RowKit Go.Shelf Go.Conc Go.Proofs.Ytadnldnmefhlcaa Go.Proofs.Ytadnldnmefhlcaa.PostA Go.Proofs.Ytadnldnmefhlcaa.PostF Go.Proofs.Ytadnldnmefhlcaa.PostN Go.Proofs.Ytadnldnmefhlcaa.PostNe Go.Proofs.Ytadnldnmefhlcaa.PostP Go.Proofs.Ytadnldnmefhlcaa.PostQ Go.Proofs.Ytadnldnmefhlcaa.PostR Go.Proofs.Ytadnldnmefhlcaa.RowsX Go.Proofs.Ytadnldnmefhlcaa.Lift Go.Proofs.Ytadnldnmefhlcaa.Steps Go.Proofs.Ytadnldnmefhlcaa.PoA Go.Proofs.Ytadnldnmefhlcaa.PoB Go.Proofs.Ytadnldnmefhlcaa.PoC Go.Proofs.Ytadnldnmefhlcaa.PoD
set_option linter.unusedVariables false
set_option linter.unusedSimpArgs false

def toB (tt : Int) : Bool := decide (0 ≤ tt) && decide (tt ≤ 63)
theorem toB_yes {tt : Int} (h : toB tt = true) : 0 ≤ tt ∧ tt ≤ 63 := by unfold toB at h; simpa using h
theorem toB_no {tt : Int} (h : toB tt = false) : tt < 0 ∨ 63 < tt := by unfold toB at h; simp at h; omega
def putL (room : Nat) (L : List Lt) (last tt : Int) (s : ByteArray) : List Lt := if toB tt then (if L.length = room then L else L ++ [letOf last tt s]) else L
def putA (room : Nat) (L : List Lt) (last tt : Int) : Int := if toB tt then (if L.length = room then last else last + 1) else last
def putO (room : Nat) (L : List Lt) (lost tt : Int) : Int := if toB tt then (if L.length = room then lost + 1 else lost) else lost
def putN (room : Nat) (L : List Lt) (last tt : Int) : Int := if toB tt then (if L.length = room then 0 else last + 1) else 0
def putE (room : Nat) (L : List Lt) (tt : Int) : Int := if toB tt then (if L.length = room then 8 else 0) else 1
def dueL (gap now : Int) (L : List Lt) : List Lt := if timeB now then dues gap now L else []
def tchL (gap now : Int) (L : List Lt) : List Lt := if timeB now then L.map (touch gap now) else L
def Fine (L : List Lt) : Prop := ∀ x ∈ L, x.sent = true → 0 ≤ x.at' ∧ x.at' ≤ 1099511627776
theorem timeB_yes {t : Int} (h : timeB t = true) : 0 ≤ t ∧ t ≤ 1099511627776 := by unfold timeB at h; simpa using h
theorem fine_put {room : Nat} {L : List Lt} {last tt : Int} {s : ByteArray} (h : Fine L) : Fine (putL room L last tt s) := by
  unfold putL
  split
  · split
    · exact h
    · intro x hx
      rcases List.mem_append.1 hx with hx | hx
      · exact h x hx
      · simp at hx; subst hx; intro hs; cases hs
  · exact h
theorem fine_tch {gap now : Int} {L : List Lt} (h : Fine L) : Fine (tchL gap now L) := by
  unfold tchL
  split
  · rename_i ht
    intro x hx
    obtain ⟨y, hy, rfl⟩ := List.mem_map.1 hx
    unfold touch
    split
    · intro _; exact timeB_yes ht
    · exact h y hy
  · exact h
theorem fine_end {id : Int} {L : List Lt} (h : Fine L) : Fine (endOf L id) := fun x hx => h x (List.mem_filter.1 hx).1
theorem put_len {room : Nat} {L : List Lt} {last tt : Int} {s : ByteArray} (h : L.length ≤ room) : (putL room L last tt s).length ≤ room := by
  unfold putL; split
  · split
    · exact h
    · simp; omega
  · exact h
theorem tch_len (gap now : Int) (L : List Lt) : (tchL gap now L).length = L.length := by unfold tchL; split <;> simp
theorem end_len (L : List Lt) (id : Int) : (endOf L id).length ≤ L.length := List.length_filter_le _ _
theorem due_len (gap now : Int) (L : List Lt) : (dueL gap now L).length ≤ L.length := by unfold dueL; split; exact List.length_filter_le _ _; simp
theorem end_same {L : List Lt} {id : Int} (h : (endOf L id).length = L.length) : endOf L id = L := by
  unfold endOf at h ⊢
  exact List.filter_eq_self.2 (List.length_filter_eq_length_iff.1 h)

section
variable {w : World} {p c room : Nat} {gap last lost : Int} {L : List Lt}
theorem Put_any (tt : Int) (s : ByteArray) (h : PostAt w p c room gap L last lost) (hl0 : 0 ≤ last) (hl1 : last ≤ 1000000) (hs0 : 0 ≤ lost) (hs1 : lost ≤ 1000000) :
    Calls Try.prog 9 #[.pointer (some ⟨p, 0, none⟩), .int .i64 tt, .string s] w fun e w' => e = .returned (.tuple #[.int .i64 (putN room L last tt), .int .i64 (putE room L tt)]) ∧ PostAt w' p c room gap (putL room L last tt s) (putA room L last tt) (putO room L lost tt) ∧ Ext (fun k => k = c ∨ k = p) w w' := by
  have hlen := h.box.1
  cases ht : toB tt
  · simp only [putN, putE, putL, putA, putO, ht]
    exact (Put_range w p tt s (toB_no ht)).mono fun e w' ⟨he, hw⟩ => ⟨he, hw ▸ h, hw ▸ Ext.refl _ _⟩
  · obtain ⟨h0, h1⟩ := toB_yes ht
    by_cases hf : L.length = room
    · simp only [putN, putE, putL, putA, putO, ht, if_pos hf, if_true]
      exact Put_full w p c room gap L last lost tt s h h0 h1 hl0 hl1 hs0 hs1 (by omega)
    · simp only [putN, putE, putL, putA, putO, ht, if_neg hf, if_true]
      exact Put_room w p c room gap L last lost tt s h h0 h1 hl0 hl1 (by omega)
theorem Due_any (now : Int) (h : PostAt w p c room gap L last lost) (hf : Fine L) :
    Calls Try.prog 12 #[.pointer (some ⟨p, 0, none⟩), .int .i64 now] w fun e w' => ∃ v, e = .returned v ∧ Ow w' w.heap.size 53 3 v (dueL gap now L).length ((dueL gap now L).flatMap mc) ∧ PostAt w' p c room gap (tchL gap now L) last lost ∧ Ext (fun k => k = c) w w' := by
  cases ht : timeB now
  · simp only [dueL, tchL, ht]
    exact (Due_no w p now ht).mono fun e w' ⟨he, hb⟩ => ⟨_, he, Ow.nil _ _ _ _, ⟨(hb.block _ (lt_row h.blk)).trans h.blk, ⟨h.box.1, by obtain ⟨_, s, r, hc⟩ := h.box; exact ⟨s, r, (hb.block _ (lt_row hc)).trans hc⟩⟩, h.cap0⟩, Ext.of_below hb⟩
  · obtain ⟨h0, h1⟩ := timeB_yes ht
    simp only [dueL, tchL, ht, if_true]
    exact Due_ok w p c room gap L last lost now h h0 h1 hf
end

section
variable {w : World} {room B : Nat} {gap last lost : Int} {s : Value} {L : List Lt}
theorem rPut_any (tt : Int) (text : ByteArray) (h : Ow w B 62 4 s L.length (L.flatMap oc)) (hB : B ≤ w.heap.size) (hL : L.length ≤ room) (hr : room ≤ 256) (hl0 : 0 ≤ last) (hl1 : last ≤ 1000000) (hs0 : 0 ≤ lost) (hs1 : lost ≤ 1000000) :
    Calls Try.prog 8 #[PV room gap s last lost, .int .i64 tt, .string text] w fun e w' => ∃ s', e = .returned (.tuple #[PV room gap s' (putA room L last tt) (putO room L lost tt), .int .i64 (putN room L last tt), .int .i64 (putE room L tt)]) ∧ Ow w' B 62 4 s' (putL room L last tt text).length ((putL room L last tt text).flatMap oc) ∧ Below w.heap.size w w' := by
  cases ht : toB tt
  · simp only [putN, putE, putL, putA, putO, ht]
    exact (refPut_range w room gap last lost tt s text L h.sl (toB_no ht)).mono fun e w' ⟨he, hb⟩ => ⟨s, he, h.ext (Ext.ofB hb) (fun _ _ h => h), hb⟩
  · obtain ⟨h0, h1⟩ := toB_yes ht
    by_cases hf : L.length = room
    · simp only [putN, putE, putL, putA, putO, ht, if_pos hf, if_true]
      exact (refPut_full w room gap last lost tt s L text h0 h1 h.sl hs0 hs1 hf).mono fun e w' ⟨he, hb⟩ => ⟨s, he, h.ext (Ext.ofB hb) (fun _ _ h => h), hb⟩
    · simp only [putN, putE, putL, putA, putO, ht, if_neg hf, if_true]
      exact (refPut_room w room gap last lost tt s L text h0 h1 h.sl hl0 hl1 (by omega) hr).mono fun e w' ⟨s', he, ho, hb⟩ => ⟨s', he, by rw [List.length_append]; exact ho.rebase (fun k hk => Nat.le_trans hB (ho.lt k hk).1), hb⟩
theorem rDue_any (now : Int) (h : Ow w B 62 4 s L.length (L.flatMap oc)) (hB : B ≤ w.heap.size) (hL : L.length ≤ 256) (hf : Fine L) :
    Calls Try.prog 10 #[PV room gap s last lost, .int .i64 now] w fun e w' => ∃ s' v, e = .returned (.tuple #[PV room gap s' last lost, v]) ∧ Ow w' B 62 4 s' (tchL gap now L).length ((tchL gap now L).flatMap oc) ∧ Ow w' w.heap.size 53 3 v (dueL gap now L).length ((dueL gap now L).flatMap mc) ∧ Below w.heap.size w w' := by
  cases ht : timeB now
  · simp only [dueL, tchL, ht]
    exact (refDue_no w room gap last lost now s L h.sl ht).mono fun e w' ⟨he, hb⟩ => ⟨s, _, he, h.ext (Ext.ofB hb) (fun _ _ h => h), Ow.nil _ _ _ _, hb⟩
  · obtain ⟨h0, h1⟩ := timeB_yes ht
    simp only [dueL, tchL, ht, if_true]
    exact (refDue_ok w room gap last lost now s L h.sl hL h0 h1 hf).mono fun e w' ⟨s', v, he, hb, ho, hv⟩ => ⟨s', v, he, by rw [List.length_map]; exact ho.rebase (fun k hk => Nat.le_trans hB (ho.lt k hk).1), hv, hb⟩
theorem rDone_any (id : Int) (h : Ow w B 62 4 s L.length (L.flatMap oc)) (hB : B ≤ w.heap.size) (hL : L.length ≤ 256) :
    Calls Try.prog 13 #[PV room gap s last lost, .int .i64 id] w fun e w' => ∃ s', e = .returned (.tuple #[PV room gap s' last lost, .int .i64 (if (endOf L id).length = L.length then 3 else 0)]) ∧ Ow w' B 62 4 s' (endOf L id).length ((endOf L id).flatMap oc) ∧ Below w.heap.size w w' := by
  refine (refDone_ok w room gap last lost id s L h.sl hL).mono ?_
  rintro e w' ⟨s', he, hb, ho⟩
  refine ⟨s', he, ?_, hb⟩
  rcases ho with ⟨rfl, hq⟩ | ⟨_, ho⟩
  · rw [end_same hq]
    exact h.ext (Ext.ofB hb) (fun _ _ h => h)
  · exact ho.rebase (fun k hk => Nat.le_trans hB (ho.lt k hk).1)
end

theorem Done_y {w : World} {p c room : Nat} {gap last lost : Int} {L : List Lt} (id y : Int) (hy : y = if (endOf L id).length = L.length then 3 else 0) (h : PostAt w p c room gap L last lost) :
    Calls Try.prog 14 #[.pointer (some ⟨p, 0, none⟩), .int .i64 id] w fun e w' => e = .returned (.int .i64 y) ∧ PostAt w' p c room gap (endOf L id) last lost ∧ Ext (fun k => k = c) w w' := by
  subst hy
  exact Done_ok w p c room gap L last lost id h
theorem rDone_y {w : World} {room B : Nat} {gap last lost : Int} {s : Value} {L : List Lt} (id y : Int) (hy : y = if (endOf L id).length = L.length then 3 else 0) (h : Ow w B 62 4 s L.length (L.flatMap oc)) (hB : B ≤ w.heap.size) (hL : L.length ≤ 256) :
    Calls Try.prog 13 #[PV room gap s last lost, .int .i64 id] w fun e w' => ∃ s', e = .returned (.tuple #[PV room gap s' last lost, .int .i64 y]) ∧ Ow w' B 62 4 s' (endOf L id).length ((endOf L id).flatMap oc) ∧ Below w.heap.size w w' := by
  subst hy
  exact rDone_any id h hB hL

/-- What the loop keeps: W the world at the start, wr now; p, c the box; q the document's; s its list. -/
structure Two (W wr : World) (p c q room : Nat) (gap : Int) (L : List Lt) (last lost : Int) (s : Value) : Prop where
  post : PostAt wr p c room gap L last lost
  box : wr.heap[q]? = some (.cells #[.int .i64 room, .int .i64 gap, s, .int .i64 last, .int .i64 lost] 30 (0, 0))
  own : Ow wr (q + 1) 62 4 s L.length (L.flatMap oc)
  bel : Below W.heap.size W wr
  cW : W.heap.size ≤ c
  pW : W.heap.size ≤ p
  cq : c < q
  pq : p < q
  fine : Fine L
theorem Two.len {W wr : World} {p c q room : Nat} {gap : Int} {L : List Lt} {last lost : Int} {s : Value} (h : Two W wr p c q room gap L last lost s) : L.length ≤ room ∧ room ≤ 256 := ⟨h.post.box.1, h.post.cap0⟩

theorem post_below {w w' : World} {p c room : Nat} {gap last lost : Int} {L : List Lt} (h : PostAt w p c room gap L last lost) (hb : Below w.heap.size w w') : PostAt w' p c room gap L last lost :=
  ⟨(hb.block _ (lt_row h.blk)).trans h.blk, ⟨h.box.1, by obtain ⟨_, s, r, hc⟩ := h.box; exact ⟨s, r, (hb.block _ (lt_row hc)).trans hc⟩⟩, h.cap0⟩
theorem post_ext {S : Nat → Prop} {w w' : World} {p c room : Nat} {gap last lost : Int} {L : List Lt} (h : PostAt w p c room gap L last lost) (he : Ext S w w') (hp : ¬ S p) (hc : ¬ S c) : PostAt w' p c room gap L last lost :=
  ⟨he.blockOf h.blk hp, ⟨h.box.1, by obtain ⟨_, s, r, hb⟩ := h.box; exact ⟨s, r, he.blockOf hb hc⟩⟩, h.cap0⟩

/-- One round: the document's call (to w4), the program's (to w6), and the document's box set anew. -/
theorem Two.next {W wr w4 w5 w6 : World} {p c q room : Nat} {gap : Int} {L L' : List Lt} {last lost last' lost' : Int} {s s' : Value} (h : Two W wr p c q room gap L last lost s)
    (h4 : Below wr.heap.size wr w4) (ho : Ow w4 (q + 1) 62 4 s' L'.length (L'.flatMap oc)) (h5 : Below w4.heap.size w4 w5) (hE : Ext (fun k => k = c ∨ k = p) w5 w6) (hP : PostAt w6 p c room gap L' last' lost') (hf : Fine L') :
    Two W (set5 w6 q (.int .i64 room) (.int .i64 gap) s' (.int .i64 last') (.int .i64 lost')) p c q room gap L' last' lost' s' := by
  have hq := lt_row h.box
  have z4 := h4.size
  have z5 := h5.size
  have hcq := h.cq
  have hpq := h.pq
  have hbox4 := (h4.block _ hq).trans h.box
  have hbox5 := (h5.block _ (by omega)).trans hbox4
  have hbox6 := hE.blockOf hbox5 (fun e => by omega)
  have e7 : Ext (fun k => k = q) w6 (set5 w6 q (.int .i64 room) (.int .i64 gap) s' (.int .i64 last') (.int .i64 lost')) := set5_ext (S := fun k => k = q) (Ext.refl _ _) (.inl rfl) _ _ _ _ _
  have hlt := fun k hk => (ho.lt k hk).1
  refine ⟨post_ext hP e7 (fun e => by omega) (fun e => by omega), set5_row hbox6 _ _ _ _ _, ?_, ?_, h.cW, h.pW, h.cq, h.pq, hf⟩
  · exact ((ho.ext (Ext.ofB h5) (fun _ _ h => h)).ext hE (fun k hk e => by have := hlt k hk; omega)).ext e7 (fun k hk e => by have := hlt k hk; omega)
  · have := h.cW
    have := h.pW
    exact Bl.ext (Bl.ext (Bl.call (Bl.call h.bel h4) h5) hE (fun k hk e => by omega)) e7 (fun k hk e => by omega)

/-- Another world, of which the boxes know nothing. -/
theorem Two.same {W wr w' : World} {p c q room : Nat} {gap : Int} {L : List Lt} {last lost : Int} {s : Value} (h : Two W wr p c q room gap L last lost s) (hb : Below wr.heap.size wr w') : Two W w' p c q room gap L last lost s :=
  ⟨post_below h.post hb, (hb.block _ (lt_row h.box)).trans h.box, h.own.ext (Ext.ofB hb) (fun _ _ h => h), Bl.call h.bel hb, h.cW, h.pW, h.cq, h.pq, h.fine⟩
/-- All of a box have been told. -/
theorem Two.all {W wr w' : World} {p c q room : Nat} {gap : Int} {L : List Lt} {last lost : Int} {s : Value} (h : Two W wr p c q room gap L last lost s) (he : Ext (fun k => k = c) wr w') (hP : PostAt w' p c room gap L last lost) : Two W w' p c q room gap L last lost s :=
  ⟨hP, he.blockOf h.box (fun e => by have := h.cq; omega), h.own.ext he (fun k hk e => by have := (h.own.lt k hk).1; have := h.cq; omega), Bl.ext h.bel he (fun k hk e => by have := h.cW; omega), h.cW, h.pW, h.cq, h.pq, h.fine⟩
/-- The boxes are emptied. -/
theorem Two.clear {W wr w' : World} {p c q room : Nat} {gap : Int} {L : List Lt} {last lost : Int} {s : Value} (h : Two W wr p c q room gap L last lost s) (he : Ext (fun k => k = c) wr w') (hP : PostAt w' p c room gap [] last lost) : Two W (w'.setCell ⟨q, 2, none⟩ (.slice none 0 0)) p c q room gap [] last lost (.slice none 0 0) := by
  have hcq := h.cq
  have hpq := h.pq
  have hb := he.blockOf h.box (fun e => by omega)
  have e7 := Ext.set1 w' q 2 (.slice none 0 0)
  have := h.cW
  exact ⟨post_ext hP e7 (fun e => by omega) (fun e => by omega), heap_setCell_same hb _, Ow.nil _ _ _ _, Bl.ext (Bl.ext h.bel he (fun k hk e => by omega)) e7 (fun k hk e => by omega), h.cW, h.pW, h.cq, h.pq, fun x hx => by simp at hx⟩

/-- The acts: kind, number, text, time of each. -/
def actV (x : Int × Int × ByteArray × Int) : List Value := [.int .i64 x.1, .int .i64 x.2.1, .string x.2.2.1, .int .i64 x.2.2.2]
theorem act_cells {w : World} {a : Option Addr} {cap : Nat} {acts : List (Int × Int × ByteArray × Int)} (h : Sl w (.slice a acts.length cap) 4 acts.length (acts.flatMap actV)) :
    ∀ k x, acts[k]? = some x → ∃ ab ao, a = some ⟨ab, ao, none⟩ ∧ ab < w.heap.size ∧ ∀ (j : Nat) (u : Value), (#[.int .i64 x.1, .int .i64 x.2.1, .string x.2.2.1, .int .i64 x.2.2.2] : Array Value).toList[j]? = some u → w.cell? ⟨ab, ao + k * 4 + j, none⟩ = some u := by
  intro k x hx
  have hF : RowFn 4 actV := ⟨fun _ => rfl, fun x u hu => by simp [actV] at hu; rcases hu with rfl | rfl | rfl | rfl <;> rfl⟩
  obtain ⟨ab, ao, ha, hl, hc⟩ := row_cells hF (by omega) h hx
  exact ⟨ab, ao, ha, hl, hc⟩

end Go.Proofs.Ytadnldnmefhlcaa.PoM
