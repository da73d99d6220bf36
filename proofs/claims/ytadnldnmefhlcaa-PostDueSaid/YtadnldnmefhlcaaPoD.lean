/-
  WHAT IS PROVED: which mails of the document's box are due, and what the box holds then. Condition: what the theorem names.
-/
import Derived.Test.YtadnldnmefhlcaaPoC
namespace Go.Proofs.Ytadnldnmefhlcaa.PoD
open Go Go.RowKit Go.Shelf Go.Conc Go.Proofs.Ytadnldnmefhlcaa Go.Proofs.Ytadnldnmefhlcaa.PostA Go.Proofs.Ytadnldnmefhlcaa.PostF Go.Proofs.Ytadnldnmefhlcaa.PostN Go.Proofs.Ytadnldnmefhlcaa.PostQ Go.Proofs.Ytadnldnmefhlcaa.PostR Go.Proofs.Ytadnldnmefhlcaa.RowsX Go.Proofs.Ytadnldnmefhlcaa.Lift Go.Proofs.Ytadnldnmefhlcaa.Steps Go.Proofs.Ytadnldnmefhlcaa.PoA Go.Proofs.Ytadnldnmefhlcaa.PoB
set_option linter.unusedVariables false
set_option linter.unusedSimpArgs false
attribute [-go_sem] Builtin.append_

/-- A cell of a row of the call's own is set. -/
theorem own_set {w : World} {base : Nat} {e : TypeId} {size n cap : Nat} {a : Option Addr} {xs : List Value} (h : Ow w base e size (.slice a n cap) n xs) {j : Nat} (hj : j < n * size) :
    ∃ g, a = some ⟨g, 0, none⟩ ∧ base ≤ g ∧ g < w.heap.size ∧ w.cell? ⟨g, j, none⟩ = xs[j]? ∧ w.frozen? ⟨g, j, none⟩ = false ∧ ∀ u, Ow (w.setCell ⟨g, j, none⟩ u) base e size (.slice a n cap) n (xs.set j u) := by
  rcases h.2 with ⟨_, h0⟩ | ⟨g, cap', cur, fr, hv, hb, hg, hn, hm, hs, ht, hf⟩
  · rw [h0, Nat.zero_mul] at hj; omega
  · cases hv
    have hle : n * size ≤ cur.size := by rw [hs]; exact Nat.mul_le_mul_right _ hn
    refine ⟨g, rfl, hb, lt_row hg, ?_, ?_, fun u => ⟨by rw [List.length_set]; exact h.1, .inr ⟨g, cap, cur.setIfInBounds j u, fr, rfl, hb, ?_, hn, hm, by simp [hs], ?_, fun i hi => hf i (by simpa using hi)⟩⟩⟩
    · rw [cell_row hg, ← ht, List.getElem?_take, if_pos hj]
      simp
    · have := hf j (by omega)
      simp only [World.frozen?, hg]
      first | exact decide_eq_false this | (simp; omega)
    · exact heap_setCell_same hg u
    · rw [← ht]
      simp [List.take_set]

theorem flat_set {α : Type} {f : α → List Value} {size : Nat} (hf : ∀ x, (f x).length = size) : ∀ (l : List α) (k j : Nat) (x y : α) (u : Value), l[k]? = some x → j < size → f y = (f x).set j u → (l.flatMap f).set (k * size + j) u = (l.set k y).flatMap f
  | [], k, j, x, y, u, h, _, _ => by simp at h
  | z :: l, 0, j, x, y, u, h, hj, hy => by
    obtain rfl : z = x := by simpa using h
    rw [List.set_cons_zero, List.flatMap_cons, List.flatMap_cons, hy, Nat.zero_mul, Nat.zero_add, List.set_append_left _ _ (by rw [hf]; exact hj)]
  | z :: l, k + 1, j, x, y, u, h, hj, hy => by
    rw [List.set_cons_succ, List.flatMap_cons, List.flatMap_cons, ← flat_set hf l k j x y u (by simpa using h) hj hy, List.set_append_right _ _ (by rw [hf]; exact Nat.le_trans (by rw [Nat.add_mul]; omega) (Nat.le_add_right _ _)), hf]
    congr 2
    rw [Nat.add_mul, Nat.one_mul]
    omega

/-- The list when the first k have been asked. -/
def mixK (gap now : Int) (L : List Lt) (k : Nat) : List Lt := (L.take k).map (touch gap now) ++ L.drop k
theorem mix_len (gap now : Int) (L : List Lt) (k : Nat) (hk : k ≤ L.length) : (mixK gap now L k).length = L.length := by
  unfold mixK; simp; omega
theorem mix_get (gap now : Int) {L : List Lt} {k : Nat} {x : Lt} (hx : L[k]? = some x) : (mixK gap now L k)[k]? = some x := by
  have hk : k < L.length := (List.getElem?_eq_some_iff.1 hx).1
  unfold mixK
  rw [List.getElem?_append_right (by simp; omega)]
  simp [Nat.min_eq_left (Nat.le_of_lt hk), hx]
theorem mix_succ (gap now : Int) {L : List Lt} {k : Nat} {x : Lt} (hx : L[k]? = some x) : (mixK gap now L k).set k (touch gap now x) = mixK gap now L (k + 1) := by
  have hk : k < L.length := (List.getElem?_eq_some_iff.1 hx).1
  have hd : L.drop k = x :: L.drop (k + 1) := by rw [List.drop_eq_getElem_cons hk]; congr 1; exact (List.getElem?_eq_some_iff.1 hx).2
  have ht : L.take (k + 1) = L.take k ++ [x] := by rw [List.take_add_one, hx]; rfl
  have hl : ((L.take k).map (touch gap now)).length = k := by simp; omega
  unfold mixK
  rw [hd, ht, List.set_append_right _ _ (by omega), hl, Nat.sub_self, List.set_cons_zero, List.map_append, List.append_assoc]
  rfl
theorem mix_same (gap now : Int) {L : List Lt} {k : Nat} {x : Lt} (hx : L[k]? = some x) (h : dueB gap now x = false) : mixK gap now L (k + 1) = mixK gap now L k := by
  rw [← mix_succ gap now hx, touch_no h.symm]
  have hk : k < (mixK gap now L k).length := (List.getElem?_eq_some_iff.1 (mix_get gap now hx)).1
  have := (List.getElem?_eq_some_iff.1 (mix_get gap now hx)).2
  conv => lhs; rw [← this]
  exact List.set_getElem_self hk
theorem mix_all (gap now : Int) (L : List Lt) : mixK gap now L L.length = L.map (touch gap now) := by unfold mixK; simp
theorem dues_take_no {gap now : Int} {L : List Lt} {k : Nat} {x : Lt} (hx : L[k]? = some x) (h : dueB gap now x = false) : dues gap now (L.take (k + 1)) = dues gap now (L.take k) := by
  have ht : L.take (k + 1) = L.take k ++ [x] := by rw [List.take_add_one, hx]; rfl
  rw [ht]; simp [dues, h]
theorem dues_take_yes {gap now : Int} {L : List Lt} {k : Nat} {x : Lt} (hx : L[k]? = some x) (h : dueB gap now x = true) : dues gap now (L.take (k + 1)) = dues gap now (L.take k) ++ [x] := by
  have ht : L.take (k + 1) = L.take k ++ [x] := by rw [List.take_add_one, hx]; rfl
  rw [ht]; simp [dues, h]
theorem oc_touch {gap now : Int} {x : Lt} (h : dueB gap now x = true) : oc (touch gap now x) = (oc x).set 3 (.int .i64 now) := by
  rw [touch_yes h.symm]
  rfl

/-- What the document's Due answers. -/
def RefDue (w : World) (room gap last lost now : Int) (L : List Lt) (e : Ending) (w' : World) : Prop :=
  ∃ s' v, e = .returned (.tuple #[PV room gap s' last lost, v]) ∧ Below w.heap.size w w' ∧ Ow w' w.heap.size 62 4 s' L.length ((L.map (touch gap now)).flatMap oc) ∧ Ow w' w.heap.size 53 3 v (dues gap now L).length ((dues gap now L).flatMap mc)

theorem refDue_no (w : World) (room gap last lost now : Int) (s : Value) (L : List Lt) (hs : Sl w s 4 L.length (L.flatMap oc)) (h : timeB now = false) :
    Calls Try.prog 10 #[PV room gap s last lost, .int .i64 now] w fun e w' => e = .returned (.tuple #[PV room gap s last lost, .slice none 0 0]) ∧ Below w.heap.size w w' := by
  unfold PV
  obtain ⟨a, cap, rfl, hcap, hm⟩ := hs.form
  have hc : now < 0 ∨ (¬ now < 0 ∧ 1099511627776 < now) := by unfold timeB at h; simp at h; omega
  clear hs h
  rcases hc with h0 | ⟨h0, h1⟩
  · have d1 : decide (now < 0) = true := decide_eq_true h0
    go_enter Try.func10, Try.ntmps10
    go_wp2
    refine bodyPost_ret (v := .tuple #[.agg #[.int .i64 room, .int .i64 gap, .slice a L.length cap, .int .i64 last, .int .i64 lost], .slice none 0 0]) (by simp [results, Try.results10, go_sem, *]; done) rfl ⟨rfl, ?_⟩
    exact ((Below.refl _ w).alloc (Nat.le_refl _) _).alloc (by simp) _
  · have d1 : decide (now < 0) = false := decide_eq_false h0
    have d2 : decide (1099511627776 < now) = true := decide_eq_true h1
    go_enter Try.func10, Try.ntmps10
    go_wp2
    refine bodyPost_ret (v := .tuple #[.agg #[.int .i64 room, .int .i64 gap, .slice a L.length cap, .int .i64 last, .int .i64 lost], .slice none 0 0]) (by simp [results, Try.results10, go_sem, *]; done) rfl ⟨rfl, ?_⟩
    exact ((Below.refl _ w).alloc (Nat.le_refl _) _).alloc (by simp) _

set_option maxRecDepth 100000 in
set_option maxHeartbeats 8000000 in
theorem refDue_ok (w : World) (room gap last lost now : Int) (s : Value) (L : List Lt) (hs : Sl w s 4 L.length (L.flatMap oc)) (hL : L.length ≤ 256) (hn0 : 0 ≤ now) (hn1 : now ≤ 1099511627776) (hLs : ∀ x ∈ L, x.sent = true → 0 ≤ x.at' ∧ x.at' ≤ 1099511627776) :
    Calls Try.prog 10 #[PV room gap s last lost, .int .i64 now] w (RefDue w room gap last lost now L) := by
  unfold PV
  obtain ⟨a, cap, rfl, hcap, hm⟩ := hs.form
  have d1 : decide (now < 0) = false := decide_eq_false (by omega)
  have d2 : decide (1099511627776 < now) = false := decide_eq_false (by omega)
  obtain ⟨w1, hw1⟩ : ∃ w1, w1 = (w.alloc (.cells #[.int .i64 room, .int .i64 gap, .slice a L.length cap, .int .i64 last, .int .i64 lost] 30)).alloc (.cells #[.int .i64 0, .int .i64 0, .slice none 0 0, .int .i64 0, .int .i64 0] 30) := ⟨_, rfl⟩
  have hb1 : Below w.heap.size w w1 := by rw [hw1]; exact ((Below.refl _ _).alloc (Nat.le_refl _) _).alloc (by simp) _
  have HX1 := Lib.hid (show w1.heap[w.heap.size]? = some (.cells #[.int .i64 room, .int .i64 gap, .slice a L.length cap, .int .i64 last, .int .i64 lost] 30 (0, 0)) by rw [hw1]; exact heap_at (heap_new _ _) _)
  have HY1 := Lib.hid (show w1.heap[w.heap.size + 1]? = some (.cells #[.int .i64 0, .int .i64 0, .slice none 0 0, .int .i64 0, .int .i64 0] 30 (0, 0)) by rw [hw1]; exact heap_new' _ (by simp))
  have hz1 : w1.heap.size = w.heap.size + 2 := by rw [hw1]; simp
  have HS := Lib.hid (hs.below hb1)
  have HB1 := Lib.hid hb1
  have HW1 := Lib.hid hw1
  have HLS := Lib.hid hLs
  clear hs hb1 hw1 hLs
  go_enter Try.func10, Try.ntmps10
  go_wp2_with (at_builtin; rw [← HW1.out]; go_must (refine wpList_cloneR tyOne ocF HS.out rfl _ _ rfl (by rw [hz1]; rfl) rfl ?hl ?hb ?go))
  case hl => unfold maxLen; omega
  case hb => omega
  case go =>
  intro v2 w2 hA2
  obtain ⟨ca, cc, rfl, _, _⟩ := hA2.own.form
  have hx2 := (hA2.bel.block _ (by omega)).trans HX1.out
  have hy2 := (hA2.bel.block _ (by omega)).trans HY1.out
  have HA2 := Lib.hid hA2
  have HX2 := Lib.hid hx2
  have HY2 := Lib.hid hy2
  have hz2 := hA2.bel.size
  have HB2 := Lib.hid (HB1.out.trans (hA2.bel.mono HB1.out.size))
  obtain ⟨c2, f2⟩ := row_facts hx2
  clear hA2 hx2 hy2
  go_wp2
  obtain ⟨w3, hw3⟩ : ∃ w3, w3 = w2.setCell ⟨w.heap.size, 2, none⟩ (.slice ca L.length cc) := ⟨_, rfl⟩
  have HX3 := Lib.hid (show w3.heap[w.heap.size]? = some (.cells #[.int .i64 room, .int .i64 gap, .slice ca L.length cc, .int .i64 last, .int .i64 lost] 30 (0, 0)) by rw [hw3]; exact heap_setCell_same HX2.out _)
  have HY3 := Lib.hid (show w3.heap[w.heap.size + 1]? = some (.cells #[.int .i64 0, .int .i64 0, .slice none 0 0, .int .i64 0, .int .i64 0] 30 (0, 0)) by rw [hw3, heap_setCell_far _ (by omega)]; exact HY2.out)
  have HB3 := Lib.hid (show Below w.heap.size w w3 by rw [hw3]; exact HB2.out.setCell (p := ⟨w.heap.size, 2, none⟩) (Nat.le_refl _) _)
  have HC3 := Lib.hid (show Ow w3 (w.heap.size + 2) 62 4 (.slice ca L.length cc) L.length ((mixK gap now L 0).flatMap oc) by
    rw [hw3]
    exact (Ow.ext HA2.out.own (Ext.set1 w2 w.heap.size 2 _) (fun j hj e => by have := (Ow.lt HA2.out.own j hj).1; omega)).rebase (fun j hj => by have := (Ow.lt HA2.out.own j hj).1; omega))
  rw [← hw3]
  clear hw3 c2 f2 HX1 HY1 HX2 HY2 HA2 HB2 HW1
  go_loopw [6, 24] (fun b i wr => ∃ (v : Value) (k : Nat), b = v ∧ i = .int .i64 k ∧ k ≤ L.length ∧ Ow wr (w.heap.size + 2) 53 3 v (dues gap now (L.take k)).length ((dues gap now (L.take k)).flatMap mc) ∧ Ow wr (w.heap.size + 2) 62 4 (.slice ca L.length cc) L.length ((mixK gap now L k).flatMap oc) ∧ (∀ q, v.ownBlock = some q → (Value.slice ca L.length cc).ownBlock ≠ some q) ∧ wr.heap[w.heap.size]? = some (.cells #[.int .i64 room, .int .i64 gap, .slice ca L.length cc, .int .i64 last, .int .i64 lost] 30 (0, 0)) ∧ wr.heap[w.heap.size + 1]? = some (.cells #[.int .i64 0, .int .i64 0, .slice none 0 0, .int .i64 0, .int .i64 0] 30 (0, 0)) ∧ Below w.heap.size w wr) (fun _ i _ => L.length - (intOf i).toNat)
  case atStart => exact ⟨_, 0, rfl, rfl, by omega, Ow.nil _ _ _ _, HC3.out, fun q hq => by simp [Value.ownBlock] at hq, HX3.out, HY3.out, HB3.out⟩
  case round =>
    obtain ⟨v, k, rfl, rfl, hk, hV, hC, hap, hx3, hy3, hb3⟩ := hrel
    have lx := lt_row hx3
    have ly := lt_row hy3
    by_cases hlt : k < L.length
    · obtain ⟨x, hx⟩ : ∃ x, L[k]? = some x := ⟨_, List.getElem?_eq_getElem hlt⟩
      obtain ⟨g, rfl, hgb, hgl, hgc, hgf, _⟩ := own_set hC (j := k * 4 + 3) (by omega)
      have hsl : Sl wr (.slice (some ⟨g, 0, none⟩) (mixK gap now L k).length cc) 4 (mixK gap now L k).length ((mixK gap now L k).flatMap oc) := by rw [mix_len _ _ _ _ hk]; exact hC.sl
      obtain ⟨b', o', hbo, _, hc⟩ := row_cells ocF (by omega) hsl (mix_get gap now hx)
      cases hbo
      obtain ⟨T, hT⟩ : ∃ T, T = atOf x := ⟨_, rfl⟩
      have hc' : ∀ (j : Nat) (u : Value), (#[.int .i64 x.id, .int .i64 x.to, .string x.text, .int .i64 T] : Array Value).toList[j]? = some u → wr.cell? ⟨g, k * 4 + j, none⟩ = some u := fun j u hu => by
        rw [hT] at hu
        have := hc j u hu
        rw [Nat.zero_add] at this
        exact this
      have HT3 := Lib.hid (show ((mixK gap now L k).flatMap oc)[k * 4 + 3]? = some (.int .i64 T) by rw [hT]; exact flat_get oc 4 _ k 3 x ocF.len (mix_get gap now hx) (by omega))
      have hmem : x ∈ L := List.mem_of_getElem? hx
      have hbx := HLS.out x hmem
      have hqs : (T < 0 ∧ dueB gap now x = true) ∨ (0 ≤ T ∧ T ≤ 1099511627776 ∧ gap ≤ now - T ∧ dueB gap now x = true) ∨ (0 ≤ T ∧ T ≤ 1099511627776 ∧ ¬ gap ≤ now - T ∧ now < T ∧ dueB gap now x = true) ∨ (0 ≤ T ∧ T ≤ 1099511627776 ∧ ¬ gap ≤ now - T ∧ ¬ now < T ∧ dueB gap now x = false) := by
        rw [hT]
        unfold atOf dueB
        cases hsn : x.sent
        · left; simp
        · obtain ⟨q1, q2⟩ := hbx hsn
          simp only [if_true, Bool.not_true, Bool.false_or]
          by_cases h1 : gap ≤ now - x.at'
          · right; left; simp [h1]; omega
          · by_cases h2 : now < x.at'
            · right; right; left; simp [h1, h2]; omega
            · right; right; right; simp [h1, h2]; omega
      obtain ⟨va, vc, rfl, _, _⟩ := hV.form
      obtain ⟨n, hn⟩ : ∃ n, n = (dues gap now (L.take k)).length := ⟨_, rfl⟩
      have hnk : n ≤ k := by rw [hn]; unfold dues; exact Nat.le_trans (List.length_filter_le _ _) (by rw [List.length_take]; omega)
      rw [← hn] at hV hap ⊢
      have HV := Lib.hid hV
      have HC := Lib.hid hC
      have Hap := Lib.hid hap
      have HB := Lib.hid hb3
      have Hn := Lib.hid hn
      have Hx := Lib.hid hx
      have Hc := Lib.hid hc'
      obtain ⟨w4, hw4⟩ : ∃ w4, w4 = wr.alloc (.cells #[.int .i64 x.id, .int .i64 x.to, .string x.text, .int .i64 T] 62) := ⟨_, rfl⟩
      have hz4 : w4.heap.size = wr.heap.size + 1 := by rw [hw4]; simp
      have hX4 : w4.heap[wr.heap.size]? = some (.cells #[.int .i64 x.id, .int .i64 x.to, .string x.text, .int .i64 T] 62 (0, 0)) := by rw [hw4]; exact heap_new _ _
      obtain ⟨w5, hw5⟩ : ∃ w5, w5 = w4.alloc (.cells #[.int .i64 x.id, .int .i64 x.to, .string x.text] 53) := ⟨_, rfl⟩
      have hz5 : w5.heap.size = wr.heap.size + 2 := by rw [hw5]; simp; omega
      have hb4 : Below wr.heap.size wr w4 := by rw [hw4]; exact (Below.refl _ _).alloc (Nat.le_refl _) _
      have hb5 : Below wr.heap.size wr w5 := by rw [hw5]; exact hb4.alloc (by omega) _
      have HR5 := Lib.hid (show Src Try.prog 3 39 (.slice (some ⟨w4.heap.size, 0, none⟩) 1 1) 1 (mc x) w5 by rw [hw5]; exact row_new_src Try.underlying39 mcF w4 x #[.int .i64 x.id, .int .i64 x.to, .string x.text] rfl 53)
      have HV4 := Lib.hid (hV.ext (Ext.ofB hb4) (fun _ _ h => h))
      have HC4 := Lib.hid (hC.ext (Ext.ofB hb4) (fun _ _ h => h))
      have HV5 := Lib.hid (hV.ext (Ext.ofB hb5) (fun _ _ h => h))
      have HC5 := Lib.hid (hC.ext (Ext.ofB hb5) (fun _ _ h => h))
      have HX5 := Lib.hid ((hb5.block _ lx).trans hx3)
      have HY5 := Lib.hid ((hb5.block _ ly).trans hy3)
      have HX4' := Lib.hid ((hb4.block _ lx).trans hx3)
      have HY4' := Lib.hid ((hb4.block _ ly).trans hy3)
      have HB5 := Lib.hid (hb3.trans (hb5.mono hb3.size))
      have HB4 := Lib.hid (hb3.trans (hb4.mono hb3.size))
      have HW4 := Lib.hid hw4
      have HW5 := Lib.hid hw5
      obtain ⟨c3, f3⟩ := row_facts hx3
      have hne1 : ¬ w.heap.size = wr.heap.size := by omega
      have e1 : IntKind.i64.wrap (now - T) = now - T ∨ T < 0 := by by_cases h : T < 0; exact .inr h; left; rcases hqs with q | q | q | q <;> (rw [IntKind.wrap_i64]; omega)
      clear hV hC hap hb3 hn hx hc' hc hw4 hw5 hb4 hb5 hT hX4 hgc hgf hsl hbx hx3 hy3
      rcases hqs with ⟨q1, hd⟩ | ⟨q1, q2, q3, hd⟩ | ⟨q1, q2, q3, q4, hd⟩ | ⟨q1, q2, q3, q4, hd⟩
      · have Hd := Lib.hid hd
        have hqs := trivial
        have Hdy := Lib.hid (dues_take_yes Hx.out hd)
        have d3 : decide (T < 0) = true := decide_eq_true q1
        clear e1
        clear hqs hd
        go_wp2_with (first | (refine wpList_load_rowO rfl _ _ rfl g (k * 4) rfl #[.int .i64 x.id, .int .i64 x.to, .string x.text, .int .i64 T] Hc.out Try.underlying62 rfl (by kernel_rfl) ?_) | (at_builtin; rw [← HW4.out, ← HW5.out]; go_must (refine wpList_appF _ rfl _ _ _ _ rfl tyMail (w.heap.size + 2) (.slice va n vc) n ((dues gap now (L.take k)).flatMap mc) rfl HV5.out (.slice (some ⟨w4.heap.size, 0, none⟩) 1 1) 1 (mc x) (by rw [hz4]; rfl) HR5.out (n + 1) rfl ((dues gap now (L.take (k + 1))).flatMap mc) (by rw [Hdy.out]; simp) (by unfold maxLen; omega) (by omega) (by omega) ?go)))
        case go =>
        intro a6 c6 w6 hO6 hg6 hat6
        have hz6 := hg6.size
        have hne6 : ∀ q, q < w.heap.size + 2 → some q ≠ (Value.slice va n vc).ownBlock := fun q hq e => by have := (Ow.lt HV.out q e.symm).1; omega
        have hcl6 : Ow w6 (w.heap.size + 2) 62 4 (.slice (some ⟨g, 0, none⟩) L.length cc) L.length ((mixK gap now L k).flatMap oc) := HC5.out.ext (S := fun q => (Value.slice va n vc).ownBlock = some q) ((Ext.refl _ w5).grown hg6 (fun q h => .inl h)) (fun q hq h => Hap.out q h hq)
        have hap6 : ∀ q, (Value.slice a6 (n + 1) c6).ownBlock = some q → (Value.slice (some ⟨g, 0, none⟩) L.length cc).ownBlock ≠ some q := fun q hq e => by
          rcases hat6 with h | h
          · exact Hap.out q (h ▸ hq) e
          · rw [h] at hq
            simp only [Value.ownBlock, Option.some.injEq] at hq e
            omega
        have hx6 : w6.heap[w.heap.size]? = some (.cells #[.int .i64 room, .int .i64 gap, .slice (some ⟨g, 0, none⟩) L.length cc, .int .i64 last, .int .i64 lost] 30 (0, 0)) := (hg6.block _ (by omega) (hne6 _ (by omega))).trans HX5.out
        have hy6 : w6.heap[w.heap.size + 1]? = some (.cells #[.int .i64 0, .int .i64 0, .slice none 0 0, .int .i64 0, .int .i64 0] 30 (0, 0)) := (hg6.block _ (by omega) (hne6 _ (by omega))).trans HY5.out
        have hb6 : Below w.heap.size w w6 := HB5.out.grown hg6 HB5.out.size (fun q hq => by have := (Ow.lt HV.out q hq).1; omega)
        obtain ⟨g', hgg, hgb, hgl, hgc, hgf, hgs⟩ := own_set hcl6 (j := k * 4 + 3) (by omega)
        cases hgg
        have hgc2 : w6.cell? ⟨g, k * 4 + 3, none⟩ = some (.int .i64 T) := hgc.trans HT3.out
        have HO6 := Lib.hid hO6
        have HS6 := Lib.hid hgs
        have HX6 := Lib.hid hx6
        have HY6 := Lib.hid hy6
        have HB6 := Lib.hid hb6
        have Hap6 := Lib.hid hap6
        obtain ⟨c7, f7⟩ := row_facts hx6
        clear hO6 hg6 hne6 hcl6 hap6 hx6 hy6 hb6 hgs hgc hat6
        have i1 : (k : Int) < (L.length : Int) := by omega
        have i2 : ((k : Int)).toNat = k := by omega
        go_wp2
        obtain ⟨w7, hw7⟩ : ∃ w7, w7 = w6.setCell ⟨g, k * 4 + 3, none⟩ (.int .i64 now) := ⟨_, rfl⟩
        rw [← hw7]
        have HW7 := Lib.hid hw7
        clear hw7 c7 f7 hgc2 hgf
        go_roundw
        case rel =>
          refine ⟨_, k + 1, rfl, by go_num, by omega, ?_, ?_, Hap6.out, ?_, ?_, ?_⟩
          · rw [Hdy.out, List.length_append, ← Hn.out, HW7.out, ← Hdy.out]
            exact Ow.ext HO6.out (Ext.set1 w6 g (k * 4 + 3) _) (fun q hq e => Hap6.out q hq (by rw [e]; rfl))
          · rw [HW7.out, ← mix_succ gap now Hx.out, ← flat_set ocF.len (mixK gap now L k) k 3 x (touch gap now x) (.int .i64 now) (mix_get gap now Hx.out) (by omega) (oc_touch Hd.out)]
            exact HS6.out _
          · rw [HW7.out, heap_setCell_far _ (by omega)]
            exact HX6.out
          · rw [HW7.out, heap_setCell_far _ (by omega)]
            exact HY6.out
          · rw [HW7.out]
            exact HB6.out.setCell (p := ⟨g, k * 4 + 3, none⟩) (by show w.heap.size ≤ g; omega) _
        case measure => simp [intOf]; omega
      · have Hd := Lib.hid hd
        have hqs := trivial
        have Hdy := Lib.hid (dues_take_yes Hx.out hd)
        have d3 : decide (T < 0) = false := decide_eq_false (by omega)
        have d4 : decide (gap ≤ now - T) = true := decide_eq_true q3
        replace e1 : IntKind.i64.wrap (now - T) = now - T := e1.elim id (fun h => by omega)
        clear hqs hd
        go_wp2_with (first | (refine wpList_load_rowO rfl _ _ rfl g (k * 4) rfl #[.int .i64 x.id, .int .i64 x.to, .string x.text, .int .i64 T] Hc.out Try.underlying62 rfl (by kernel_rfl) ?_) | (at_builtin; rw [← HW4.out, ← HW5.out]; go_must (refine wpList_appF _ rfl _ _ _ _ rfl tyMail (w.heap.size + 2) (.slice va n vc) n ((dues gap now (L.take k)).flatMap mc) rfl HV5.out (.slice (some ⟨w4.heap.size, 0, none⟩) 1 1) 1 (mc x) (by rw [hz4]; rfl) HR5.out (n + 1) rfl ((dues gap now (L.take (k + 1))).flatMap mc) (by rw [Hdy.out]; simp) (by unfold maxLen; omega) (by omega) (by omega) ?go)))
        case go =>
        intro a6 c6 w6 hO6 hg6 hat6
        have hz6 := hg6.size
        have hne6 : ∀ q, q < w.heap.size + 2 → some q ≠ (Value.slice va n vc).ownBlock := fun q hq e => by have := (Ow.lt HV.out q e.symm).1; omega
        have hcl6 : Ow w6 (w.heap.size + 2) 62 4 (.slice (some ⟨g, 0, none⟩) L.length cc) L.length ((mixK gap now L k).flatMap oc) := HC5.out.ext (S := fun q => (Value.slice va n vc).ownBlock = some q) ((Ext.refl _ w5).grown hg6 (fun q h => .inl h)) (fun q hq h => Hap.out q h hq)
        have hap6 : ∀ q, (Value.slice a6 (n + 1) c6).ownBlock = some q → (Value.slice (some ⟨g, 0, none⟩) L.length cc).ownBlock ≠ some q := fun q hq e => by
          rcases hat6 with h | h
          · exact Hap.out q (h ▸ hq) e
          · rw [h] at hq
            simp only [Value.ownBlock, Option.some.injEq] at hq e
            omega
        have hx6 : w6.heap[w.heap.size]? = some (.cells #[.int .i64 room, .int .i64 gap, .slice (some ⟨g, 0, none⟩) L.length cc, .int .i64 last, .int .i64 lost] 30 (0, 0)) := (hg6.block _ (by omega) (hne6 _ (by omega))).trans HX5.out
        have hy6 : w6.heap[w.heap.size + 1]? = some (.cells #[.int .i64 0, .int .i64 0, .slice none 0 0, .int .i64 0, .int .i64 0] 30 (0, 0)) := (hg6.block _ (by omega) (hne6 _ (by omega))).trans HY5.out
        have hb6 : Below w.heap.size w w6 := HB5.out.grown hg6 HB5.out.size (fun q hq => by have := (Ow.lt HV.out q hq).1; omega)
        obtain ⟨g', hgg, hgb, hgl, hgc, hgf, hgs⟩ := own_set hcl6 (j := k * 4 + 3) (by omega)
        cases hgg
        have hgc2 : w6.cell? ⟨g, k * 4 + 3, none⟩ = some (.int .i64 T) := hgc.trans HT3.out
        have HO6 := Lib.hid hO6
        have HS6 := Lib.hid hgs
        have HX6 := Lib.hid hx6
        have HY6 := Lib.hid hy6
        have HB6 := Lib.hid hb6
        have Hap6 := Lib.hid hap6
        obtain ⟨c7, f7⟩ := row_facts hx6
        clear hO6 hg6 hne6 hcl6 hap6 hx6 hy6 hb6 hgs hgc hat6
        have i1 : (k : Int) < (L.length : Int) := by omega
        have i2 : ((k : Int)).toNat = k := by omega
        go_wp2
        obtain ⟨w7, hw7⟩ : ∃ w7, w7 = w6.setCell ⟨g, k * 4 + 3, none⟩ (.int .i64 now) := ⟨_, rfl⟩
        rw [← hw7]
        have HW7 := Lib.hid hw7
        clear hw7 c7 f7 hgc2 hgf
        go_roundw
        case rel =>
          refine ⟨_, k + 1, rfl, by go_num, by omega, ?_, ?_, Hap6.out, ?_, ?_, ?_⟩
          · rw [Hdy.out, List.length_append, ← Hn.out, HW7.out, ← Hdy.out]
            exact Ow.ext HO6.out (Ext.set1 w6 g (k * 4 + 3) _) (fun q hq e => Hap6.out q hq (by rw [e]; rfl))
          · rw [HW7.out, ← mix_succ gap now Hx.out, ← flat_set ocF.len (mixK gap now L k) k 3 x (touch gap now x) (.int .i64 now) (mix_get gap now Hx.out) (by omega) (oc_touch Hd.out)]
            exact HS6.out _
          · rw [HW7.out, heap_setCell_far _ (by omega)]
            exact HX6.out
          · rw [HW7.out, heap_setCell_far _ (by omega)]
            exact HY6.out
          · rw [HW7.out]
            exact HB6.out.setCell (p := ⟨g, k * 4 + 3, none⟩) (by show w.heap.size ≤ g; omega) _
        case measure => simp [intOf]; omega
      · have Hd := Lib.hid hd
        have hqs := trivial
        have Hdy := Lib.hid (dues_take_yes Hx.out hd)
        have d3 : decide (T < 0) = false := decide_eq_false (by omega)
        have d4 : decide (gap ≤ now - T) = false := decide_eq_false q3
        have d5 : decide (now < T) = true := decide_eq_true q4
        replace e1 : IntKind.i64.wrap (now - T) = now - T := e1.elim id (fun h => by omega)
        clear hqs hd
        go_wp2_with (first | (refine wpList_load_rowO rfl _ _ rfl g (k * 4) rfl #[.int .i64 x.id, .int .i64 x.to, .string x.text, .int .i64 T] Hc.out Try.underlying62 rfl (by kernel_rfl) ?_) | (at_builtin; rw [← HW4.out, ← HW5.out]; go_must (refine wpList_appF _ rfl _ _ _ _ rfl tyMail (w.heap.size + 2) (.slice va n vc) n ((dues gap now (L.take k)).flatMap mc) rfl HV5.out (.slice (some ⟨w4.heap.size, 0, none⟩) 1 1) 1 (mc x) (by rw [hz4]; rfl) HR5.out (n + 1) rfl ((dues gap now (L.take (k + 1))).flatMap mc) (by rw [Hdy.out]; simp) (by unfold maxLen; omega) (by omega) (by omega) ?go)))
        case go =>
        intro a6 c6 w6 hO6 hg6 hat6
        have hz6 := hg6.size
        have hne6 : ∀ q, q < w.heap.size + 2 → some q ≠ (Value.slice va n vc).ownBlock := fun q hq e => by have := (Ow.lt HV.out q e.symm).1; omega
        have hcl6 : Ow w6 (w.heap.size + 2) 62 4 (.slice (some ⟨g, 0, none⟩) L.length cc) L.length ((mixK gap now L k).flatMap oc) := HC5.out.ext (S := fun q => (Value.slice va n vc).ownBlock = some q) ((Ext.refl _ w5).grown hg6 (fun q h => .inl h)) (fun q hq h => Hap.out q h hq)
        have hap6 : ∀ q, (Value.slice a6 (n + 1) c6).ownBlock = some q → (Value.slice (some ⟨g, 0, none⟩) L.length cc).ownBlock ≠ some q := fun q hq e => by
          rcases hat6 with h | h
          · exact Hap.out q (h ▸ hq) e
          · rw [h] at hq
            simp only [Value.ownBlock, Option.some.injEq] at hq e
            omega
        have hx6 : w6.heap[w.heap.size]? = some (.cells #[.int .i64 room, .int .i64 gap, .slice (some ⟨g, 0, none⟩) L.length cc, .int .i64 last, .int .i64 lost] 30 (0, 0)) := (hg6.block _ (by omega) (hne6 _ (by omega))).trans HX5.out
        have hy6 : w6.heap[w.heap.size + 1]? = some (.cells #[.int .i64 0, .int .i64 0, .slice none 0 0, .int .i64 0, .int .i64 0] 30 (0, 0)) := (hg6.block _ (by omega) (hne6 _ (by omega))).trans HY5.out
        have hb6 : Below w.heap.size w w6 := HB5.out.grown hg6 HB5.out.size (fun q hq => by have := (Ow.lt HV.out q hq).1; omega)
        obtain ⟨g', hgg, hgb, hgl, hgc, hgf, hgs⟩ := own_set hcl6 (j := k * 4 + 3) (by omega)
        cases hgg
        have hgc2 : w6.cell? ⟨g, k * 4 + 3, none⟩ = some (.int .i64 T) := hgc.trans HT3.out
        have HO6 := Lib.hid hO6
        have HS6 := Lib.hid hgs
        have HX6 := Lib.hid hx6
        have HY6 := Lib.hid hy6
        have HB6 := Lib.hid hb6
        have Hap6 := Lib.hid hap6
        obtain ⟨c7, f7⟩ := row_facts hx6
        clear hO6 hg6 hne6 hcl6 hap6 hx6 hy6 hb6 hgs hgc hat6
        have i1 : (k : Int) < (L.length : Int) := by omega
        have i2 : ((k : Int)).toNat = k := by omega
        go_wp2
        obtain ⟨w7, hw7⟩ : ∃ w7, w7 = w6.setCell ⟨g, k * 4 + 3, none⟩ (.int .i64 now) := ⟨_, rfl⟩
        rw [← hw7]
        have HW7 := Lib.hid hw7
        clear hw7 c7 f7 hgc2 hgf
        go_roundw
        case rel =>
          refine ⟨_, k + 1, rfl, by go_num, by omega, ?_, ?_, Hap6.out, ?_, ?_, ?_⟩
          · rw [Hdy.out, List.length_append, ← Hn.out, HW7.out, ← Hdy.out]
            exact Ow.ext HO6.out (Ext.set1 w6 g (k * 4 + 3) _) (fun q hq e => Hap6.out q hq (by rw [e]; rfl))
          · rw [HW7.out, ← mix_succ gap now Hx.out, ← flat_set ocF.len (mixK gap now L k) k 3 x (touch gap now x) (.int .i64 now) (mix_get gap now Hx.out) (by omega) (oc_touch Hd.out)]
            exact HS6.out _
          · rw [HW7.out, heap_setCell_far _ (by omega)]
            exact HX6.out
          · rw [HW7.out, heap_setCell_far _ (by omega)]
            exact HY6.out
          · rw [HW7.out]
            exact HB6.out.setCell (p := ⟨g, k * 4 + 3, none⟩) (by show w.heap.size ≤ g; omega) _
        case measure => simp [intOf]; omega
      · have Hd := Lib.hid hd
        have Hdn := Lib.hid (dues_take_no Hx.out hd)
        have Hmn := Lib.hid (mix_same gap now Hx.out hd)
        have d3 : decide (T < 0) = false := decide_eq_false (by omega)
        have d4 : decide (gap ≤ now - T) = false := decide_eq_false q3
        have d5 : decide (now < T) = false := decide_eq_false q4
        replace e1 : IntKind.i64.wrap (now - T) = now - T := e1.elim id (fun h => by omega)
        clear hd
        go_wp2_with (first | (refine wpList_load_rowO rfl _ _ rfl g (k * 4) rfl #[.int .i64 x.id, .int .i64 x.to, .string x.text, .int .i64 T] Hc.out Try.underlying62 rfl (by kernel_rfl) ?_) | fail)
        rw [← HW4.out]
        go_roundw
        case rel => exact ⟨_, k + 1, rfl, by go_num, by omega, by rw [Hdn.out, ← Hn.out]; exact HV4.out, by rw [Hmn.out]; exact HC4.out, Hap.out, HX4'.out, HY4'.out, HB4.out⟩
        case measure => simp [intOf]; omega
    · obtain rfl : k = L.length := by omega
      rw [List.take_length] at hV
      rw [mix_all] at hC
      have HV := Lib.hid hV
      have HC := Lib.hid hC
      have HX := Lib.hid hx3
      have HY := Lib.hid hy3
      have HB := Lib.hid hb3
      obtain ⟨c3, f3⟩ := row_facts hx3
      obtain ⟨c4, f4⟩ := row_facts hy3
      clear hV hC hap hx3 hy3 hb3
      go_wp2
      change bodyPost _ _ _ _ _ (set5 wr (w.heap.size + 1) (.int .i64 room) (.int .i64 gap) (.slice ca L.length cc) (.int .i64 last) (.int .i64 lost))
      obtain ⟨wF, hwF⟩ : ∃ x, x = set5 wr (w.heap.size + 1) (.int .i64 room) (.int .i64 gap) (.slice ca L.length cc) (.int .i64 last) (.int .i64 lost) := ⟨_, rfl⟩
      rw [← hwF]
      have hF : wF.heap[w.heap.size + 1]? = some (.cells #[.int .i64 room, .int .i64 gap, .slice ca L.length cc, .int .i64 last, .int .i64 lost] 30 (0, 0)) := by rw [hwF]; exact set5_row HY.out _ _ _ _ _
      have hEF : Ext (fun k => k = w.heap.size + 1) wr wF := by rw [hwF]; exact set5_ext (S := fun k => k = w.heap.size + 1) (Ext.refl _ wr) (.inl rfl) _ _ _ _ _
      have HEF := Lib.hid hEF
      obtain ⟨cF, fF⟩ := row_facts hF
      clear hwF hEF c3 f3 c4 f4
      refine bodyPost_ret (v := .tuple #[.agg #[.int .i64 room, .int .i64 gap, .slice ca L.length cc, .int .i64 last, .int .i64 lost], u6]) (by simp [results, Try.results10, go_sem, *]; done) rfl ⟨.slice ca L.length cc, _, rfl, Bl.ext HB.out HEF.out (fun k hk e => by omega), ?_, ?_⟩
      · exact (Ow.ext HC.out HEF.out (fun j hj e => by have := (Ow.lt HC.out j hj).1; omega)).rebase (fun j hj => by have := (Ow.lt HC.out j hj).1; omega)
      · exact (Ow.ext HV.out HEF.out (fun j hj e => by have := (Ow.lt HV.out j hj).1; omega)).rebase (fun j hj => by have := (Ow.lt HV.out j hj).1; omega)

end Go.Proofs.Ytadnldnmefhlcaa.PoD
