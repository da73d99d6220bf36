/-
  WHAT IS PROVED: the statement's function that asks whether two events of one content are one answers true. Condition: the variables hold what 'VarsR' says, the strings are not longer than the theorem says, and the kinds are numbers of eight bits.
-/
import Derived.Test.YtfodloepkgkilaaDoorRedStableW
import Derived.Test.YtfodloepkgkilaaDoorR3A
namespace Go.Proofs.YtfodloepkgkilaaDoor.RedApartW
open Go Go.RowKit Go.Proofs.YtfodloepkgkilaaDoor Go.Proofs.YtfodloepkgkilaaDoor.OctetS Go.Proofs.YtfodloepkgkilaaDoor.IdentS Go.Proofs.YtfodloepkgkilaaDoor.EventS Go.Proofs.YtfodloepkgkilaaDoor.OctP Go.Proofs.YtfodloepkgkilaaDoor.IdentP Go.Proofs.YtfodloepkgkilaaDoor.EventP Go.Proofs.YtfodloepkgkilaaDoor.EventC Go.Proofs.YtfodloepkgkilaaDoor.EventB Go.Proofs.YtfodloepkgkilaaDoor.EventR Go.Proofs.YtfodloepkgkilaaDoor.ShaB Go.Proofs.YtfodloepkgkilaaDoor.ShaA Go.Proofs.YtfodloepkgkilaaDoor.Steps Go.Proofs.YtfodloepkgkilaaDoor.RedactS Go.Proofs.YtfodloepkgkilaaDoor.RedA Go.Proofs.YtfodloepkgkilaaDoor.RedB Go.Proofs.YtfodloepkgkilaaDoor.EqHash Go.Proofs.YtfodloepkgkilaaDoor.RedL Go.Proofs.YtfodloepkgkilaaDoor.RedStableW
set_option linter.unusedVariables false
set_option linter.unusedSimpArgs false

/-- The answer of '==' on two events. -/
def evEq (r s : ByteArray) (k : Int) (ky b : ByteArray) (n : Int) (r' s' : ByteArray) (k' : Int) (ky' b' : ByteArray) (n' : Int) : Bool :=
  r.toList == r'.toList && (s.toList == s'.toList && (k == k' && (ky.toList == ky'.toList && (b.toList == b'.toList && n == n'))))
theorem eqEv (r s ky b r' s' ky' b' : ByteArray) (k n k' n' : Int) (w : World) : (Op.equalIn 10000 36 (.agg #[.string r, .string s, .int .u8 k, .string ky, .string b, .int .i64 n]) (.agg #[.string r', .string s', .int .u8 k', .string ky', .string b', .int .i64 n'])).run Tryd.prog w = .ok (evEq r s k ky b n r' s' k' ky' b' n') w := EqEvent.eqEvent ..
theorem evEq_no {r s : ByteArray} {k : Int} {ky b : ByteArray} {n : Int} {r' s' : ByteArray} {k' : Int} {ky' b' : ByteArray} {n' : Int} (h : evEq r s k ky b n r' s' k' ky' b' n' = false) : evOf r s k ky b n ≠ evOf r' s' k' ky' b' n' := by
  intro e
  unfold evOf at e
  simp only [Ev.mk.injEq] at e
  obtain ⟨e1, e2, e3, e4, e5, e6⟩ := e
  unfold evEq at h
  simp only [bl_toList] at h
  rw [e1, e2, e3, e4, e5, e6] at h
  simp at h
attribute [local go_sem] eqEv eqHash
attribute [-go_sem] run_equalIn_agg

theorem allV_cases (x : Ev) : (∃ (l : List UInt8), l.length ≤ 32 ∧ allV x = .tuple #[.agg (pB 32 l), .int .i64 2] ∧ checkB x = false) ∨ (allV x = .tuple #[.agg (pB 32 (allSum x)), .int .i64 0] ∧ checkB x = true) := by
  unfold allV hV
  cases h : checkB x
  · exact .inl ⟨[], by simp, rfl, rfl⟩
  · exact .inr ⟨rfl, rfl⟩
theorem bl_txt {x : Ev} (h : checkB x = true) : bl (R3A.txt ⟨#[7]⟩ x) = 7 :: EventS.bytes x := by
  unfold R3A.txt
  rw [if_pos h, bl_append, bl_bsOf]
  rfl

/-- What the two sums may be. -/
def Both (x y : Ev) (lA : List UInt8) (E : Int) (lB : List UInt8) (F : Int) (q : Bool) : Prop :=
  E = 2 ∨ (E = 0 ∧ F = 2) ∨ (E = 0 ∧ F = 0 ∧ hEq lA lB = false) ∨ (E = 0 ∧ F = 0 ∧ hEq lA lB = true ∧ q = true) ∨
  (E = 0 ∧ F = 0 ∧ hEq lA lB = true ∧ q = false ∧ ((R3A.txt ⟨#[7]⟩ x).toList == (R3A.txt ⟨#[7]⟩ y).toList) = false ∧ ShaS.sum (bl (R3A.txt ⟨#[7]⟩ x)) = lA ∧ ShaS.sum (bl (R3A.txt ⟨#[7]⟩ y)) = lA)
theorem both (x y : Ev) (q : Bool) (hq : q = false → x ≠ y) : ∃ (lA : List UInt8) (E : Int) (lB : List UInt8) (F : Int), lA.length ≤ 32 ∧ lB.length ≤ 32 ∧ allV x = .tuple #[.agg (pB 32 lA), .int .i64 E] ∧ allV y = .tuple #[.agg (pB 32 lB), .int .i64 F] ∧ Both x y lA E lB F q := by
  have hx := allV_cases x
  have hy := allV_cases y
  rcases hx with ⟨l, h1, h2, h3⟩ | ⟨h2, h3⟩
  · rcases hy with ⟨l', h1', h2', h3'⟩ | ⟨h2', h3'⟩
    · exact ⟨_, _, _, _, h1, h1', h2, h2', .inl rfl⟩
    · exact ⟨_, _, _, _, h1, Nat.le_of_eq (allSum_length _), h2, h2', .inl rfl⟩
  · rcases hy with ⟨l', h1', h2', h3'⟩ | ⟨h2', h3'⟩
    · exact ⟨_, _, _, _, Nat.le_of_eq (allSum_length _), h1', h2, h2', .inr (.inl ⟨rfl, rfl⟩)⟩
    · have ha : ShaS.sum (bl (R3A.txt ⟨#[7]⟩ x)) = allSum x := by rw [bl_txt h3]; unfold allSum; exact congrArg ShaS.sum rfl
      have hb : ShaS.sum (bl (R3A.txt ⟨#[7]⟩ y)) = allSum y := by rw [bl_txt h3']; unfold allSum; exact congrArg ShaS.sum rfl
      have hla := allSum_length x
      have hlb := allSum_length y
      have hne : q = false → ((R3A.txt ⟨#[7]⟩ x).toList == (R3A.txt ⟨#[7]⟩ y).toList) = false := fun h => by
        rw [bl_toList, bl_toList, bl_txt h3, bl_txt h3', beq_eq_false_iff_ne]
        exact text_apart (check_iff.1 h3) (check_iff.1 h3') (hq h)
      unfold Both
      generalize allSum x = sx at *
      generalize allSum y = sy at *
      generalize R3A.txt ⟨#[7]⟩ x = tx at *
      generalize R3A.txt ⟨#[7]⟩ y = ty at *
      refine ⟨sx, 0, sy, 0, Nat.le_of_eq hla, Nat.le_of_eq hlb, h2, h2', ?_⟩
      cases he : hEq sx sy
      · exact .inr (.inr (.inl ⟨rfl, rfl, rfl⟩))
      · cases q
        · have heq : sx = sy := (hEq_iff hla hlb).1 he
          exact .inr (.inr (.inr (.inr ⟨rfl, rfl, rfl, rfl, hne rfl, ha, hb.trans heq.symm⟩)))
        · exact .inr (.inr (.inr (.inl ⟨rfl, rfl, rfl, rfl⟩)))

/-- A row is loaded, where its guard says so. -/
theorem wpList_load_rowG {P : Program} {ops : Array Oper} {rest : List Oper} {o : Oper} {a : Act} {w : World} {Q : Exit → Act → World → Prop} (hw : Region.wanted o (yielded ops a.tmps) = true) (ty : TypeId) (x : Operand) (ho : o.op = .load ty x)
    (g : Nat) (hx : a.eval x = .pointer (some ⟨g, 0, none⟩)) (t : TypeId) (cs : Array Value) (fr : Nat × Nat) (d : TypeDesc) (hg : w.heap[g]? = some (.cells cs t fr))
    (hu : P.underlying ty = some d) (hd : (match d with | .struct _ | .array _ _ => true | _ => false) = true) (hi : (P.info? ty).map (·.size) = some cs.size)
    (h : wpList P ops Q rest (a.put o.dst (.agg cs)) w) : wpList P ops Q (o :: rest) a w := by
  unfold wpList
  rw [if_pos hw]
  exact .inl (wp_load_row ty x ho g hx t cs fr d hg hu hd hi h)

set_option maxRecDepth 100000 in
set_option maxHeartbeats 4000000 in
theorem apart_ok (w : World) (hv : VarsR w) (r s : ByteArray) (k : Int) (ky b : ByteArray) (n : Int) (r' s' : ByteArray) (k' : Int) (ky' b' : ByteArray) (n' : Int) (h0 : 0 ≤ k) (h1 : k ≤ 255) (hr : r.size ≤ 140737488351232) (hs : s.size ≤ 140737488351232) (hk : ky.size ≤ 140737488351232) (hb : b.size ≤ maxLen) (h0' : 0 ≤ k') (h1' : k' ≤ 255) (hr' : r'.size ≤ 140737488351232) (hs' : s'.size ≤ 140737488351232) (hk' : ky'.size ≤ 140737488351232) (hb' : b'.size ≤ maxLen) :
    Calls Tryd.prog 7 #[evV r s k ky b n, evV r' s' k' ky' b' n'] w (RB (.bool true) w) := by
  have g1 := fun w hv => Content_ok w r s k ky b n hv hr hs hk hb
  have g2 := fun w hv => Content_ok w r' s' k' ky' b' n' hv hr' hs' hk' hb'
  have g3 := fun w => R3A.Text_ok w ⟨#[7]⟩ (by decide) r s k ky b n h0 h1 hr hs hk hb
  have g4 := fun w => R3A.Text_ok w ⟨#[7]⟩ (by decide) r' s' k' ky' b' n' h0' h1' hr' hs' hk' hb'
  have g5 := fun w => R2M.Sum_ok w (R3A.txt ⟨#[7]⟩ (evOf r s k ky b n)) (by have := R3A.txt_size ⟨#[7]⟩ (by decide) (evOf r s k ky b n); omega)
  have g6 := fun w => R2M.Sum_ok w (R3A.txt ⟨#[7]⟩ (evOf r' s' k' ky' b' n')) (by have := R3A.txt_size ⟨#[7]⟩ (by decide) (evOf r' s' k' ky' b' n'); omega)
  obtain ⟨q, hq⟩ : ∃ q, q = evEq r s k ky b n r' s' k' ky' b' n' := ⟨_, rfl⟩
  obtain ⟨lA, E, lB, F, hlA, hlB, hE, hF, hBoth⟩ := both (evOf r s k ky b n) (evOf r' s' k' ky' b' n') q (fun h => evEq_no (hq.symm.trans h))
  rw [hE] at g1
  rw [hF] at g2
  unfold Both at hBoth
  obtain ⟨S, hS⟩ : ∃ S, S = R3A.txt ⟨#[7]⟩ (evOf r s k ky b n) := ⟨_, rfl⟩
  obtain ⟨T, hT⟩ : ∃ T, T = R3A.txt ⟨#[7]⟩ (evOf r' s' k' ky' b' n') := ⟨_, rfl⟩
  rw [← hS] at g3 g5 hBoth
  rw [← hT] at g4 g6 hBoth
  have hG := EqEvent.guardEvent
  have hGH := guardHash
  have hself := hEq_self lA
  obtain ⟨w0, hw0⟩ : ∃ w0, w0 = (w.alloc (.cells #[.string r, .string s, .int .u8 k, .string ky, .string b, .int .i64 n] 36)).alloc (.cells #[.string r', .string s', .int .u8 k', .string ky', .string b', .int .i64 n'] 36) := ⟨_, rfl⟩
  have hB0 : Below w.heap.size w w0 := by rw [hw0]; exact ((Below.refl _ w).alloc (Nat.le_refl _) _).alloc (by simp) _
  have hx0 : w0.heap[w.heap.size]? = some (.cells #[.string r, .string s, .int .u8 k, .string ky, .string b, .int .i64 n] 36 (0, 0)) := by rw [hw0]; exact heap_at (heap_new _ _) _
  have hy0 : w0.heap[w.heap.size + 1]? = some (.cells #[.string r', .string s', .int .u8 k', .string ky', .string b', .int .i64 n'] 36 (0, 0)) := by rw [hw0]; exact heap_new' _ (by simp)
  have HV0 := Lib.hid (hv.below hB0)
  have HB0 := Lib.hid hB0
  have Hw0 := Lib.hid hw0
  unfold evV at *
  have hi : (Tryd.prog.info? 38).map (·.size) = some 32 := by kernel_rfl
  have HIslA := Lib.hid (show (Tryd.prog.info? 38).map (·.size) = some (pB 32 lA).size by rw [pB_size hlA]; exact hi)
  have HIslB := Lib.hid (show (Tryd.prog.info? 38).map (·.size) = some (pB 32 lB).size by rw [pB_size hlB]; exact hi)
  have HLlA := Lib.hid hlA
  have HLlB := Lib.hid hlB
  have H1 := Lib.hid g1
  have H2 := Lib.hid g2
  have H3 := Lib.hid g3
  have H4 := Lib.hid g4
  have H5 := Lib.hid g5
  have H6 := Lib.hid g6
  have Hq := Lib.hid hq
  have HBoth := Lib.hid hBoth
  clear g1 g2 g3 g4 g5 g6 hi hE hF hlA hlB hv hB0 hw0 hr hs hk hb h0 h1 hr' hs' hk' hb' h0' h1' hq hBoth hS hT
  go_enter Tryd.func7, Tryd.ntmps7
  go_wp2_with fail
  rw [show (w.alloc (.cells #[.string r, .string s, .int .u8 k, .string ky, .string b, .int .i64 n] 36)).alloc (.cells #[.string r', .string s', .int .u8 k', .string ky', .string b', .int .i64 n'] 36) = w0 from Hw0.out.symm]
  refine (lives_ok w0 HV0.out).mono ?_
  rintro e w1 ⟨rfl, hb⟩
  have HV1 := Lib.hid (HV0.out.below hb)
  have HB1 := Lib.hid (HB0.out.trans (hb.mono HB0.out.size))
  have hx1 := (hb.block _ (lt_row hx0)).trans hx0
  have hy1 := (hb.block _ (lt_row hy0)).trans hy0
  clear hb hx0 hy0
  obtain ⟨hc1, hf1⟩ := row_facts hx1
  obtain ⟨hd1, hg1⟩ := row_facts hy1
  have hl1 := lt_row hx1
  have hm1 := lt_row hy1
  go_wp2_with fail
  refine (H1.out w1 HV1.out).mono ?_
  rintro e w2 ⟨rfl, hb⟩
  have HV2 := Lib.hid (HV1.out.below hb)
  have HB2 := Lib.hid (HB1.out.trans (hb.mono HB1.out.size))
  have hx2 := (hb.block _ (lt_row hx1)).trans hx1
  have hy2 := (hb.block _ (lt_row hy1)).trans hy1
  clear hb hc1 hf1 hd1 hg1 hx1 hy1
  go_wp2_with (refine wpList_store_rowA rfl _ _ _ rfl w2.heap.size (pB 32 lA) rfl rfl _ _ (heap_new _ _) HIslA.out (by rw [pB_size HLlA.out]; rfl) (pB_one _ _) ?_)
  intro w3 hw3
  obtain ⟨hb3, hr3⟩ := row_new hw3
  have HV3 := Lib.hid (HV2.out.below hb3)
  have HB3 := Lib.hid (HB2.out.trans (hb3.mono HB2.out.size))
  have hx3 := (hb3.block _ (lt_row hx2)).trans hx2
  have hy3 := (hb3.block _ (lt_row hy2)).trans hy2
  have ar3 := hr3
  clear hb3 hr3 hw3 hx2 hy2
  obtain ⟨hc3, hf3⟩ := row_facts hx3
  obtain ⟨hd3, hg3⟩ := row_facts hy3
  have hl3 := lt_row hx3
  have hm3 := lt_row hy3
  go_wp2_with fail
  refine (H2.out w3 HV3.out).mono ?_
  rintro e w4 ⟨rfl, hb⟩
  have HV4 := Lib.hid (HV3.out.below hb)
  have HB4 := Lib.hid (HB3.out.trans (hb.mono HB3.out.size))
  have hx4 := (hb.block _ (lt_row hx3)).trans hx3
  have hy4 := (hb.block _ (lt_row hy3)).trans hy3
  have ar4 := (hb.block _ (lt_row ar3)).trans ar3
  clear hb hc3 hf3 hd3 hg3 hx3 hy3 ar3
  go_wp2_with (refine wpList_store_rowA rfl _ _ _ rfl w4.heap.size (pB 32 lB) rfl rfl _ _ (heap_new _ _) HIslB.out (by rw [pB_size HLlB.out]; rfl) (pB_one _ _) ?_)
  intro w5 hw5
  obtain ⟨hb5, hr5⟩ := row_new hw5
  have HV5 := Lib.hid (HV4.out.below hb5)
  have HB5 := Lib.hid (HB4.out.trans (hb5.mono HB4.out.size))
  have hx5 := (hb5.block _ (lt_row hx4)).trans hx4
  have hy5 := (hb5.block _ (lt_row hy4)).trans hy4
  have ar5 := (hb5.block _ (lt_row ar4)).trans ar4
  have br5 := hr5
  clear hb5 hr5 hw5 hx4 hy4 ar4
  have hl5 := lt_row hx5
  have hm5 := lt_row hy5
  have ha5 := lt_row ar5
  have hb5 := lt_row br5
  obtain ⟨hc5, hf5⟩ := row_facts hx5
  obtain ⟨hd5, hg5⟩ := row_facts hy5
  rcases HBoth.out with rfl | ⟨rfl, rfl⟩ | ⟨rfl, rfl, he⟩ | ⟨rfl, rfl, he, hqq⟩ | ⟨rfl, rfl, he, hqq, hne, hsA, hsB⟩
  · go_wp2
    go_ret
    exact ⟨rfl, HB5.out⟩
  · go_wp2
    go_ret
    exact ⟨rfl, HB5.out⟩
  · go_wp2_with (first
      | refine wpList_load_rowG (by rfl) _ _ rfl w2.heap.size rfl _ (pB 32 lA) (0, 0) _ ar5 Tryd.underlying38 rfl HIslA.out ?_
      | refine wpList_load_rowG (by rfl) _ _ rfl w4.heap.size rfl _ (pB 32 lB) (0, 0) _ br5 Tryd.underlying38 rfl HIslB.out ?_)
    go_ret
    exact ⟨rfl, HB5.out⟩
  · rw [Hq.out] at hqq
    go_wp2_with (first
      | refine wpList_load_rowG (by rfl) _ _ rfl w2.heap.size rfl _ (pB 32 lA) (0, 0) _ ar5 Tryd.underlying38 rfl HIslA.out ?_
      | refine wpList_load_rowG (by rfl) _ _ rfl w4.heap.size rfl _ (pB 32 lB) (0, 0) _ br5 Tryd.underlying38 rfl HIslB.out ?_)
    go_ret
    exact ⟨rfl, HB5.out⟩
  · rw [Hq.out] at hqq
    have H5' := H5.out
    have H6' := H6.out
    rw [hsA] at H5'
    rw [hsB] at H6'
    have K5 := Lib.hid H5'
    have K6 := Lib.hid H6'
    clear H5' H6' hsA hsB H5 H6
    go_wp2_with (first
      | refine wpList_load_rowG (by rfl) _ _ rfl w2.heap.size rfl _ (pB 32 lA) (0, 0) _ ar5 Tryd.underlying38 rfl HIslA.out ?_
      | refine wpList_load_rowG (by rfl) _ _ rfl w4.heap.size rfl _ (pB 32 lB) (0, 0) _ br5 Tryd.underlying38 rfl HIslB.out ?_)
    refine Uniform.region_chain (S := (fun W => W.heap[w.heap.size]? = some (.cells #[.string r, .string s, .int .u8 k, .string ky, .string b, .int .i64 n] 36 (0, 0)) ∧ W.heap[w.heap.size + 1]? = some (.cells #[.string r', .string s', .int .u8 k', .string ky', .string b', .int .i64 n'] 36 (0, 0)) ∧ Below w.heap.size w W)) (List.range 6) (by kernel_rfl) (by kernel_rfl) ⟨hx5, hy5, (HB5.out).drew⟩ ?_
    refine ⟨_, ?_, rfl, Or.inl ⟨by rfl, fun wq hSw => Uniform.UStep.value (w' := wq) ?_ hSw⟩, ?_⟩
    rotate_left
    · obtain ⟨q0, q1, q2⟩ := hSw
      obtain ⟨qc0, qf0⟩ := row_facts q0
      obtain ⟨qc1, qf1⟩ := row_facts q1
      go_simp
      rfl
    simp only [Act.put, List.getElem_toArray, List.getElem_cons_zero, List.getElem_cons_succ, List.setIfInBounds_toArray, List.set_cons_zero, List.set_cons_succ]
    refine ⟨_, ?_, rfl, Or.inl ⟨by rfl, fun wq hSw => Uniform.UStep.call (w' := wq) ?_ ((H3.out wq).mono ?_)⟩, ?_⟩
    rotate_left
    · obtain ⟨q0, q1, q2⟩ := hSw
      obtain ⟨qc0, qf0⟩ := row_facts q0
      obtain ⟨qc1, qf1⟩ := row_facts q1
      go_simp
      first | done | rfl | exact ⟨⟨rfl, rfl⟩, rfl⟩ | exact ⟨rfl, rfl⟩
    · have hSk := hSw
      obtain ⟨q0, q1, q2⟩ := hSw
      rintro e wq2 ⟨rfl, hbq⟩
      refine ⟨?_, (hbq.block _ (lt_row q0)).trans q0, (hbq.block _ (lt_row q1)).trans q1, q2.trans (hbq.mono q2.size)⟩
      rfl
    simp only [Act.put, List.getElem_toArray, List.getElem_cons_zero, List.getElem_cons_succ, List.setIfInBounds_toArray, List.set_cons_zero, List.set_cons_succ]
    refine ⟨_, ?_, rfl, Or.inl ⟨by rfl, fun wq hSw => Uniform.UStep.value (w' := wq) ?_ hSw⟩, ?_⟩
    rotate_left
    · obtain ⟨q0, q1, q2⟩ := hSw
      obtain ⟨qc0, qf0⟩ := row_facts q0
      obtain ⟨qc1, qf1⟩ := row_facts q1
      go_simp
      rfl
    simp only [Act.put, List.getElem_toArray, List.getElem_cons_zero, List.getElem_cons_succ, List.setIfInBounds_toArray, List.set_cons_zero, List.set_cons_succ]
    refine ⟨_, ?_, rfl, Or.inl ⟨by rfl, fun wq hSw => Uniform.UStep.call (w' := wq) ?_ ((H4.out wq).mono ?_)⟩, ?_⟩
    rotate_left
    · obtain ⟨q0, q1, q2⟩ := hSw
      obtain ⟨qc0, qf0⟩ := row_facts q0
      obtain ⟨qc1, qf1⟩ := row_facts q1
      go_simp
      first | done | rfl | exact ⟨⟨rfl, rfl⟩, rfl⟩ | exact ⟨rfl, rfl⟩
    · have hSk := hSw
      obtain ⟨q0, q1, q2⟩ := hSw
      rintro e wq2 ⟨rfl, hbq⟩
      refine ⟨?_, (hbq.block _ (lt_row q0)).trans q0, (hbq.block _ (lt_row q1)).trans q1, q2.trans (hbq.mono q2.size)⟩
      rfl
    simp only [Act.put, List.getElem_toArray, List.getElem_cons_zero, List.getElem_cons_succ, List.setIfInBounds_toArray, List.set_cons_zero, List.set_cons_succ]
    refine ⟨_, ?_, rfl, Or.inl ⟨by rfl, fun wq hSw => Uniform.UStep.value (w' := wq) ?_ hSw⟩, ?_⟩
    rotate_left
    · obtain ⟨q0, q1, q2⟩ := hSw
      obtain ⟨qc0, qf0⟩ := row_facts q0
      obtain ⟨qc1, qf1⟩ := row_facts q1
      go_simp
      rfl
    simp only [Act.put, List.getElem_toArray, List.getElem_cons_zero, List.getElem_cons_succ, List.setIfInBounds_toArray, List.set_cons_zero, List.set_cons_succ]
    refine ⟨_, ?_, rfl, Or.inl ⟨by rfl, fun wq hSw => Uniform.UStep.value (w' := wq) ?_ hSw⟩, ?_⟩
    rotate_left
    · obtain ⟨q0, q1, q2⟩ := hSw
      obtain ⟨qc0, qf0⟩ := row_facts q0
      obtain ⟨qc1, qf1⟩ := row_facts q1
      go_simp
      rfl
    simp only [Act.put, List.getElem_toArray, List.getElem_cons_zero, List.getElem_cons_succ, List.setIfInBounds_toArray, List.set_cons_zero, List.set_cons_succ]
    intro w6 hS6
    obtain ⟨_, _, HB6⟩ := hS6
    have HB6 := Lib.hid HB6
    go_wp2_with fail
    refine (K5.out w6).mono ?_
    rintro e w7 ⟨rfl, hb⟩
    have HB7 := Lib.hid (HB6.out.trans (hb.mono HB6.out.size))
    clear hb
    go_wp2_with fail
    refine (K6.out w7).mono ?_
    rintro e w8 ⟨rfl, hb⟩
    have HB8 := Lib.hid (HB7.out.trans (hb.mono HB7.out.size))
    clear hb
    go_wp2
    go_ret
    exact ⟨rfl, HB8.out⟩

end Go.Proofs.YtfodloepkgkilaaDoor.RedApartW
