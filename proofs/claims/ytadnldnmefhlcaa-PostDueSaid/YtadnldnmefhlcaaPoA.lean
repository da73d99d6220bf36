/-
  WHAT IS PROVED: the document's box of mails: a new one, all that it holds, whether two lists of mails are one. Condition: what each theorem names.
-/
import Derived.Test.YtadnldnmefhlcaaPostR
import Derived.Test.YtadnldnmefhlcaaLift
namespace Go.Proofs.Ytadnldnmefhlcaa.PoA
open Go Go.RowKit Go.Shelf Go.Conc Go.Proofs.Ytadnldnmefhlcaa Go.Proofs.Ytadnldnmefhlcaa.PostA Go.Proofs.Ytadnldnmefhlcaa.PostF Go.Proofs.Ytadnldnmefhlcaa.PostNe Go.Proofs.Ytadnldnmefhlcaa.PostQ Go.Proofs.Ytadnldnmefhlcaa.RowsX Go.Proofs.Ytadnldnmefhlcaa.Lift Go.Proofs.Ytadnldnmefhlcaa.Steps
set_option linter.unusedVariables false
set_option linter.unusedSimpArgs false
attribute [-go_sem] Builtin.append_

theorem exec_load_rowO {P : Program} {o : Oper} {a : Act} {w : World} (ty : TypeId) (x : Operand) (ho : o.op = .load ty x) (b off : Nat) (hx : a.eval x = .pointer (some ⟨b, off, none⟩)) (cs : Array Value)
    (hc : ∀ j v, cs.toList[j]? = some v → w.cell? ⟨b, off + j, none⟩ = some v) {d : TypeDesc}
    (hu : P.underlying ty = some d) (hd : (match d with | .struct _ | .array _ _ => true | _ => false) = true) (hi : (P.info? ty).map (·.size) = some cs.size) : (execOp a.eval o).run P w = .ok (.value (.agg cs)) w := by
  have hl : (loadCells ⟨b, off, none⟩ cs.toList.length).run P w = .ok cs.toList.toArray w :=
    run_loadCells_list (P := P) w ⟨b, off, none⟩ cs.toList (fun j v hv => by
      have hadd : (⟨b, off, none⟩ : Addr).add j = ⟨b, off + j, none⟩ := by unfold Addr.add; split <;> simp_all
      rw [hadd]
      exact hc j v hv)
  have hrun : (loadVar ty ⟨b, off, none⟩).run P w = .ok (.agg cs) w := by
    cases hq : P.info? ty with
    | none => simp [hq] at hi
    | some i =>
      have hs : i.size = cs.size := by simpa [hq] using hi
      have hagg : (isAgg ty).run P w = .ok true w := by
        unfold isAgg
        rw [Sem.run_bind, run_underlying hu w]
        cases d <;> simp_all
      simp only [Array.length_toList, Array.toArray_toList] at hl
      simp [loadVar, Sem.run_bind, hagg, sizeOf, typeInfo, hq, hs, hl]
  unfold execOp
  simp only [ho, hx, Instr.loadAt, Instr.sureAddr, Sem.run_bind, Sem.run_pure, Result.andThen_ok, hrun]

/-- When the document says that a mail was due last. -/
def atOf (x : Lt) : Int := if x.sent then x.at' else -1
def oc (x : Lt) : List Value := [.int .i64 x.id, .int .i64 x.to, .string x.text, .int .i64 (atOf x)]
theorem ocF : RowFn 4 oc := ⟨fun _ => rfl, fun x u hu => by simp [oc] at hu; rcases hu with rfl | rfl | rfl | rfl <;> rfl⟩
theorem tyOne : SliceTy Try.prog 28 62 4 40 (.agg #[.int .i64 0, .int .i64 0, .string ByteArray.empty, .int .i64 0]) := SliceTy.mk' (by kernel_rfl) (by kernel_rfl) rfl (by omega)
def PV (room gap : Int) (s : Value) (last lost : Int) : Value := .agg #[.int .i64 room, .int .i64 gap, s, .int .i64 last, .int .i64 lost]

theorem refNew_ok (w : World) (room gap : Int) :
    Calls Try.prog 7 #[.int .i64 room, .int .i64 gap] w fun e w' => e = .returned (.tuple #[PV room gap (.slice none 0 0) 0 0, .bool (newB room gap)]) ∧ Below w.heap.size w w' := by
  unfold PV
  obtain ⟨b, hb⟩ : ∃ b, b = newB room gap := ⟨_, rfl⟩
  rw [← hb]
  have hcase : (room < 1 ∧ b = false) ∨ (1 ≤ room ∧ 256 < room ∧ b = false) ∨ (1 ≤ room ∧ room ≤ 256 ∧ gap < 1 ∧ b = false) ∨ (1 ≤ room ∧ room ≤ 256 ∧ 1 ≤ gap ∧ b = decide (gap ≤ 1099511627776)) := by
    rw [hb]; unfold newB
    by_cases h1 : 1 ≤ room
    · by_cases h2 : room ≤ 256
      · by_cases h3 : 1 ≤ gap
        · exact .inr (.inr (.inr ⟨h1, h2, h3, by simp [h1, h2, h3]⟩))
        · exact .inr (.inr (.inl ⟨h1, h2, by omega, by simp [h3]⟩))
      · exact .inr (.inl ⟨h1, by omega, by simp [h2]⟩)
    · exact .inl ⟨by omega, by simp [h1]⟩
  clear hb
  rcases hcase with ⟨h1, rfl⟩ | ⟨h1, h2, rfl⟩ | ⟨h1, h2, h3, rfl⟩ | ⟨h1, h2, h3, rfl⟩
  · have d1 : decide (1 ≤ room) = false := decide_eq_false (by omega)
    go_enter Try.func7, Try.ntmps7
    go_wp2
    refine bodyPost_ret (v := .tuple #[.agg #[.int .i64 room, .int .i64 gap, .slice none 0 0, .int .i64 0, .int .i64 0], .bool _]) (by simp [results, Try.results7, go_sem, *]; done) rfl ⟨rfl, ?_⟩
    exact (Below.refl _ _).alloc (Nat.le_refl _) _
  · have d1 : decide (1 ≤ room) = true := decide_eq_true (by omega)
    have d2 : decide (room ≤ 256) = false := decide_eq_false (by omega)
    go_enter Try.func7, Try.ntmps7
    go_wp2
    refine bodyPost_ret (v := .tuple #[.agg #[.int .i64 room, .int .i64 gap, .slice none 0 0, .int .i64 0, .int .i64 0], .bool _]) (by simp [results, Try.results7, go_sem, *]; done) rfl ⟨rfl, ?_⟩
    exact (Below.refl _ _).alloc (Nat.le_refl _) _
  · have d1 : decide (1 ≤ room) = true := decide_eq_true (by omega)
    have d2 : decide (room ≤ 256) = true := decide_eq_true (by omega)
    have d3 : decide (1 ≤ gap) = false := decide_eq_false (by omega)
    go_enter Try.func7, Try.ntmps7
    go_wp2
    refine bodyPost_ret (v := .tuple #[.agg #[.int .i64 room, .int .i64 gap, .slice none 0 0, .int .i64 0, .int .i64 0], .bool _]) (by simp [results, Try.results7, go_sem, *]; done) rfl ⟨rfl, ?_⟩
    exact (Below.refl _ _).alloc (Nat.le_refl _) _
  · have d1 : decide (1 ≤ room) = true := decide_eq_true (by omega)
    have d2 : decide (room ≤ 256) = true := decide_eq_true (by omega)
    have d3 : decide (1 ≤ gap) = true := decide_eq_true (by omega)
    go_enter Try.func7, Try.ntmps7
    go_wp2
    refine bodyPost_ret (v := .tuple #[.agg #[.int .i64 room, .int .i64 gap, .slice none 0 0, .int .i64 0, .int .i64 0], .bool _]) (by simp [results, Try.results7, go_sem, *]; done) rfl ⟨rfl, ?_⟩
    exact (Below.refl _ _).alloc (Nat.le_refl _) _

/-- The cells of a row of mails. -/
def mA (x : Lt) : Array Value := #[.int .i64 x.id, .int .i64 x.to, .string x.text]
theorem mA_size (x : Lt) : (Try.prog.info? 53).map (·.size) = some (mA x).size := by kernel_rfl

set_option maxRecDepth 100000 in
set_option maxHeartbeats 2000000 in
theorem refAll_ok (w : World) (room gap last lost : Int) (s : Value) (L : List Lt) (hs : Sl w s 4 L.length (L.flatMap oc)) (hL : L.length ≤ 256) :
    Calls Try.prog 17 #[PV room gap s last lost] w fun e w' => ∃ v, e = .returned v ∧ AccR 53 3 mc w w' v L := by
  unfold PV
  obtain ⟨a, cap, rfl, hcap, hm⟩ := hs.form
  obtain ⟨w1, hw1⟩ : ∃ w1, w1 = w.alloc (.cells #[.int .i64 room, .int .i64 gap, .slice a L.length cap, .int .i64 last, .int .i64 lost] 30) := ⟨_, rfl⟩
  have hb1 : Below w.heap.size w w1 := by rw [hw1]; exact (Below.refl _ _).alloc (Nat.le_refl _) _
  have HX1 := Lib.hid (show w1.heap[w.heap.size]? = some (.cells #[.int .i64 room, .int .i64 gap, .slice a L.length cap, .int .i64 last, .int .i64 lost] 30 (0, 0)) by rw [hw1]; exact heap_new _ _)
  have HS := Lib.hid (hs.below hb1)
  have HB1 := Lib.hid hb1
  have HW1 := Lib.hid hw1
  obtain ⟨c1, f1⟩ := row_facts HX1.out
  clear hs hb1 hw1
  go_enter Try.func17, Try.ntmps17
  clear c1 f1
  go_wp2
  rw [← HW1.out]
  go_loopw [3, 9] (fun b i wr => ∃ (v : Value) (k : Nat), b = v ∧ i = .int .i64 k ∧ k ≤ L.length ∧ AccR 53 3 mc w1 wr v (L.take k)) (fun _ i _ => L.length - (intOf i).toNat)
  case atStart => exact ⟨_, 0, rfl, rfl, by omega, AccR.nil w1⟩
  case round =>
    obtain ⟨v, k, rfl, rfl, hk, hA⟩ := hrel
    have hlB := hA.bel.size
    by_cases hlt : k < L.length
    · obtain ⟨x, hx⟩ : ∃ x, L[k]? = some x := ⟨_, List.getElem?_eq_getElem hlt⟩
      obtain ⟨ab, ao, rfl, hab, hc⟩ := row_cells ocF (by omega) HS.out hx
      have hc' : ∀ (j : Nat) (u : Value), (#[.int .i64 x.id, .int .i64 x.to, .string x.text, .int .i64 (atOf x)] : Array Value).toList[j]? = some u → wr.cell? ⟨ab, ao + k * 4 + j, none⟩ = some u := fun j u hu => (hA.bel.cell (p := ⟨ab, ao + k * 4 + j, none⟩) hab).trans (hc j u hu)
      have hsn : L.take (k + 1) = L.take k ++ [x] := by rw [List.take_add_one, hx]; rfl
      have hln : (L.take k).length = k := by rw [List.length_take]; omega
      have Hsn := Lib.hid hsn
      have Hln := Lib.hid hln
      have Hc := Lib.hid hc'
      obtain ⟨w2, hw2⟩ : ∃ w2, w2 = wr.alloc (.cells #[.int .i64 x.id, .int .i64 x.to, .string x.text, .int .i64 (atOf x)] 62) := ⟨_, rfl⟩
      have HX2 := Lib.hid (show w2.heap[wr.heap.size]? = some (.cells #[.int .i64 x.id, .int .i64 x.to, .string x.text, .int .i64 (atOf x)] 62 (0, 0)) by rw [hw2]; exact heap_new _ _)
      have HA2 := Lib.hid (show AccR 53 3 mc w1 w2 _ (L.take k) by rw [hw2]; exact hA.alloc _)
      have hz2 : w2.heap.size = wr.heap.size + 1 := by rw [hw2]; simp
      have HW2 := Lib.hid hw2
      obtain ⟨c2, f2⟩ := row_facts HX2.out
      clear hc hc' hA hsn hln hw2 hx
      go_wp2_with (first | (refine wpList_load_rowO rfl _ _ rfl ab (ao + k * 4) rfl #[.int .i64 x.id, .int .i64 x.to, .string x.text, .int .i64 (atOf x)] Hc.out Try.underlying62 rfl (by kernel_rfl) ?_) | (at_builtin; rw [← HW2.out]; go_must (refine wpList_accR tyMail mcF HA2.out x rfl _ _ rfl rfl #[.int .i64 x.id, .int .i64 x.to, .string x.text] rfl _ rfl (by first | rfl | omega | simp) ?hl ?hb ?go)))
      case hl => unfold maxLen; omega
      case hb => omega
      case go =>
      intro v3 w3 hA3
      have HA3 := Lib.hid hA3
      clear hA3 c2 f2
      go_wp2
      go_roundw
      case rel => exact ⟨_, k + 1, rfl, by go_num, by omega, by rw [Hsn.out]; exact HA3.out⟩
      case measure => simp [intOf]; omega
    · obtain rfl : k = L.length := by omega
      have HA := Lib.hid hA
      clear hA
      go_wp2
      go_ret
      have h := HA.out
      rw [List.take_length] at h
      exact ⟨_, rfl, h.own.rebase (fun k hk => Nat.le_trans HB1.out.size (h.own.lt k hk).1), HB1.out.trans (h.bel.mono HB1.out.size)⟩

/-- Whether two lists of mails are one. -/
def sameB : List Lt → List Lt → Bool
  | [], [] => true
  | x :: l, y :: m => (decide (x.id = y.id) && (decide (x.to = y.to) && decide (x.text = y.text))) && sameB l m
  | _, _ => false
theorem sameB_self : ∀ l, sameB l l = true
  | [] => rfl
  | x :: l => by simp [sameB, sameB_self l]

end Go.Proofs.Ytadnldnmefhlcaa.PoA
