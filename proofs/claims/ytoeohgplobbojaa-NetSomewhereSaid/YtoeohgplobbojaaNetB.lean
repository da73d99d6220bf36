/-
  WHAT IS PROVED: what the document's network (the reference) does, function by function. No condition beside those that each theorem names.
-/
import Derived.Test.YtoeohgplobbojaaNetA
import Derived.StillTailTactics
import Derived.Deep.DrawnRows
namespace Go.Proofs.Ytoeohgplobbojaa.NetB
open Go Go.RowKit Go.ChangeShapes Go.WideShapes Go.ChangeAt Go.Proofs.Ytoeohgplobbojaa Go.Proofs.Ytoeohgplobbojaa.NetA
attribute [local go_sem ↓] Go.wp_at_zero Go.wp_at_succ

/-- The reference's network as a value. -/
abbrev refNet (room : Int) (v : Value) (lost : Int) : Value := .agg #[.int .i64 room, v, .int .i64 lost]

theorem New_yes (w : World) (n : Int) (h1 : 1 ≤ n) (h2 : n ≤ 1024) :
    Calls Try.prog 9 #[.int .i64 n] w fun e w' => e = .returned (.tuple #[refNet n (.slice none 0 0) 0, .bool true]) ∧ Below w.heap.size w w' := by
  go_enter Try.func9, Try.ntmps9
  go_wp2
  refine bodyPost_ret (v := .tuple #[refNet n (.slice none 0 0) 0, .bool true]) (by simp [results, Try.results9, go_sem, refNet]) rfl ⟨rfl, ?_⟩
  exact (Below.refl _ _).alloc (Nat.le_refl _) _

theorem New_no (w : World) (n : Int) (h : n < 1 ∨ 1024 < n) :
    Calls Try.prog 9 #[.int .i64 n] w fun e w' => e = .returned (.tuple #[refNet n (.slice none 0 0) 0, .bool false]) ∧ Below w.heap.size w w' := by
  by_cases h0 : n < 1
  · go_enter Try.func9, Try.ntmps9
    go_wp2
    refine bodyPost_ret (v := .tuple #[refNet n (.slice none 0 0) 0, .bool false]) (by simp [results, Try.results9, go_sem, refNet]) rfl ⟨rfl, ?_⟩
    exact (Below.refl _ _).alloc (Nat.le_refl _) _
  · have h2 : 1024 < n := by omega
    have h1 : 1 ≤ n := by omega
    have h3 : ¬ n ≤ 1024 := by omega
    clear h h0
    go_enter Try.func9, Try.ntmps9
    go_wp2
    refine bodyPost_ret (v := .tuple #[refNet n (.slice none 0 0) 0, .bool false]) (by simp [results, Try.results9, go_sem, refNet]) rfl ⟨rfl, ?_⟩
    exact (Below.refl _ _).alloc (Nat.le_refl _) _

theorem Put_full (w : World) (v : Value) (l : List ByteArray) (s : ByteArray) (room lost : Int) (hv : Sl w v 1 l.length (strV l)) (hl : (l.length : Int) = room) (h0 : 0 ≤ lost) (h1 : lost ≤ 1000000) :
    Calls Try.prog 10 #[refNet room v lost, .string s] w fun e w' => e = .returned (.tuple #[refNet room v (lost + 1), .int .i64 8]) ∧ Below w.heap.size w w' := by
  obtain ⟨a, cap, rfl, _, _⟩ := hv.form
  have hl2 : ((l.length : Int) == room) = true := by simp [hl]
  clear hl hv
  unfold refNet
  go_enter Try.func10, Try.ntmps10
  go_wp2
  refine bodyPost_ret (v := .tuple #[refNet room (.slice a l.length cap) (lost + 1), .int .i64 8]) (by simp [results, Try.results10, go_sem, refNet]) rfl ⟨rfl, ?_⟩
  exact ((Below.refl _ _).alloc (Nat.le_refl _) _).alloc (by simp) _

theorem Put_room (w : World) (v : Value) (l : List ByteArray) (s : ByteArray) (room lost : Int) (hv : Sl w v 1 l.length (strV l)) (hl : (l.length : Int) < room) (hr : room ≤ 1024) :
    Calls Try.prog 10 #[refNet room v lost, .string s] w fun e w' => ∃ v', e = .returned (.tuple #[refNet room v' lost, .int .i64 0]) ∧ w'.ownsRow w.heap.size 9 1 v' (l ++ [s]).length (strV (l ++ [s])) ∧ Below w.heap.size w w' := by
  obtain ⟨a, cap, rfl, _, _⟩ := hv.form
  have hl2 : ((l.length : Int) == room) = false := by simp; omega
  have HV := Lib.hid hv
  clear hv
  unfold refNet
  go_enter Try.func10, Try.ntmps10
  go_wp2_with (at_builtin; go_must (refine wpList_app _ rfl _ _ _ _ rfl tyStrs w.heap.size (.slice (some ⟨w.heap.size + 2, 0, none⟩) 0 0) 0 [] rfl ?own (.slice a l.length cap) l.length (strV l) rfl ?src l.length (by simp) (strV l) (by simp) ?h63 ?hby ?hba ?go))
  case own => exact own_new (by simp) (by omega) (by unfold maxLen; omega) rfl
  case src => exact (HV.out.ext ((((Ext.refl (fun _ => False) w).alloc _).alloc _).alloc _) (fun _ _ h => h)).src Try.underlying28 (strV_one l)
  case h63 => unfold maxLen; omega
  case hby => omega
  case hba => simp; omega
  case go =>
    intro a1 c1 w1 hown1 hgrow1 hat1
    have hb0 := heap_gr hgrow1 (heap_at (heap_at (heap_new w _) _) _) (by simp [ownBlock_some])
    have hb1 := heap_gr hgrow1 (heap_at (heap_new' (w := w.alloc _) (k := w.heap.size + 1) _ (by simp)) _) (by simp [ownBlock_some])
    have hE1 := ((((Ext.refl (fun _ => False) w).alloc _).alloc _).alloc _).grown hgrow1 (fun k hk => .inr (by simp [ownBlock_some] at hk; omega))
    have hz : w.heap.size + 3 ≤ w1.heap.size := by have := hgrow1.size; simpa using this
    have hne1 : ∀ k, (Value.slice a1 l.length c1).ownBlock = some k → w.heap.size + 2 ≤ k := by
      intro k hk; rcases hat1 with h | h <;> rw [h] at hk <;> simp [ownBlock_some] at hk <;> omega
    clear hat1 hgrow1
    obtain ⟨hc0, hf0⟩ := row_facts hb0
    obtain ⟨hc1, hf1⟩ := row_facts hb1
    have Hb0 := Lib.hid hb0
    have Hb1 := Lib.hid hb1
    clear hb0 hb1
    go_wp2_with (at_builtin; go_must (refine wpList_app _ rfl _ _ _ _ rfl tyStrs w.heap.size (.slice a1 l.length c1) l.length (strV l) rfl ?own2 (.slice (some ⟨w1.heap.size, 0, none⟩) 1 1) 1 [.string s] rfl ?src2 (l.length + 1) rfl (strV (l ++ [s])) (by simp [strV]) ?h632 ?hby2 ?hba2 ?go2))
    case own2 => exact hown1.alloc _
    case src2 => exact Src.ofSlice _ Try.underlying28 _ _ _ _ rfl (by simpa using cell_one_new w1 (.string s) 9) (by simp [Value.oneCell'])
    case h632 => unfold maxLen; omega
    case hby2 => omega
    case hba2 => simp; omega
    case go2 =>
      intro a2 c2 w2 hown2 hgrow2 hat2
      have hE2 : Ext (fun k => w.heap.size + 2 ≤ k) w1 w2 := ((Ext.refl _ w1).alloc _).grown hgrow2 (fun k hk => .inl (hne1 k hk))
      obtain ⟨hc0', hf0'⟩ := row_facts (hE2.blockOf Hb0.out (by omega))
      obtain ⟨hc1', hf1'⟩ := row_facts (hE2.blockOf Hb1.out (by omega))
      have hz2 := hE2.size
      have hne2 : ∀ k, (Value.slice a2 (l.length + 1) c2).ownBlock = some k → w.heap.size + 2 ≤ k := by
        intro k hk; rcases hat2 with h | h <;> rw [h] at hk
        · exact hne1 k hk
        · simp at hk; omega
      clear hat2 hgrow2 hc0 hf0 hc1 hf1
      go_wp2
      refine bodyPost_ret (v := .tuple #[refNet room (.slice a2 (l.length + 1) c2) lost, .int .i64 0]) (by simp [results, Try.results10, go_sem, refNet, hc1', hf1']) rfl ⟨_, rfl, ?_, ?_⟩
      · have hown3 : w2.ownsRow (w.heap.size + 2) 9 1 (.slice a2 (l.length + 1) c2) (l.length + 1) (strV (l ++ [s])) := own_base hown2 hne2
        have h4 := own_ext (S := fun k => k = w.heap.size ∨ k = w.heap.size + 1) hown3 (((((Ext.set1 w2 w.heap.size 1 (.slice a2 (l.length + 1) c2)).mono (fun _ _ h => .inl h)).setCell (p := ⟨w.heap.size + 1, 0, none⟩) (.inl (.inr rfl)) (.int .i64 room)).setCell (p := ⟨w.heap.size + 1, 1, none⟩) (.inl (.inr rfl)) (.slice a2 (l.length + 1) c2)).setCell (p := ⟨w.heap.size + 1, 2, none⟩) (.inl (.inr rfl)) (.int .i64 lost)) (fun k hk e => by have := hne2 k hk; omega)
        rw [List.length_append]
        exact own_base h4 (fun k hk => by have := hne2 k hk; omega)
      · have h5 : Below w.heap.size w w2 := (hE1.below (fun _ _ h => h)).trans ((hE2.mono (S' := fun k => w.heap.size ≤ k) (fun k _ h => by omega)).below' (by omega))
        exact (((h5.setCell (p := ⟨w.heap.size, 1, none⟩) (by simp) _).setCell (p := ⟨w.heap.size + 1, 0, none⟩) (by simp) _).setCell (p := ⟨w.heap.size + 1, 1, none⟩) (by simp) _).setCell (p := ⟨w.heap.size + 1, 2, none⟩) (by simp) _


theorem has_in (w : World) (v : Value) (l : List ByteArray) (room lost : Int) (i : Nat) (hv : Sl w v 1 l.length (strV l)) (hi : i < l.length) :
    Calls Try.prog 37 #[refNet room v lost, .int .i64 i] w fun e w' => e = .returned (.bool true) ∧ Below w.heap.size w w' := by
  obtain ⟨a, cap, rfl, _, _⟩ := hv.form
  have h0 : (0 : Int) ≤ (i : Int) := by omega
  have h1 : (i : Int) < (l.length : Int) := by omega
  unfold refNet
  go_enter Try.func37, Try.ntmps37
  go_wp2
  go_ret
  exact ⟨rfl, (Below.refl _ _).alloc (Nat.le_refl _) _⟩

theorem has_out (w : World) (v : Value) (l : List ByteArray) (room lost : Int) (i : Int) (hv : Sl w v 1 l.length (strV l)) (hi : i < 0 ∨ (l.length : Int) ≤ i) :
    Calls Try.prog 37 #[refNet room v lost, .int .i64 i] w fun e w' => e = .returned (.bool false) ∧ Below w.heap.size w w' := by
  obtain ⟨a, cap, rfl, _, _⟩ := hv.form
  unfold refNet
  by_cases h : i < 0
  · go_enter Try.func37, Try.ntmps37
    go_wp2
    go_ret
    exact ⟨rfl, (Below.refl _ _).alloc (Nat.le_refl _) _⟩
  · have h0 : 0 ≤ i := by omega
    have h1 : ¬ i < (l.length : Int) := by omega
    go_enter Try.func37, Try.ntmps37
    go_wp2
    go_ret
    exact ⟨rfl, (Below.refl _ _).alloc (Nat.le_refl _) _⟩

theorem Take_out (w : World) (v : Value) (l : List ByteArray) (room lost : Int) (i : Int) (hv : Sl w v 1 l.length (strV l)) (hi : i < 0 ∨ (l.length : Int) ≤ i) :
    Calls Try.prog 12 #[refNet room v lost, .int .i64 i] w fun e w' => e = .returned (.tuple #[refNet room v lost, .string ByteArray.empty, .int .i64 3]) ∧ Below w.heap.size w w' := by
  obtain ⟨a, cap, rfl, _, _⟩ := hv.form
  have HI := Lib.hid hi
  have HV := Lib.hid hv
  clear hv hi
  unfold refNet
  go_enter Try.func12, Try.ntmps12
  go_wp2_with fail
  refine (has_out _ _ l room lost i ?_ HI.out).mono ?_
  · exact HV.out.ext (((Ext.refl (fun _ => False) w).alloc _).alloc _) (fun _ _ h => h)
  rintro e w1 ⟨rfl, hb⟩
  obtain ⟨hb0, hc0, hf0⟩ := live (.ofB hb) (heap_at (heap_new w _) _) (fun h => h)
  obtain ⟨hb1, hc1, hf1⟩ := live (.ofB hb) (heap_new' (w := w.alloc _) (k := w.heap.size + 1) _ (by simp)) (fun h => h)
  have hz := hb.size
  simp only [World.size_alloc] at hz
  have HB := Lib.hid hb
  clear hb hb0 hb1
  go_wp2
  refine bodyPost_ret (v := .tuple #[refNet room (.slice a l.length cap) lost, .string ByteArray.empty, .int .i64 3]) (by simp [results, Try.results12, go_sem, refNet, hc1, hf1]; rfl) rfl ⟨rfl, ?_⟩
  have h5 : Below w.heap.size w w1 := (((Below.refl _ w).alloc (Nat.le_refl _) _).alloc (by simp) _).trans (HB.out.mono (by simp; omega))
  exact ((h5.setCell (p := ⟨w.heap.size + 1, 0, none⟩) (by simp) _).setCell (p := ⟨w.heap.size + 1, 1, none⟩) (by simp) _).setCell (p := ⟨w.heap.size + 1, 2, none⟩) (by simp) _

theorem strV_get (l : List ByteArray) (i : Nat) (hi : i < l.length) : (strV l)[i]? = some (.string l[i]) := by simp [strV, hi]

set_option maxHeartbeats 1600000 in
theorem Take_in (w : World) (v : Value) (l : List ByteArray) (room lost : Int) (i : Nat) (hv : Sl w v 1 l.length (strV l)) (hi : i < l.length) (hl : l.length ≤ 2000) :
    Calls Try.prog 12 #[refNet room v lost, .int .i64 i] w fun e w' => ∃ v', e = .returned (.tuple #[refNet room v' lost, .string l[i], .int .i64 0]) ∧ w'.ownsRow w.heap.size 9 1 v' (l.eraseIdx i).length (strV (l.eraseIdx i)) ∧ Below w.heap.size w w' := by
  rcases hv.2 with ⟨_, h0⟩ | ⟨a, cap, rfl, hn, hm, hc⟩
  · omega
  have HV := Lib.hid hv
  have hci := hc i _ (strV_get l i hi)
  have h0 : (0 : Int) ≤ (i : Int) := by omega
  have h1 : (i : Int) < (l.length : Int) := by omega
  have h2 : (l.length : Int) ≤ (cap : Int) := by omega
  have h3 : (cap : Int) ≤ 9223372036854775807 := by unfold maxLen at hm; omega
  have hl' : (l.length : Int) ≤ 2000 := by omega
  clear hv hc
  unfold refNet
  go_enter Try.func12, Try.ntmps12
  go_wp2_with fail
  refine (has_in _ _ l room lost i ?_ hi).mono ?_
  · exact HV.out.ext (((Ext.refl (fun _ => False) w).alloc _).alloc _) (fun _ _ h => h)
  rintro e w1 ⟨rfl, hb⟩
  obtain ⟨hb0, hc0, hf0⟩ := live (.ofB hb) (heap_at (heap_new w _) _) (fun h => h)
  obtain ⟨hb1, hc1, hf1⟩ := live (.ofB hb) (heap_new' (w := w.alloc _) (k := w.heap.size + 1) _ (by simp)) (fun h => h)
  have hE1 := (((Ext.refl (fun _ => False) w).alloc _).alloc _).trans (.ofB hb)
  have hci1 := hE1.cellOf hci (fun h => h)
  have HCI := Lib.hid hci
  have hz := hb.size
  simp only [World.size_alloc] at hz
  have HE1 := Lib.hid hE1
  have Hb0 := Lib.hid hb0
  have Hb1 := Lib.hid hb1
  clear hb hb0 hb1 hci hE1
  go_wp2_with fail
  have s1 : (i : Int) ≤ (cap : Int) := by omega
  have s2 : IntKind.i64.wrap ((i : Int) + 1) = (i : Int) + 1 := IntWalk.i64_in _ (by omega)
  have s3 : (0 : Int) ≤ (i : Int) + 1 := by omega
  have s4 : (i : Int) + 1 ≤ (l.length : Int) := by omega
  have s5 : ((i : Int) + 1).toNat = i + 1 := by omega
  have s6 : (i : Int) + 1 ≤ (cap : Int) := by omega
  obtain ⟨A, hA⟩ : ∃ A, A = if cap = i + 1 then a else a.add ((i + 1) * 1) := ⟨_, rfl⟩
  have hsl : ∀ W, (Instr.slice 28 (.slice (some a) l.length cap) (some (.int .i64 ((i : Int) + 1))) none none).run Try.prog W = .ok (.slice (some A) (l.length - (i + 1)) (cap - (i + 1))) W := by
    intro W
    rw [hA]
    go_simp
    split <;> simp
  have hlt := World.block_lt_of_cell? w _ HCI.out
  have HA : Hid (∀ W, Below w.heap.size w W → Src Try.prog 1 28 (.slice (some a) i cap) i (strV (l.take i)) W) := fun W hW => by
    have := (HV.out.below hW).take (m := i) (by omega)
    rw [Nat.mul_one] at this
    exact (by simpa [strV, List.map_take] using this : Sl W _ 1 i (strV (l.take i))).src Try.underlying28 (strV_one _)
  have HB : Hid (∀ W, Below w.heap.size w W → Src Try.prog 1 28 (.slice (some A) (l.length - (i + 1)) (cap - (i + 1))) (l.length - (i + 1)) (strV (l.drop (i + 1))) W) := fun W hW => by
    have := (HV.out.below hW).cut (k := i + 1) (m := l.length) (by omega) (by omega) hA
    rw [Nat.mul_one, Nat.mul_one, List.take_of_length_le (by simp [strV])] at this
    exact (by simpa [strV, List.map_drop] using this : Sl W _ 1 _ (strV (l.drop (i + 1)))).src Try.underlying28 (strV_one _)
  clear hA
  have hBel := HE1.out.below (fun _ _ h => h)
  have hc01 : w1.cell? ⟨w.heap.size, 1, none⟩ = some (.slice (some a) l.length cap) := hc0 1
  have hcA : (w1.alloc (.cells #[] 9)).cell? ⟨w.heap.size, 1, none⟩ = some (.slice (some a) l.length cap) :=
    (World.cell?_of_block (w := w1) (Below.heap_alloc w1 _ _ (by show w.heap.size < w1.heap.size; omega))).trans hc01
  have hfA : (w1.alloc (.cells #[] 9)).frozen? ⟨w.heap.size, 1, none⟩ = false :=
    (World.frozen?_of_block (w := w1) (Below.heap_alloc w1 _ _ (by show w.heap.size < w1.heap.size; omega))).trans (hf0 1)
  go_region_law (first
      | (refine step_app _ (by rfl) _ _ _ _ (by rfl) tyStrs w.heap.size (.slice (some ⟨w1.heap.size, 0, none⟩) 0 0) 0 [] (by rfl) ((own_new (w := w1) (by simp) (by omega) (by unfold maxLen; omega) rfl).drew) (.slice (some a) i cap) i (strV (l.take i)) (by rfl) (HA.out _ ((hBel.alloc (by omega) _).drew)) i (by simp) (strV (l.take i)) (by simp) (by unfold maxLen; omega) (by omega) (by simp; omega) ?_; intro a1 c1 w2 hown2 hgrow hat2; have hc2 := (hgrow.cell_far ⟨w.heap.size, 1, none⟩ (by simp; omega) (by simp [ownBlock_some]; omega)).trans hcA)
      | (refine step_app _ (by rfl) _ _ _ _ (by rfl) tyStrs w.heap.size (.slice a1 i c1) i (strV (l.take i)) (by rfl) hown2 (.slice (some A) (l.length - (i + 1)) (cap - (i + 1))) (l.length - (i + 1)) (strV (l.drop (i + 1))) (by rfl) (HB.out _ ((hBel.alloc (by omega) _).drew.grown hgrow (by simp; omega) (fun k hk => by simp [ownBlock_some] at hk; omega))) (l.length - 1) (by omega) (strV (l.eraseIdx i)) (by rw [List.eraseIdx_eq_take_drop_succ, strV_append]) (by unfold maxLen; omega) (by omega) (by have := hgrow.size; simp at this; omega) ?_; intro a2 c2 w3 hown3 hgrow3 hat3; have hne2 : (Value.slice a1 i c1).ownBlock ≠ some w.heap.size := (by intro e; rcases hat2 with h | h <;> rw [h] at e <;> simp [ownBlock_some] at e <;> omega); have hz2 := hgrow.size; simp only [World.size_drew, World.size_alloc] at hz2; have hc3 := (hgrow3.cell_far ⟨w.heap.size, 1, none⟩ (by show w.heap.size < w2.heap.size; omega) (Ne.symm hne2)).trans hc2; have hf3 := (hgrow3.frozen_far ⟨w.heap.size, 1, none⟩ (by show w.heap.size < w2.heap.size; omega) (Ne.symm hne2)).trans ((hgrow.frozen_far ⟨w.heap.size, 1, none⟩ (by simp; omega) (by simp [ownBlock_some]; omega)).trans hfA)))
  all_goals
    have hE3 : Ext (fun k => w.heap.size + 2 ≤ k) w1 w3 := ((((Ext.refl _ w1).alloc _).drew).grown hgrow (fun k hk => .inl (by simp [ownBlock_some] at hk; omega))).grown hgrow3 (fun k hk => .inl (by rcases hat2 with h | h <;> rw [h] at hk <;> simp [ownBlock_some] at hk <;> omega))
    have hne3 : ∀ k, (Value.slice a2 (l.length - 1) c2).ownBlock = some k → w.heap.size + 2 ≤ k := by
      intro k hk
      rcases hat3 with h | h
      · rw [h] at hk; rcases hat2 with h | h <;> rw [h] at hk <;> simp [ownBlock_some] at hk <;> omega
      · rw [h] at hk; simp at hk; omega
    obtain ⟨_, hd0, hg0⟩ := live hE3 Hb0.out (by omega)
    obtain ⟨_, hd1, hg1⟩ := live hE3 Hb1.out (by omega)
    have hz3 := hE3.size
    have HE3 := Lib.hid hE3
    have HN3 := Lib.hid hne3
    have HO3 := Lib.hid hown3
    clear hE3 hne3 hown3 hat3 hgrow3 hat2 hgrow hown2 hc3 hf3 hc2 hc01 hcA hfA hc0 hf0 hc1 hf1 hne2
    go_wp2
    refine bodyPost_ret (v := .tuple #[refNet room (.slice a2 (l.length - 1) c2) lost, .string l[i], .int .i64 0]) (by simp [results, Try.results12, go_sem, refNet, hd1, hg1]) rfl ⟨_, rfl, ?_, ?_⟩
    · rw [List.length_eraseIdx, if_pos hi]
      refine own_base (own_ext (S := fun k => k = w.heap.size ∨ k = w.heap.size + 1) HO3.out (((((Ext.set1 _ _ _ _).mono (fun _ _ h => .inl h)).setCell (p := ⟨w.heap.size + 1, 0, none⟩) (.inl (.inr rfl)) _).setCell (p := ⟨w.heap.size + 1, 1, none⟩) (.inl (.inr rfl)) _).setCell (p := ⟨w.heap.size + 1, 2, none⟩) (.inl (.inr rfl)) _) (fun k hk e => by have := HN3.out k hk; omega)) (fun k hk => by have := HN3.out k hk; omega)
    · have h5 : Below w.heap.size w w3 := hBel.trans ((HE3.out.mono (S' := fun k => w.heap.size ≤ k) (fun k _ h => by omega)).below' (by omega))
      exact (((h5.setCell (p := ⟨w.heap.size, 1, none⟩) (by simp) _).setCell (p := ⟨w.heap.size + 1, 0, none⟩) (by simp) _).setCell (p := ⟨w.heap.size + 1, 1, none⟩) (by simp) _).setCell (p := ⟨w.heap.size + 1, 2, none⟩) (by simp) _

theorem Drop_out (w : World) (v : Value) (l : List ByteArray) (room lost : Int) (i : Int) (hv : Sl w v 1 l.length (strV l)) (hi : i < 0 ∨ (l.length : Int) ≤ i) :
    Calls Try.prog 14 #[refNet room v lost, .int .i64 i] w fun e w' => e = .returned (.tuple #[refNet room v lost, .int .i64 3]) ∧ Below w.heap.size w w' := by
  obtain ⟨a, cap, rfl, _, _⟩ := hv.form
  have HI := Lib.hid hi
  have HV := Lib.hid hv
  clear hv hi
  unfold refNet
  go_enter Try.func14, Try.ntmps14
  go_wp2_with fail
  refine (Take_out _ _ l room lost i ?_ HI.out).mono ?_
  · exact HV.out.ext (((Ext.refl (fun _ => False) w).alloc _).alloc _) (fun _ _ h => h)
  rintro e w1 ⟨rfl, hb⟩
  obtain ⟨hb1, hc1, hf1⟩ := live (.ofB hb) (heap_new' (w := w.alloc _) (k := w.heap.size + 1) _ (by simp)) (fun h => h)
  have hz := hb.size
  simp only [World.size_alloc] at hz
  have hne : ¬ w.heap.size + 1 = w1.heap.size := by omega
  have hlt : w.heap.size + 1 < w1.heap.size := by omega
  have HB := Lib.hid hb
  clear hb hb1
  go_wp2
  refine bodyPost_ret (v := .tuple #[refNet room (.slice a l.length cap) lost, .int .i64 3]) (by simp [results, Try.results14, go_sem, refNet, *]) rfl ⟨rfl, ?_⟩
  have h5 : Below w.heap.size w w1 := (((Below.refl _ w).alloc (Nat.le_refl _) _).alloc (by simp) _).trans (HB.out.mono (by simp; omega))
  repeat (first | exact h5 | refine Bl.set ?_ (by omega) _ | refine Bl.new ?_ _)

theorem Drop_in (w : World) (v : Value) (l : List ByteArray) (room lost : Int) (i : Nat) (hv : Sl w v 1 l.length (strV l)) (hi : i < l.length) (hl : l.length ≤ 2000) (hl0 : 0 ≤ lost) (hl1 : lost ≤ 1000000) :
    Calls Try.prog 14 #[refNet room v lost, .int .i64 i] w fun e w' => ∃ v', e = .returned (.tuple #[refNet room v' (lost + 1), .int .i64 0]) ∧ w'.ownsRow w.heap.size 9 1 v' (l.eraseIdx i).length (strV (l.eraseIdx i)) ∧ Below w.heap.size w w' := by
  obtain ⟨a, cap, rfl, _, _⟩ := hv.form
  have HV := Lib.hid hv
  clear hv
  unfold refNet
  go_enter Try.func14, Try.ntmps14
  go_wp2_with fail
  refine (Take_in _ _ l room lost i ?_ hi hl).mono ?_
  · exact HV.out.ext (((Ext.refl (fun _ => False) w).alloc _).alloc _) (fun _ _ h => h)
  rintro e w1 ⟨v1, rfl, hown, hb⟩
  obtain ⟨a1, cap1, rfl, _, _⟩ := ownsRow_slice hown
  obtain ⟨hb1, hc1, hf1⟩ := live (.ofB hb) (heap_new' (w := w.alloc _) (k := w.heap.size + 1) _ (by simp)) (fun h => h)
  have hz := hb.size
  simp only [World.size_alloc] at hz hown
  have hne : ¬ w.heap.size + 1 = w1.heap.size := by omega
  have hlt : w.heap.size + 1 < w1.heap.size := by omega
  have HB := Lib.hid hb
  have HO := Lib.hid hown
  clear hb hb1 hown
  go_wp2
  refine bodyPost_ret (v := .tuple #[refNet room (.slice a1 (l.eraseIdx i).length cap1) (lost + 1), .int .i64 0]) (by simp [results, Try.results14, go_sem, refNet, *]) rfl ⟨_, rfl, ?_, ?_⟩
  · refine own_base (own_ext (S := fun k => k = w.heap.size + 1) HO.out ?_ (fun k hk e => by have := HO.out.lt k hk; omega)) (fun k hk => by have := HO.out.lt k hk; omega)
    repeat (first | exact Ext.refl _ _ | refine Ext.setCell ?_ (by simp) _ | refine Ext.alloc ?_ _)
  have h5 : Below w.heap.size w w1 := (((Below.refl _ w).alloc (Nat.le_refl _) _).alloc (by simp) _).trans (HB.out.mono (by simp; omega))
  repeat (first | exact h5 | refine Bl.set ?_ (by omega) _ | refine Bl.new ?_ _)

theorem Double_out (w : World) (v : Value) (l : List ByteArray) (room lost : Int) (i : Int) (hv : Sl w v 1 l.length (strV l)) (hi : i < 0 ∨ (l.length : Int) ≤ i) :
    Calls Try.prog 16 #[refNet room v lost, .int .i64 i] w fun e w' => e = .returned (.tuple #[refNet room v lost, .int .i64 3]) ∧ Below w.heap.size w w' := by
  obtain ⟨a, cap, rfl, _, _⟩ := hv.form
  have HI := Lib.hid hi
  have HV := Lib.hid hv
  clear hv hi
  unfold refNet
  go_enter Try.func16, Try.ntmps16
  go_wp2_with fail
  refine (has_out _ _ l room lost i ?_ HI.out).mono ?_
  · exact HV.out.ext (((Ext.refl (fun _ => False) w).alloc _).alloc _) (fun _ _ h => h)
  rintro e w1 ⟨rfl, hb⟩
  obtain ⟨hb0, hc0, hf0⟩ := live (.ofB hb) (heap_at (heap_new w _) _) (fun h => h)
  obtain ⟨hb1, hc1, hf1⟩ := live (.ofB hb) (heap_new' (w := w.alloc _) (k := w.heap.size + 1) _ (by simp)) (fun h => h)
  have hz := hb.size
  simp only [World.size_alloc] at hz
  have HB := Lib.hid hb
  clear hb hb0 hb1
  go_wp2
  refine bodyPost_ret (v := .tuple #[refNet room (.slice a l.length cap) lost, .int .i64 3]) (by simp [results, Try.results16, go_sem, refNet, *]) rfl ⟨rfl, ?_⟩
  have h5 : Below w.heap.size w w1 := (((Below.refl _ w).alloc (Nat.le_refl _) _).alloc (by simp) _).trans (HB.out.mono (by simp; omega))
  repeat (first | exact h5 | refine Bl.set ?_ (by omega) _ | refine Bl.new ?_ _)

set_option maxRecDepth 100000 in
theorem Double_room (w : World) (v : Value) (l : List ByteArray) (room lost : Int) (i : Nat) (hv : Sl w v 1 l.length (strV l)) (hi : i < l.length) (hl : (l.length : Int) < room) (hr : room ≤ 1024) :
    Calls Try.prog 16 #[refNet room v lost, .int .i64 i] w fun e w' => ∃ v', e = .returned (.tuple #[refNet room v' lost, .int .i64 0]) ∧ w'.ownsRow w.heap.size 9 1 v' (l ++ [l[i]]).length (strV (l ++ [l[i]])) ∧ Below w.heap.size w w' := by
  rcases hv.2 with ⟨_, h0⟩ | ⟨a, cap, rfl, hn, hm, hc⟩
  · omega
  have hci := hc i _ (strV_get l i hi)
  have h0 : (0 : Int) ≤ (i : Int) := by omega
  have h1 : (i : Int) < (l.length : Int) := by omega
  have HV := Lib.hid hv
  clear hv hc
  unfold refNet
  go_enter Try.func16, Try.ntmps16
  go_wp2_with fail
  refine (has_in _ _ l room lost i ?_ hi).mono ?_
  · exact HV.out.ext (((Ext.refl (fun _ => False) w).alloc _).alloc _) (fun _ _ h => h)
  rintro e w1 ⟨rfl, hb⟩
  obtain ⟨hb0, hc0, hf0⟩ := live (.ofB hb) (heap_at (heap_new w _) _) (fun h => h)
  obtain ⟨hb1, hc1, hf1⟩ := live (.ofB hb) (heap_new' (w := w.alloc _) (k := w.heap.size + 1) _ (by simp)) (fun h => h)
  have hE1 := (((Ext.refl (fun _ => False) w).alloc _).alloc _).trans (.ofB hb)
  have hci1 := hE1.cellOf hci (fun h => h)
  have hz := hb.size
  simp only [World.size_alloc] at hz
  have HE1 := Lib.hid hE1
  have Hb1 := Lib.hid hb1
  clear hb hb0 hb1 hci hE1
  go_wp2_with fail
  have HV2 : ∀ W, W = w1.drew → Sl W (.slice (some a) l.length cap) 1 l.length (strV l) := fun W e => by rw [e]; exact HV.out.ext (HE1.out.drew) (fun _ _ h => h)
  have HV2' := Lib.hid HV2
  clear HV2
  go_region_with (go_at_call 10; refine (Put_room w1.drew _ l l[i] room lost (HV2'.out _ rfl) hl hr).mono ?_; rintro e w2 ⟨v1, rfl, hown, hb⟩; obtain ⟨a1, cap1, rfl, _, _⟩ := ownsRow_slice hown; obtain ⟨hb2, hd1, hg1⟩ := live (.ofB hb) (w := w1.drew) Hb1.out (fun h => h))
  all_goals
    have hz2 := hb.size
    simp only [World.size_drew] at hz2 hown
    have HB := Lib.hid hb
    have HO := Lib.hid hown
    clear hb hb2 hown hc1 hf1 hc0 hf0
    go_wp2
    refine bodyPost_ret (v := .tuple #[refNet room (.slice a1 (l ++ [l[i]]).length cap1) lost, .int .i64 0]) (by simp [results, Try.results16, go_sem, refNet, *]) rfl ⟨_, rfl, ?_, ?_⟩
    · refine own_base (own_ext (S := fun k => k = w.heap.size + 1) HO.out ?_ (fun k hk e => by have := HO.out.lt k hk; omega)) (fun k hk => by have := HO.out.lt k hk; omega)
      repeat (first | exact Ext.refl _ _ | refine Ext.setCell ?_ (by simp) _ | refine Ext.alloc ?_ _)
    have h5 : Below w.heap.size w w2 := Bl.call (Bl.drew (HE1.out.below (fun _ _ h => h))) HB.out
    repeat (first | exact h5 | refine Bl.set ?_ (by omega) _ | refine Bl.new ?_ _)

set_option maxRecDepth 100000 in
theorem Double_full (w : World) (v : Value) (l : List ByteArray) (room lost : Int) (i : Nat) (hv : Sl w v 1 l.length (strV l)) (hi : i < l.length) (hl : (l.length : Int) = room) (hl0 : 0 ≤ lost) (hl1 : lost ≤ 1000000) :
    Calls Try.prog 16 #[refNet room v lost, .int .i64 i] w fun e w' => e = .returned (.tuple #[refNet room v (lost + 1), .int .i64 8]) ∧ Below w.heap.size w w' := by
  rcases hv.2 with ⟨_, h0⟩ | ⟨a, cap, rfl, hn, hm, hc⟩
  · omega
  have hci := hc i _ (strV_get l i hi)
  have h0 : (0 : Int) ≤ (i : Int) := by omega
  have h1 : (i : Int) < (l.length : Int) := by omega
  have HV := Lib.hid hv
  have HL := Lib.hid hl
  clear hv hc hl
  unfold refNet
  go_enter Try.func16, Try.ntmps16
  go_wp2_with fail
  refine (has_in _ _ l room lost i ?_ hi).mono ?_
  · exact HV.out.ext (((Ext.refl (fun _ => False) w).alloc _).alloc _) (fun _ _ h => h)
  rintro e w1 ⟨rfl, hb⟩
  obtain ⟨hb0, hc0, hf0⟩ := live (.ofB hb) (heap_at (heap_new w _) _) (fun h => h)
  obtain ⟨hb1, hc1, hf1⟩ := live (.ofB hb) (heap_new' (w := w.alloc _) (k := w.heap.size + 1) _ (by simp)) (fun h => h)
  have hE1 := (((Ext.refl (fun _ => False) w).alloc _).alloc _).trans (.ofB hb)
  have hci1 := hE1.cellOf hci (fun h => h)
  have hz := hb.size
  simp only [World.size_alloc] at hz
  have HE1 := Lib.hid hE1
  have Hb1 := Lib.hid hb1
  clear hb hb0 hb1 hci hE1
  go_wp2_with fail
  have HV2 : ∀ W, W = w1.drew → Sl W (.slice (some a) l.length cap) 1 l.length (strV l) := fun W e => by rw [e]; exact HV.out.ext (HE1.out.drew) (fun _ _ h => h)
  have HV2' := Lib.hid HV2
  clear HV2
  go_region_with (go_at_call 10; refine (Put_full w1.drew _ l l[i] room lost (HV2'.out _ rfl) HL.out hl0 hl1).mono ?_; rintro e w2 ⟨rfl, hb⟩; obtain ⟨hb2, hd1, hg1⟩ := live (.ofB hb) (w := w1.drew) Hb1.out (fun h => h))
  all_goals
    have hz2 := hb.size
    simp only [World.size_drew] at hz2
    have HB := Lib.hid hb
    clear hb hb2 hc1 hf1 hc0 hf0
    go_wp2
    refine bodyPost_ret (v := .tuple #[refNet room (.slice (some a) l.length cap) (lost + 1), .int .i64 8]) (by simp [results, Try.results16, go_sem, refNet, *]) rfl ⟨rfl, ?_⟩
    have h5 : Below w.heap.size w w2 := Bl.call (Bl.drew (HE1.out.below (fun _ _ h => h))) HB.out
    repeat (first | exact h5 | refine Bl.set ?_ (by omega) _ | refine Bl.new ?_ _)

end Go.Proofs.Ytoeohgplobbojaa.NetB
