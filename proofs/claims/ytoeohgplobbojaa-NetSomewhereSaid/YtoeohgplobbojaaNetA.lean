/-
  WHAT IS PROVED: what the program's network does, function by function, over a network that lies in memory. No condition beside those that each theorem names.
-/
import Derived.Test.YtoeohgplobbojaaRows
import Derived.Test.YtoeohgplobbojaaShelf
import Derived.Test.YtoeohgplobbojaaBase
import Derived.Outline
import Derived.Deep.QuietTactic
import Derived.BigQuiet
import Derived.OwnWalk
import Derived.Lib.OwnBridge
import Derived.Deep.DeepMust
namespace Go.Proofs.Ytoeohgplobbojaa.NetA
open Go Go.RowKit Go.ChangeShapes Go.WideShapes Go.ChangeAt Go.Proofs.Ytoeohgplobbojaa
set_option linter.unusedVariables false

theorem tyStrs : SliceTy Try.prog 28 9 1 16 (.string ByteArray.empty) :=
  SliceTy.mk' (by kernel_rfl) (by kernel_rfl) rfl (by omega)

/-- A network that lies at block b: what is on its way, its room, how many were lost. -/
structure NetR (w : World) (b base : Nat) (v : Value) (l : List ByteArray) (room lost : Int) : Prop where
  blk : w.heap[b]? = some (.cells #[v, .int .i64 room, .int .i64 lost] 80 (0, 0))
  own : w.ownsRow base 9 1 v l.length (strV l)
  ne : v.ownBlock ≠ some b
  room0 : 1 ≤ room ∧ room ≤ 1024
  len : (l.length : Int) ≤ room
  lost0 : 0 ≤ lost ∧ lost ≤ 1000000

theorem NetR.form {w : World} {b base : Nat} {v : Value} {l : List ByteArray} {room lost : Int} (h : NetR w b base v l room lost) : ∃ a cap, v = .slice a l.length cap ∧ l.length ≤ cap ∧ cap ≤ maxLen := (Sl.ofOwn h.own).form

theorem NetR.cell0 {w : World} {b base : Nat} {v : Value} {l : List ByteArray} {room lost : Int} (h : NetR w b base v l room lost) : w.cell? ⟨b, 0, none⟩ = some v := by
  rw [cell_of_row w b 0 _ _ _ h.blk]; rfl
theorem NetR.cell1 {w : World} {b base : Nat} {v : Value} {l : List ByteArray} {room lost : Int} (h : NetR w b base v l room lost) : w.cell? ⟨b, 1, none⟩ = some (.int .i64 room) := by
  rw [cell_of_row w b 1 _ _ _ h.blk]; rfl
theorem NetR.cell2 {w : World} {b base : Nat} {v : Value} {l : List ByteArray} {room lost : Int} (h : NetR w b base v l room lost) : w.cell? ⟨b, 2, none⟩ = some (.int .i64 lost) := by
  rw [cell_of_row w b 2 _ _ _ h.blk]; rfl
set_option maxHeartbeats 400000 in
theorem add_full (b base : Nat) (w : World) (v : Value) (l : List ByteArray) (room lost : Int) (s : ByteArray) (h : NetR w b base v l room lost) (hl : (l.length : Int) = room) :
    Calls Try.prog 36 #[.pointer (some ⟨b, 0, none⟩), .string s] w fun e w' => e = .returned (.bool false) ∧ ∃ n, w' = w.drewN n := by
  obtain ⟨a, cap, rfl, _, _⟩ := h.form
  have hc0 := h.cell0
  have hc1 := h.cell1
  have hl2 : ((l.length : Int) == room) = true := by simp [hl]
  clear h hl
  go_enter Try.func36, Try.ntmps36
  go_wp2
  go_quiet (fail)
  go_wp2
  go_ret
  exact ⟨rfl, _, rfl⟩

set_option maxHeartbeats 400000 in
theorem add_room (b base : Nat) (w : World) (v : Value) (l : List ByteArray) (room lost : Int) (s : ByteArray) (h : NetR w b base v l room lost) (hl : (l.length : Int) < room) (hb : base ≤ w.heap.size) :
    Calls Try.prog 36 #[.pointer (some ⟨b, 0, none⟩), .string s] w fun e w' => e = .returned (.bool true) ∧
      ∃ v', NetR w' b base v' (l ++ [s]) room lost ∧ Ext (fun k => k = b ∨ v.ownBlock = some k) w w' ∧ (v'.ownBlock = v.ownBlock ∨ ∃ k, v'.ownBlock = some k ∧ w.heap.size ≤ k) := by
  obtain ⟨a, cap, rfl, hcap, hm⟩ := h.form
  have hc0 := h.cell0
  have hc1 := h.cell1
  have hl2 : ((l.length : Int) == room) = false := by simp; omega
  have hfr : w.frozen? ⟨b, 0, none⟩ = false := frozen_row h.blk
  have H := Lib.hid h
  have hlt := World.block_lt_of_cell? w _ hc0
  clear h
  go_enter Try.func36, Try.ntmps36
  go_wp2
  go_quiet (fail)
  go_wp2_with (at_builtin; go_must (refine wpList_app _ rfl _ _ _ _ rfl tyStrs base (.slice a l.length cap) l.length (strV l) rfl ?own (.slice (some ⟨w.heap.size, 0, none⟩) 1 1) 1 [.string s] rfl ?src (l.length + 1) rfl (strV (l ++ [s])) (by simp [strV]) ?h63 ?hby ?hba ?go))
  case own => exact own_ext (S := fun _ => False) H.out.own (((Ext.refl _ _).drewN _).alloc _) (fun _ _ h => h)
  case src => exact Src.ofSlice _ Try.underlying28 _ _ _ _ rfl (by simpa using cell_one_new (w.drewN nq) (.string s) 9) (by simp [Value.oneCell'])
  case h63 => have := H.out.len; have := H.out.room0; unfold maxLen; omega
  case hby => have := H.out.len; have := H.out.room0; omega
  case hba => simp; omega
  case go =>
    intro a' c' w1 hown1 hgrow hat
    have hE := (((Ext.refl (fun k => (Value.slice a l.length cap).ownBlock = some k) w).drewN nq).alloc (.cells #[.string s] 9)).grown hgrow (fun k h => .inl h)
    have hb1 := hE.blockOf H.out.blk H.out.ne
    have hc1 : w1.cell? ⟨b, 0, none⟩ = some (.slice a l.length cap) := cell_row hb1
    have hf1 : w1.frozen? ⟨b, 0, none⟩ = false := frozen_row hb1
    have Hb1 := Lib.hid hb1
    have HE := Lib.hid hE
    clear hb1 hE
    go_wp2
    go_ret
    refine ⟨rfl, .slice a' (l.length + 1) c', ?_, ?_, ?_⟩
    · have hl1 := lt_row Hb1.out
      have hown2 : (Value.slice a' (l.length + 1) c').ownBlock ≠ some b := by
        rcases hat with h | h
        · rw [h]; exact H.out.ne
        · rw [h]; intro e; cases e; omega
      exact ⟨heap_setCell_same Hb1.out _, by simpa using own_ext (S := fun k => k = b) hown1 (Ext.set1 _ _ _ _) (fun k hk e => hown2 (e ▸ hk)), hown2, H.out.room0, by simp; omega, H.out.lost0⟩
    · exact (HE.out.mono fun _ _ h => .inr h).setCell (.inl (.inl rfl)) _
    · rcases hat with h | h
      · exact .inl h
      · exact .inr ⟨_, h, by omega⟩

theorem strs_get {w : World} {a : Addr} {l : List ByteArray} (h : ∀ j u, (strV l)[j]? = some u → w.cell? (a.add j) = some u) (i : Nat) (hi : i < l.length) : w.cell? (a.add i) = some (.string l[i]) :=
  h i _ (by simp [strV, hi])

theorem at_out (b base : Nat) (w : World) (v : Value) (l : List ByteArray) (room lost : Int) (i : Int) (h : NetR w b base v l room lost) (hi : i < 0 ∨ (l.length : Int) ≤ i) :
    Calls Try.prog 39 #[.pointer (some ⟨b, 0, none⟩), .int .i64 i] w fun e w' => e = .returned (.tuple #[.string ByteArray.empty, .bool false]) ∧ w = w' := by
  obtain ⟨a, cap, rfl, _, _⟩ := h.form
  have hc0 := h.cell0
  clear h
  by_cases h0 : i < 0
  · go_enter Try.func39, Try.ntmps39
    go_wp2
    go_ret2
    exact ⟨rfl, rfl⟩
  · have h1 : (l.length : Int) ≤ i := by omega
    go_enter Try.func39, Try.ntmps39
    go_wp2
    go_ret2
    exact ⟨rfl, rfl⟩

theorem at_in (b base : Nat) (w : World) (v : Value) (l : List ByteArray) (room lost : Int) (i : Nat) (h : NetR w b base v l room lost) (hi : i < l.length) :
    Calls Try.prog 39 #[.pointer (some ⟨b, 0, none⟩), .int .i64 i] w fun e w' => e = .returned (.tuple #[.string l[i], .bool true]) ∧ w = w' := by
  rcases h.own.2 with ⟨_, hn⟩ | ⟨g, cap, cur, rfl, hb, hg, hn, hm, hs, ht⟩
  · omega
  have hc0 := h.cell0
  have hci := strs_get (h.own.cells (g := g) rfl) i hi
  rw [Addr.add_mid, Nat.zero_add] at hci
  have hlen : l.length ≤ 9223372036854775807 := by unfold maxLen at hm; omega
  have h0 : (0 : Int) ≤ (i : Int) := by omega
  have h1 : (i : Int) < (l.length : Int) := by omega
  clear h
  go_enter Try.func39, Try.ntmps39
  go_wp2
  go_ret2
  exact ⟨rfl, rfl⟩

theorem Len_ok (b base : Nat) (w : World) (v : Value) (l : List ByteArray) (room lost : Int) (h : NetR w b base v l room lost) :
    Calls Try.prog 18 #[.pointer (some ⟨b, 0, none⟩)] w fun e w' => e = .returned (.int .i64 l.length) ∧ w = w' := by
  obtain ⟨a, cap, rfl, _, _⟩ := h.form
  have hc0 := h.cell0
  clear h
  go_enter Try.func18, Try.ntmps18
  go_wp2
  go_ret
  exact ⟨rfl, rfl⟩

theorem Lost_ok (b base : Nat) (w : World) (v : Value) (l : List ByteArray) (room lost : Int) (h : NetR w b base v l room lost) :
    Calls Try.prog 19 #[.pointer (some ⟨b, 0, none⟩)] w fun e w' => e = .returned (.int .i64 lost) ∧ w = w' := by
  have hc0 := h.cell2
  clear h
  go_enter Try.func19, Try.ntmps19
  go_wp2
  go_ret
  exact ⟨rfl, rfl⟩

theorem New_no (w : World) (n : Int) (hn : n < 1 ∨ 1024 < n) :
    Calls Try.prog 8 #[.int .i64 n] w fun e w' => e = .returned (.tuple #[.pointer none, .int .i64 1]) ∧ w = w' := by
  by_cases h0 : n < 1
  · go_enter Try.func8, Try.ntmps8
    go_wp2
    go_ret2
    exact ⟨rfl, rfl⟩
  · have h1 : 1024 < n := by omega
    go_enter Try.func8, Try.ntmps8
    go_wp2
    go_ret2
    exact ⟨rfl, rfl⟩

theorem New_ok (w : World) (n : Int) (h1 : 1 ≤ n) (h2 : n ≤ 1024) (base : Nat) (hbase : base ≤ w.heap.size) :
    Calls Try.prog 8 #[.int .i64 n] w fun e w' => ∃ b, e = .returned (.tuple #[.pointer (some ⟨b, 0, none⟩), .int .i64 0]) ∧ w.heap.size ≤ b ∧ NetR w' b base (.slice none 0 0) [] n 0 ∧ Below w.heap.size w w' := by
  go_enter Try.func8, Try.ntmps8
  go_wp2
  go_ret2
  exact ⟨_, rfl, Nat.le_refl _, ⟨heap_new _ _, World.ownsRow_nil _ _ _ _, by simp [Value.ownBlock], ⟨h1, h2⟩, by simp; omega, by omega⟩, (Below.refl _ _).alloc (Nat.le_refl _) _⟩


/-- slices.Delete of one, over a slice that is owned. -/
theorem Delete_ok (w : World) (base g cap : Nat) (l : List ByteArray) (i : Nat) (hi : i < l.length) (h : w.ownsRow base 9 1 (.slice (some ⟨g, 0, none⟩) l.length cap) l.length (strV l)) :
    Calls Try.prog 48 #[.slice (some ⟨g, 0, none⟩) l.length cap, .int .i64 i, .int .i64 (i + 1)] w fun e w' => e = .returned (.slice (some ⟨g, 0, none⟩) (l.length - 1) cap) ∧
      w'.ownsRow base 9 1 (.slice (some ⟨g, 0, none⟩) (l.length - 1) cap) (l.length - 1) (strV (l.eraseIdx i)) ∧ Ext (fun k => k = g) w w' := by
  rcases h.2 with ⟨hx, _⟩ | ⟨g', cap', cur, hx, hb, hg, hn, hm, hs, ht⟩
  · cases hx
  cases hx
  refine (Try.slices_Delete_string_cells g 0 l.length cap i (i + 1) (fun j => l.getD j ByteArray.empty) w hn (by unfold maxLen at hm; omega) (by omega) (by omega) ?_ ?_).mono ?_
  · intro j hj
    rw [Nat.zero_add, cell_row hg]
    have : (strV l)[j]? = some (.string l[j]) := by simp [strV, hj]
    rw [← ht, List.getElem?_take, if_pos (by omega)] at this
    simpa [List.getD, hj] using this
  · intro j hj
    exact frozen_row hg
  · rintro e w' ⟨rfl, q, rfl⟩
    have hvs : ((Lib.strsOf (fun j => l.getD j ByteArray.empty) l.length).take i ++ (Lib.strsOf (fun j => l.getD j ByteArray.empty) l.length).drop (i + 1) ++ List.replicate (i + 1 - i) []).map encStr = strV (l.eraseIdx i) ++ [.string ByteArray.empty] := by
      have hS : (Lib.strsOf (fun j => l.getD j ByteArray.empty) l.length) = l.map (·.data.toList) := by
        unfold Lib.strsOf
        apply List.ext_getElem?
        intro k
        by_cases hk : k < l.length <;> simp [hk, List.getD]
      rw [hS, show i + 1 - i = 1 by omega, List.map_append, List.map_append, ← List.map_take, ← List.map_drop, Lib.map_encStr, Lib.map_encStr, List.eraseIdx_eq_take_drop_succ]
      simp [strV, encStr, List.map_take, List.map_drop]
      rfl
    rw [hvs]
    have hw : (w.drewN q).ownsRow base 9 1 (.slice (some ⟨g, 0, none⟩) l.length cap) l.length (strV l) := own_ext (S := fun _ => False) h ((Ext.refl _ _).drewN _) (fun _ _ h => h)
    have hle : (strV (l.eraseIdx i)).length = l.length - 1 := by rw [strV_length, List.length_eraseIdx, if_pos hi]
    have := own_setCells hw (vs := strV (l.eraseIdx i) ++ [.string ByteArray.empty]) (m := l.length - 1) (by simp; omega) (by omega)
    refine ⟨by simp, ?_, ?_⟩
    · rwa [Nat.mul_one, List.take_left' hle] at this
    · exact (((Ext.refl _ _).drewN q)).trans (Ext.setMany g _ 0 _)

/-- What becomes of the slice: it stays in its block, or lies in a new one. -/
def From (w : World) (v v' : Value) : Prop := ∀ k, v'.ownBlock = some k → v.ownBlock = some k ∨ w.heap.size ≤ k
theorem From.refl (w : World) (v : Value) : From w v v := fun _ h => .inl h

theorem NetR.ext {S : Nat → Prop} {w w' : World} {b base : Nat} {v : Value} {l : List ByteArray} {room lost : Int} (h : NetR w b base v l room lost) (he : Ext S w w') (h1 : ¬ S b) (h2 : ∀ k, v.ownBlock = some k → ¬ S k) : NetR w' b base v l room lost :=
  ⟨he.blockOf h.blk h1, own_ext h.own he h2, h.ne, h.room0, h.len, h.lost0⟩

def Foot (b : Nat) (v : Value) (k : Nat) : Prop := k = b ∨ v.ownBlock = some k

theorem cut_out (b base : Nat) (w : World) (v : Value) (l : List ByteArray) (room lost : Int) (i : Int) (h : NetR w b base v l room lost) (hi : i < 0 ∨ (l.length : Int) ≤ i) :
    Calls Try.prog 38 #[.pointer (some ⟨b, 0, none⟩), .int .i64 i] w fun e w' => e = .returned (.tuple #[.string ByteArray.empty, .bool false]) ∧ w = w' := by
  go_enter Try.func38, Try.ntmps38
  go_wp2_with (go_at_call 39; refine (at_out b base _ v l room lost i h hi).mono ?_; rintro e w' ⟨rfl, rfl⟩)
  go_ret2
  exact ⟨rfl, rfl⟩

theorem cut_in (b base : Nat) (w : World) (v : Value) (l : List ByteArray) (room lost : Int) (i : Nat) (h : NetR w b base v l room lost) (hi : i < l.length) :
    Calls Try.prog 38 #[.pointer (some ⟨b, 0, none⟩), .int .i64 i] w fun e w' => e = .returned (.tuple #[.string l[i], .bool true]) ∧
      ∃ v', NetR w' b base v' (l.eraseIdx i) room lost ∧ Ext (Foot b v) w w' ∧ From w v v' := by
  rcases h.own.2 with ⟨_, hn⟩ | ⟨g, cap, cur, rfl, hb, hg, hn, hm, hs, ht⟩
  · omega
  have hc0 := h.cell0
  have hlen : (l.length : Int) ≤ 1024 := by have := h.len; have := h.room0; omega
  have hi1 : (i : Int) + 1 ≤ 2000 := by omega
  have hi0 : 0 ≤ (i : Int) := by omega
  have H := Lib.hid h
  clear h ht hs hg
  go_enter Try.func38, Try.ntmps38
  go_wp2_with (first | (go_at_call 39; refine (at_in b base _ _ l room lost i H.out hi).mono ?_; rintro e w' ⟨rfl, rfl⟩))
  refine (Delete_ok w base g cap l i hi H.out.own).mono ?_
  rintro e w1 ⟨rfl, hown1, hE⟩
  have hgb : g ≠ b := fun e => H.out.ne (by rw [e]; rfl)
  have hb1 := hE.blockOf H.out.blk (fun e => hgb e.symm)
  have hc1 : w1.cell? ⟨b, 0, none⟩ = some (.slice (some ⟨g, 0, none⟩) l.length cap) := cell_row hb1
  have hf1 : w1.frozen? ⟨b, 0, none⟩ = false := frozen_row hb1
  have Hb1 := Lib.hid hb1
  have HE := Lib.hid hE
  have Hown := Lib.hid hown1
  clear hb1 hE hown1 hgb
  go_wp2
  go_ret2
  have hgb : g ≠ b := fun e => H.out.ne (by rw [e]; rfl)
  refine ⟨rfl, .slice (some ⟨g, 0, none⟩) (l.length - 1) cap, ⟨?_, ?_, ?_, H.out.room0, ?_, H.out.lost0⟩, ?_, fun k hk => .inl hk⟩
  · exact heap_setCell_same Hb1.out _
  · rw [List.length_eraseIdx, if_pos hi]
    exact own_ext (S := fun k => k = b) Hown.out (Ext.set1 _ _ _ _) (fun k hk e => hgb (by cases hk; exact e))
  · intro e; exact hgb (by cases e; rfl)
  · have := H.out.len; rw [List.length_eraseIdx, if_pos hi]; omega
  · exact (HE.out.mono fun k _ h => .inr (by rw [h]; rfl)).setCell (.inl (.inl rfl)) _

theorem Put_full (b base : Nat) (w : World) (v : Value) (l : List ByteArray) (room lost : Int) (s : ByteArray) (h : NetR w b base v l room lost) (hl : (l.length : Int) = room) (hlo : lost < 1000000) :
    Calls Try.prog 11 #[.pointer (some ⟨b, 0, none⟩), .string s] w fun e w' => e = .returned (.int .i64 8) ∧ NetR w' b base v l room (lost + 1) ∧ Ext (Foot b v) w w' := by
  have hc2 := h.cell2
  have hf2 : w.frozen? ⟨b, 2, none⟩ = false := frozen_row h.blk
  have H := Lib.hid h
  have h0 : 0 ≤ lost := h.lost0.1
  clear h
  go_enter Try.func11, Try.ntmps11
  go_wp2_with (first | (go_at_call 36; refine (add_full b base w v l room lost s H.out hl).mono ?_; rintro e w' ⟨rfl, n, rfl⟩))
  go_ret
  refine ⟨rfl, ⟨?_, ?_, H.out.ne, H.out.room0, H.out.len, by omega⟩, (((Ext.refl _ w).drewN n).setCell (.inl (.inl rfl)) _)⟩
  · exact heap_setCell_same (w := w.drewN n) (b := b) (j := 2) H.out.blk _
  · exact own_ext (S := fun k => k = b) H.out.own (((Ext.refl _ w).drewN n).trans (Ext.set1 _ _ _ _)) (fun k hk e => H.out.ne (by rw [hk, e]))

theorem Put_room (b base : Nat) (w : World) (v : Value) (l : List ByteArray) (room lost : Int) (s : ByteArray) (h : NetR w b base v l room lost) (hl : (l.length : Int) < room) (hb : base ≤ w.heap.size) :
    Calls Try.prog 11 #[.pointer (some ⟨b, 0, none⟩), .string s] w fun e w' => e = .returned (.int .i64 0) ∧ ∃ v', NetR w' b base v' (l ++ [s]) room lost ∧ Ext (Foot b v) w w' ∧ From w v v' := by
  go_enter Try.func11, Try.ntmps11
  go_wp2_with (first | (go_at_call 36; refine (add_room b base w v l room lost s h hl hb).mono ?_; rintro e w' ⟨rfl, v', h1, h2, h3⟩))
  go_ret
  exact ⟨rfl, v', h1, h2, fun k hk => by rcases h3 with h3 | ⟨k', h3, h4⟩; exact .inl (h3 ▸ hk); exact .inr (by rw [h3] at hk; cases hk; exact h4)⟩

theorem Take_out (b base : Nat) (w : World) (v : Value) (l : List ByteArray) (room lost : Int) (i : Int) (h : NetR w b base v l room lost) (hi : i < 0 ∨ (l.length : Int) ≤ i) :
    Calls Try.prog 13 #[.pointer (some ⟨b, 0, none⟩), .int .i64 i] w fun e w' => e = .returned (.tuple #[.string ByteArray.empty, .int .i64 3]) ∧ w = w' := by
  go_enter Try.func13, Try.ntmps13
  go_wp2_with (go_at_call 38; refine (cut_out b base _ v l room lost i h hi).mono ?_; rintro e w' ⟨rfl, rfl⟩)
  go_ret2
  exact ⟨rfl, rfl⟩

theorem Take_in (b base : Nat) (w : World) (v : Value) (l : List ByteArray) (room lost : Int) (i : Nat) (h : NetR w b base v l room lost) (hi : i < l.length) :
    Calls Try.prog 13 #[.pointer (some ⟨b, 0, none⟩), .int .i64 i] w fun e w' => e = .returned (.tuple #[.string l[i], .int .i64 0]) ∧
      ∃ v', NetR w' b base v' (l.eraseIdx i) room lost ∧ Ext (Foot b v) w w' ∧ From w v v' := by
  go_enter Try.func13, Try.ntmps13
  go_wp2_with (go_at_call 38; refine (cut_in b base _ v l room lost i h hi).mono ?_; rintro e w' ⟨rfl, v', h1⟩)
  go_ret2
  exact ⟨rfl, v', h1⟩

theorem Drop_out (b base : Nat) (w : World) (v : Value) (l : List ByteArray) (room lost : Int) (i : Int) (h : NetR w b base v l room lost) (hi : i < 0 ∨ (l.length : Int) ≤ i) :
    Calls Try.prog 15 #[.pointer (some ⟨b, 0, none⟩), .int .i64 i] w fun e w' => e = .returned (.int .i64 3) ∧ w = w' := by
  go_enter Try.func15, Try.ntmps15
  go_wp2_with (go_at_call 13; refine (Take_out b base _ v l room lost i h hi).mono ?_; rintro e w' ⟨rfl, rfl⟩)
  go_ret
  exact ⟨rfl, rfl⟩

theorem Drop_in (b base : Nat) (w : World) (v : Value) (l : List ByteArray) (room lost : Int) (i : Nat) (h : NetR w b base v l room lost) (hi : i < l.length) (hlo : lost < 1000000) :
    Calls Try.prog 15 #[.pointer (some ⟨b, 0, none⟩), .int .i64 i] w fun e w' => e = .returned (.int .i64 0) ∧
      ∃ v', NetR w' b base v' (l.eraseIdx i) room (lost + 1) ∧ Ext (Foot b v) w w' ∧ From w v v' := by
  have h0 := h.lost0.1
  go_enter Try.func15, Try.ntmps15
  go_wp2_with fail
  refine (Take_in b base _ v l room lost i h hi).mono ?_
  rintro e w1 ⟨rfl, v', h1, h2, h3⟩
  have hc2 := h1.cell2
  have hf2 : w1.frozen? ⟨b, 2, none⟩ = false := frozen_row h1.blk
  have H := Lib.hid h1
  have HE := Lib.hid h2
  clear h1 h2 h
  go_wp2
  go_ret
  refine ⟨rfl, v', ⟨?_, ?_, H.out.ne, H.out.room0, H.out.len, by omega⟩, HE.out.setCell (.inl (.inl rfl)) _, h3⟩
  · exact heap_setCell_same (b := b) (j := 2) H.out.blk _
  · exact own_ext (S := fun k => k = b) H.out.own (Ext.set1 _ _ _ _) (fun k hk e => H.out.ne (by rw [hk, e]))

theorem Double_out (b base : Nat) (w : World) (v : Value) (l : List ByteArray) (room lost : Int) (i : Int) (h : NetR w b base v l room lost) (hi : i < 0 ∨ (l.length : Int) ≤ i) :
    Calls Try.prog 17 #[.pointer (some ⟨b, 0, none⟩), .int .i64 i] w fun e w' => e = .returned (.int .i64 3) ∧ w = w' := by
  go_enter Try.func17, Try.ntmps17
  go_wp2_with (go_at_call 39; refine (at_out b base _ v l room lost i h hi).mono ?_; rintro e w' ⟨rfl, rfl⟩)
  go_ret
  exact ⟨rfl, rfl⟩

theorem Double_full (b base : Nat) (w : World) (v : Value) (l : List ByteArray) (room lost : Int) (i : Nat) (h : NetR w b base v l room lost) (hi : i < l.length) (hl : (l.length : Int) = room) (hlo : lost < 1000000) :
    Calls Try.prog 17 #[.pointer (some ⟨b, 0, none⟩), .int .i64 i] w fun e w' => e = .returned (.int .i64 8) ∧ NetR w' b base v l room (lost + 1) ∧ Ext (Foot b v) w w' := by
  go_enter Try.func17, Try.ntmps17
  go_wp2_with (first | (go_at_call 39; refine (at_in b base _ v l room lost i h hi).mono ?_; rintro e w' ⟨rfl, rfl⟩) | (go_at_call 11; refine (Put_full b base w v l room lost l[i] h hl hlo).mono ?_; rintro e w' ⟨rfl, h1⟩))
  go_ret
  exact ⟨rfl, h1⟩

theorem Double_room (b base : Nat) (w : World) (v : Value) (l : List ByteArray) (room lost : Int) (i : Nat) (h : NetR w b base v l room lost) (hi : i < l.length) (hl : (l.length : Int) < room) (hb : base ≤ w.heap.size) :
    Calls Try.prog 17 #[.pointer (some ⟨b, 0, none⟩), .int .i64 i] w fun e w' => e = .returned (.int .i64 0) ∧ ∃ v', NetR w' b base v' (l ++ [l[i]]) room lost ∧ Ext (Foot b v) w w' ∧ From w v v' := by
  go_enter Try.func17, Try.ntmps17
  go_wp2_with (first | (go_at_call 39; refine (at_in b base _ v l room lost i h hi).mono ?_; rintro e w' ⟨rfl, rfl⟩) | (go_at_call 11; refine (Put_room b base w v l room lost l[i] h hl hb).mono ?_; rintro e w' ⟨rfl, h1⟩))
  go_ret
  exact ⟨rfl, h1⟩

end Go.Proofs.Ytoeohgplobbojaa.NetA
