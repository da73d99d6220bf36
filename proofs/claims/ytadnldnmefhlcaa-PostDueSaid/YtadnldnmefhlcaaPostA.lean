/-
  WHAT IS PROVED: a box of letters that is a channel nobody waits for: what is put in, and taken out. No condition beside those that each theorem names.
-/
import Derived.Test.YtadnldnmefhlcaaRows
import Derived.Test.YtadnldnmefhlcaaBase
import Derived.Conc.LoneCalls
import Derived.Conc.LoneSelect
import Derived.Conc.LoneSelectN
import Derived.KernelRfl
namespace Go.Proofs.Ytadnldnmefhlcaa.PostA
open Go Go.RowKit Go.Conc Go.Proofs.Ytadnldnmefhlcaa
set_option linter.unusedVariables false
set_option linter.unusedSimpArgs false

/-- A letter: its mail, and when it was due last. -/
structure Lt where
  id : Int
  to : Int
  text : ByteArray
  at' : Int
  sent : Bool
def Lt.cs (x : Lt) : Array Value := #[.int .i64 x.id, .int .i64 x.to, .string x.text, .int .i64 x.at', .bool x.sent]
def Lt.v (x : Lt) : Value := .agg x.cs

/-- A letter's block, written anew. -/
def set5 (w : World) (B : Nat) (v0 v1 v2 v3 v4 : Value) : World := ((((w.setCell ⟨B, 0, none⟩ v0).setCell ⟨B, 1, none⟩ v1).setCell ⟨B, 2, none⟩ v2).setCell ⟨B, 3, none⟩ v3).setCell ⟨B, 4, none⟩ v4
theorem set5_row {w : World} {B : Nat} {x0 x1 x2 x3 x4 : Value} {t : TypeId} (h : w.heap[B]? = some (.cells #[x0, x1, x2, x3, x4] t (0, 0))) (v0 v1 v2 v3 v4 : Value) :
    (set5 w B v0 v1 v2 v3 v4).heap[B]? = some (.cells #[v0, v1, v2, v3, v4] t (0, 0)) :=
  heap_setCell_same (heap_setCell_same (heap_setCell_same (heap_setCell_same (heap_setCell_same h _) _) _) _) _
theorem set5_far {w : World} {B c : Nat} (h : c ≠ B) (v0 v1 v2 v3 v4 : Value) : (set5 w B v0 v1 v2 v3 v4).heap[c]? = w.heap[c]? := by
  unfold set5
  rw [heap_setCell_far _ h, heap_setCell_far _ h, heap_setCell_far _ h, heap_setCell_far _ h, heap_setCell_far _ h]
theorem set5_ext {S : Nat → Prop} {a w : World} {B : Nat} (h : Ext S a w) (hB : S B ∨ a.heap.size ≤ B) (v0 v1 v2 v3 v4 : Value) : Ext S a (set5 w B v0 v1 v2 v3 v4) :=
  ((((h.setCell (p := ⟨B, 0, none⟩) hB v0).setCell (p := ⟨B, 1, none⟩) hB v1).setCell (p := ⟨B, 2, none⟩) hB v2).setCell (p := ⟨B, 3, none⟩) hB v3).setCell (p := ⟨B, 4, none⟩) hB v4
theorem chan_far (w : World) {c c' : Nat} (cap : Nat) (buf : Array Value) (closed : Bool) (s r : Nat) (tm : Bool) (h : c ≠ c') : (w.setChan c cap buf closed s r tm).heap[c']? = w.heap[c']? := by
  simp [World.setChan, Array.getElem?_setIfInBounds_ne h]
theorem ext_setChan {S : Nat → Prop} {a w : World} (h : Ext S a w) {c : Nat} (hc : S c ∨ a.heap.size ≤ c) (cap : Nat) (buf : Array Value) (cl : Bool) (s r : Nat) (tm : Bool) : Ext S a (w.setChan c cap buf cl s r tm) :=
  ⟨h.os, h.tape, h.output, by simpa [World.setChan] using h.size, fun k hk hs => by
    rw [← h.block k hk hs]
    simp only [World.setChan]
    rw [Array.getElem?_setIfInBounds_ne (by rintro rfl; rcases hc with hc | hc; exact hs hc; omega)]⟩

set_option maxRecDepth 100000 in
theorem put_room (w : World) (c cap s r : Nat) (buf : Array Value) (x : Lt) (hc : w.heap[c]? = some (.chan cap buf false s r false)) (hroom : buf.size < cap) :
    Calls Try.prog 20 #[.agg #[.chan (some c)], x.v] w fun e w' => e = .returned (.bool true) ∧ w'.heap[c]? = some (.chan cap (buf.push x.v) false (s + 1) r false) ∧ Ext (fun k => k = c) w w' := by
  refine calls_of_loneTo fun cs => ?_
  have he : Frame.enter Try.prog 20 #[.agg #[.chan (some c)], x.v] .normal = (base 20).at ⟨#[.agg #[.chan (some c)], x.v, undef, undef, undef, undef, undef, undef, undef, undef, undef], []⟩ [.code (Try.f20.body.getD .skip)] := by
    simp [Frame.enter, Frame.at, Try.func20, base, Try.f20]
  rw [he]
  clear he
  have hcl := lt_row hc
  have hcW : ((w.alloc (.cells #[.chan (some c)] 58)).alloc (.cells #[.int .i64 x.id, .int .i64 x.to, .string x.text, .int .i64 x.at', .bool x.sent] 64)).heap[c]? = some (.chan cap buf false s r false) := heap_at (heap_at hc _) _
  unfold Lt.v Lt.cs
  refine LoneTo.goes (n := 40) ?_
  simp only [Try.f20, Option.getD_some]
  repeat (first | s_c stepG_seq | s_reg | s_op | s_c stepG_region_end | s_c stepG_block)
  s_stop
  refine LoneTo.step (step_lone_select_send_room (c := c) (cap := cap) (buf := buf) (s := s) (r := r) (tm := false) (stepG_comm (cases := #[scase c (.agg #[.int .i64 x.id, .int .i64 x.to, .string x.text, .int .i64 x.at', .bool x.sent]) (.agg #[.int .i64 0, .int .i64 0, .string ⟨#[]⟩, .int .i64 0, .bool false])]) (blocking := false) (shape := .select) (w' := ((w.alloc (.cells #[.chan (some c)] 58)).alloc (.cells #[.int .i64 x.id, .int .i64 x.to, .string x.text, .int .i64 x.at', .bool x.sent] 64))) rfl rfl (by decide) (by simp [go_sem, execOp, scase, Act.eval])) hcW hroom) ?_
  rw [Frame.finish_at]
  walk_nrm
  refine LoneTo.goes (n := 40) ?_
  repeat (first | s_c stepG_seq | s_reg | s_op | s_c stepG_region_end | s_c stepG_block)
  s_cond true
  repeat (first | s_c stepG_seq | s_reg | s_op | s_c stepG_region_end | s_c stepG_block)
  s_c stepG_ret'
  s_stop
  refine LoneTo.done ⟨.returned (.bool true), _, rfl, ⟨rfl, ?_⟩, rfl, rfl, rfl, rfl, _, Try.func20, by simp [results, Try.f20, Frame.at]⟩
  exact ⟨heap_setChan _ _ _ _ _ _ _ _ (by simp; omega), ext_setChan (S := fun k => k = c) (((Ext.refl _ w).alloc _).alloc _) (.inl rfl) _ _ _ _ _ _⟩

set_option maxRecDepth 100000 in
theorem put_full (w : World) (c cap s r : Nat) (buf : Array Value) (x : Lt) (hc : w.heap[c]? = some (.chan cap buf false s r false)) (hfull : cap ≤ buf.size) :
    Calls Try.prog 20 #[.agg #[.chan (some c)], x.v] w fun e w' => e = .returned (.bool false) ∧ Below w.heap.size w w' := by
  refine calls_of_loneTo fun cs => ?_
  have he : Frame.enter Try.prog 20 #[.agg #[.chan (some c)], x.v] .normal = (base 20).at ⟨#[.agg #[.chan (some c)], x.v, undef, undef, undef, undef, undef, undef, undef, undef, undef], []⟩ [.code (Try.f20.body.getD .skip)] := by
    simp [Frame.enter, Frame.at, Try.func20, base, Try.f20]
  rw [he]
  clear he
  have hcl := lt_row hc
  have hcW : ((w.alloc (.cells #[.chan (some c)] 58)).alloc (.cells #[.int .i64 x.id, .int .i64 x.to, .string x.text, .int .i64 x.at', .bool x.sent] 64)).heap[c]? = some (.chan cap buf false s r false) := heap_at (heap_at hc _) _
  unfold Lt.v Lt.cs
  refine LoneTo.goes (n := 40) ?_
  simp only [Try.f20, Option.getD_some]
  repeat (first | s_c stepG_seq | s_reg | s_op | s_c stepG_region_end | s_c stepG_block)
  s_stop
  refine LoneTo.step (step_lone_select_send_full (c := c) (cap := cap) (buf := buf) (s := s) (r := r) (tm := false) (stepG_comm (cases := #[scase c (.agg #[.int .i64 x.id, .int .i64 x.to, .string x.text, .int .i64 x.at', .bool x.sent]) (.agg #[.int .i64 0, .int .i64 0, .string ⟨#[]⟩, .int .i64 0, .bool false])]) (blocking := false) (shape := .select) (w' := ((w.alloc (.cells #[.chan (some c)] 58)).alloc (.cells #[.int .i64 x.id, .int .i64 x.to, .string x.text, .int .i64 x.at', .bool x.sent] 64))) rfl rfl (by decide) (by simp [go_sem, execOp, scase, Act.eval])) hcW hfull) ?_
  rw [Frame.finish_at]
  walk_nrm
  refine LoneTo.goes (n := 40) ?_
  repeat (first | s_c stepG_seq | s_reg | s_op | s_c stepG_region_end | s_c stepG_block)
  s_cond false
  repeat (first | s_c stepG_seq | s_reg | s_op | s_c stepG_region_end | s_c stepG_block)
  s_c stepG_ret'
  s_stop
  refine LoneTo.done ⟨.returned (.bool false), _, rfl, ⟨rfl, ?_⟩, rfl, rfl, rfl, rfl, _, Try.func20, by simp [results, Try.f20, Frame.at]⟩
  exact ((Below.refl _ w).alloc (Nat.le_refl _) _).alloc (by simp) _

set_option maxRecDepth 100000 in
theorem pull_some (w : World) (c cap s r : Nat) (buf : Array Value) (x : Lt) (hc : w.heap[c]? = some (.chan cap (#[x.v] ++ buf) false s r false)) :
    Calls Try.prog 28 #[.agg #[.chan (some c)]] w fun e w' => e = .returned (.tuple #[x.v, .bool true]) ∧ w'.heap[c]? = some (.chan cap buf false s (r + 1) false) ∧ Ext (fun k => k = c) w w' := by
  refine calls_of_loneTo fun cs => ?_
  have he : Frame.enter Try.prog 28 #[.agg #[.chan (some c)]] .normal = (base 28).at ⟨#[.agg #[.chan (some c)], undef, undef, undef, undef, undef, undef, undef, undef, undef, undef, undef, undef, undef], []⟩ [.code (Try.f28.body.getD .skip)] := by
    simp [Frame.enter, Frame.at, Try.func28, base, Try.f28]
  rw [he]
  clear he
  have hcl := lt_row hc
  have hcW : ((w.alloc (.cells #[.chan (some c)] 58)).alloc (.cells #[.int .i64 0, .int .i64 0, .string ⟨#[]⟩, .int .i64 0, .bool false] 64)).heap[c]? = some (.chan cap (#[x.v] ++ buf) false s r false) := heap_at (heap_at hc _) _
  refine LoneTo.goes (n := 40) ?_
  simp only [Try.f28, Option.getD_some]
  repeat (first | s_c stepG_seq | s_reg | s_op | s_c stepG_region_end | s_c stepG_block)
  s_stop
  refine LoneTo.step (step_lone_select_recv_buf (c := c) (cap := cap) (buf := #[x.v] ++ buf) (s := s) (r := r) (tm := false) (z := .agg #[.int .i64 0, .int .i64 0, .string ⟨#[]⟩, .int .i64 0, .bool false]) (stepG_comm (cases := #[rcase c (.agg #[.int .i64 0, .int .i64 0, .string ⟨#[]⟩, .int .i64 0, .bool false])]) (blocking := false) (shape := .select) (w' := ((w.alloc (.cells #[.chan (some c)] 58)).alloc (.cells #[.int .i64 0, .int .i64 0, .string ⟨#[]⟩, .int .i64 0, .bool false] 64))) rfl rfl (by decide) (by simp [go_sem, execOp, rcase, Act.eval])) hcW (by simp; omega)) ?_
  rw [Frame.finish_at]
  walk_nrm
  have hx : (#[x.v] ++ buf)[0]?.getD undef = .agg #[.int .i64 x.id, .int .i64 x.to, .string x.text, .int .i64 x.at', .bool x.sent] := by rw [Array.getElem?_append_left (by simp)]; rfl
  have hb : (#[x.v] ++ buf).extract 1 (#[x.v] ++ buf).size = buf := by simp
  first | rw [hx] | skip
  obtain ⟨W1, hW1⟩ : ∃ W1, W1 = ((w.alloc (.cells #[.chan (some c)] 58)).alloc (.cells #[.int .i64 0, .int .i64 0, .string ⟨#[]⟩, .int .i64 0, .bool false] 64)).setChan c cap ((#[x.v] ++ buf).extract 1 (#[x.v] ++ buf).size) false s (r + 1) false := ⟨_, rfl⟩
  rw [← hW1]
  have h1 : W1.heap[c]? = some (.chan cap buf false s (r + 1) false) := by rw [hW1, hb]; exact heap_setChan _ _ _ _ _ _ _ _ (by simp; omega)
  have h2 : W1.heap[w.heap.size + 1]? = some (.cells #[.int .i64 0, .int .i64 0, .string ⟨#[]⟩, .int .i64 0, .bool false] 64 (0, 0)) := by rw [hW1, chan_far _ _ _ _ _ _ _ (by omega)]; exact heap_new' _ (by simp)
  have hE : Ext (fun k => k = c) w W1 := by rw [hW1]; exact ext_setChan (S := fun k => k = c) (((Ext.refl _ w).alloc _).alloc _) (.inl rfl) _ _ _ _ _ _
  have hz : W1.heap.size = w.heap.size + 2 := by rw [hW1]; simp [World.setChan]
  have hlt := lt_row h2
  obtain ⟨hc2, hf2⟩ := row_facts h2
  have hne : ¬ w.heap.size + 1 = W1.heap.size := by omega
  have H1 := Lib.hid h1
  have H2 := Lib.hid h2
  have HE := Lib.hid hE
  have HZ := Lib.hid hz
  clear h1 hE hz hW1 hcW hc h2
  refine LoneTo.goes (n := 60) ?_
  repeat (first | s_c stepG_seq | s_reg | s_op | s_c stepG_region_end | s_c stepG_block)
  s_cond true
  repeat (first | s_c stepG_seq | s_reg | s_op | s_c stepG_region_end | s_c stepG_block)
  s_c stepG_ret'
  s_stop
  obtain ⟨W4, hW4⟩ : ∃ W4, W4 = (set5 W1 (w.heap.size + 1) (.int .i64 x.id) (.int .i64 x.to) (.string x.text) (.int .i64 x.at') (.bool x.sent)).alloc (.cells #[.int .i64 x.id, .int .i64 x.to, .string x.text, .int .i64 x.at', .bool x.sent] 64) := ⟨_, rfl⟩
  have hrow : W4.heap[w.heap.size + 1]? = some (.cells #[.int .i64 x.id, .int .i64 x.to, .string x.text, .int .i64 x.at', .bool x.sent] 64 (0, 0)) := by rw [hW4]; exact heap_at (set5_row H2.out (.int .i64 x.id) (.int .i64 x.to) (.string x.text) (.int .i64 x.at') (.bool x.sent)) _
  have hch : W4.heap[c]? = some (.chan cap buf false s (r + 1) false) := by rw [hW4]; exact heap_at ((set5_far (by omega) (.int .i64 x.id) (.int .i64 x.to) (.string x.text) (.int .i64 x.at') (.bool x.sent)).trans H1.out) _
  have hEE : Ext (fun k => k = c) w W4 := by rw [hW4]; exact (set5_ext HE.out (.inr (by omega)) (.int .i64 x.id) (.int .i64 x.to) (.string x.text) (.int .i64 x.at') (.bool x.sent)).alloc _
  have k0 : W4.cell? ⟨w.heap.size + 1, 0, none⟩ = _ := cell_row hrow
  have k1 : W4.cell? ⟨w.heap.size + 1, 1, none⟩ = _ := cell_row hrow
  have k2 : W4.cell? ⟨w.heap.size + 1, 2, none⟩ = _ := cell_row hrow
  have k3 : W4.cell? ⟨w.heap.size + 1, 3, none⟩ = _ := cell_row hrow
  have k4 : W4.cell? ⟨w.heap.size + 1, 4, none⟩ = _ := cell_row hrow
  change LoneTo _ _ _ ((set5 W1 (w.heap.size + 1) (.int .i64 x.id) (.int .i64 x.to) (.string x.text) (.int .i64 x.at') (.bool x.sent)).alloc (.cells #[.int .i64 x.id, .int .i64 x.to, .string x.text, .int .i64 x.at', .bool x.sent] 64))
  rw [← hW4]
  refine LoneTo.done ⟨.returned (.tuple #[x.v, .bool true]), _, rfl, ⟨rfl, hch, hEE⟩, rfl, rfl, rfl, rfl, _, Try.func28, by simp [results, Try.f28, Frame.at, go_sem, k0, k1, k2, k3, k4, Lt.v, Lt.cs]⟩

set_option maxRecDepth 100000 in
theorem pull_none (w : World) (c cap s r : Nat) (hc : w.heap[c]? = some (.chan cap #[] false s r false)) :
    Calls Try.prog 28 #[.agg #[.chan (some c)]] w fun e w' => e = .returned (.tuple #[.agg #[.int .i64 0, .int .i64 0, .string ⟨#[]⟩, .int .i64 0, .bool false], .bool false]) ∧ Below w.heap.size w w' := by
  refine calls_of_loneTo fun cs => ?_
  have he : Frame.enter Try.prog 28 #[.agg #[.chan (some c)]] .normal = (base 28).at ⟨#[.agg #[.chan (some c)], undef, undef, undef, undef, undef, undef, undef, undef, undef, undef, undef, undef, undef], []⟩ [.code (Try.f28.body.getD .skip)] := by
    simp [Frame.enter, Frame.at, Try.func28, base, Try.f28]
  rw [he]
  clear he
  have hcl := lt_row hc
  have hcW : ((w.alloc (.cells #[.chan (some c)] 58)).alloc (.cells #[.int .i64 0, .int .i64 0, .string ⟨#[]⟩, .int .i64 0, .bool false] 64)).heap[c]? = some (.chan cap #[] false s r false) := heap_at (heap_at hc _) _
  refine LoneTo.goes (n := 40) ?_
  simp only [Try.f28, Option.getD_some]
  repeat (first | s_c stepG_seq | s_reg | s_op | s_c stepG_region_end | s_c stepG_block)
  s_stop
  refine LoneTo.step (step_lone_select_default (c := c) (cap := cap) (s := s) (r := r) (tm := false) (z := .agg #[.int .i64 0, .int .i64 0, .string ⟨#[]⟩, .int .i64 0, .bool false]) (stepG_comm (cases := #[rcase c (.agg #[.int .i64 0, .int .i64 0, .string ⟨#[]⟩, .int .i64 0, .bool false])]) (blocking := false) (shape := .select) (w' := ((w.alloc (.cells #[.chan (some c)] 58)).alloc (.cells #[.int .i64 0, .int .i64 0, .string ⟨#[]⟩, .int .i64 0, .bool false] 64))) rfl rfl (by decide) (by simp [go_sem, execOp, rcase, Act.eval])) hcW) ?_
  rw [Frame.finish_at]
  walk_nrm
  obtain ⟨W1, hW1⟩ : ∃ W1, W1 = ((w.alloc (.cells #[.chan (some c)] 58)).alloc (.cells #[.int .i64 0, .int .i64 0, .string ⟨#[]⟩, .int .i64 0, .bool false] 64)) := ⟨_, rfl⟩
  rw [← hW1]
  have h1 : W1.heap[c]? = some (.chan cap #[] false s r false) := by rw [hW1]; exact hcW
  have h2 : W1.heap[w.heap.size + 1]? = some (.cells #[.int .i64 0, .int .i64 0, .string ⟨#[]⟩, .int .i64 0, .bool false] 64 (0, 0)) := by rw [hW1]; exact heap_new' _ (by simp)
  have hE : Ext (fun _ => False) w W1 := by rw [hW1]; exact (((Ext.refl _ w).alloc _).alloc _)
  have hz : W1.heap.size = w.heap.size + 2 := by rw [hW1]; simp
  have hlt := lt_row h2
  obtain ⟨hc2, hf2⟩ := row_facts h2
  have hne : ¬ w.heap.size + 1 = W1.heap.size := by omega
  have H1 := Lib.hid h1
  have H2 := Lib.hid h2
  have HE := Lib.hid hE
  have HZ := Lib.hid hz
  clear h1 hE hz hW1 hcW hc h2
  refine LoneTo.goes (n := 60) ?_
  repeat (first | s_c stepG_seq | s_reg | s_op | s_c stepG_region_end | s_c stepG_block)
  s_cond false
  repeat (first | s_c stepG_seq | s_reg | s_op | s_c stepG_region_end | s_c stepG_block)
  s_c stepG_ret'
  s_stop
  obtain ⟨W4, hW4⟩ : ∃ W4, W4 = (set5 W1 (w.heap.size + 1) (.int .i64 0) (.int .i64 0) (.string ⟨#[]⟩) (.int .i64 0) (.bool false)).alloc (.cells #[.int .i64 0, .int .i64 0, .string ⟨#[]⟩, .int .i64 0, .bool false] 64) := ⟨_, rfl⟩
  have hrow : W4.heap[w.heap.size + 1]? = some (.cells #[.int .i64 0, .int .i64 0, .string ⟨#[]⟩, .int .i64 0, .bool false] 64 (0, 0)) := by rw [hW4]; exact heap_at (set5_row H2.out (.int .i64 0) (.int .i64 0) (.string ⟨#[]⟩) (.int .i64 0) (.bool false)) _
  have hEE : Ext (fun _ => False) w W4 := by rw [hW4]; exact (set5_ext HE.out (.inr (by omega)) (.int .i64 0) (.int .i64 0) (.string ⟨#[]⟩) (.int .i64 0) (.bool false)).alloc _
  have k0 : W4.cell? ⟨w.heap.size + 1, 0, none⟩ = _ := cell_row hrow
  have k1 : W4.cell? ⟨w.heap.size + 1, 1, none⟩ = _ := cell_row hrow
  have k2 : W4.cell? ⟨w.heap.size + 1, 2, none⟩ = _ := cell_row hrow
  have k3 : W4.cell? ⟨w.heap.size + 1, 3, none⟩ = _ := cell_row hrow
  have k4 : W4.cell? ⟨w.heap.size + 1, 4, none⟩ = _ := cell_row hrow
  change LoneTo _ _ _ ((set5 W1 (w.heap.size + 1) (.int .i64 0) (.int .i64 0) (.string ⟨#[]⟩) (.int .i64 0) (.bool false)).alloc (.cells #[.int .i64 0, .int .i64 0, .string ⟨#[]⟩, .int .i64 0, .bool false] 64))
  rw [← hW4]
  refine LoneTo.done ⟨.returned (.tuple #[.agg #[.int .i64 0, .int .i64 0, .string ⟨#[]⟩, .int .i64 0, .bool false], .bool false]), _, rfl, ⟨rfl, hEE.below (fun _ _ h => h)⟩, rfl, rfl, rfl, rfl, _, Try.func28, by simp [results, Try.f28, Frame.at, go_sem, k0, k1, k2, k3, k4]⟩

end Go.Proofs.Ytadnldnmefhlcaa.PostA
