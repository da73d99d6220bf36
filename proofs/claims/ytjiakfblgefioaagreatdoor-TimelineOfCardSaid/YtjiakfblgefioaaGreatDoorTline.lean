/-
  WHAT IS PROVED: what the program's text of a room's lines is. Condition: the lines' bytes are not more than the theorem says.
-/
import Derived.Test.YtjiakfblgefioaaGreatDoorRed
import Derived.Test.YtjiakfblgefioaaGreatDoorTimelineS
namespace Go.Proofs.YtjiakfblgefioaaGreatDoor.Tline
open Go Go.RowKit Go.Proofs.YtjiakfblgefioaaGreatDoor Go.Proofs.YtjiakfblgefioaaGreatDoor.OctetS Go.Proofs.YtjiakfblgefioaaGreatDoor.OctP Go.Proofs.YtjiakfblgefioaaGreatDoor.IdentP Go.Proofs.YtjiakfblgefioaaGreatDoor.EventP Go.Proofs.YtjiakfblgefioaaGreatDoor.TimelineS
set_option linter.unusedVariables false
set_option linter.unusedSimpArgs false

/-! ### Lines -/
structure Ln where
  ix : Int
  sd : ByteArray
  bd : ByteArray
  gone : Bool
def Ln.cs (x : Ln) : List Value := [.int .i64 x.ix, .string x.sd, .string x.bd, .bool x.gone]
def lnV (l : List Ln) : List Value := l.flatMap Ln.cs
def Ln.p (x : Ln) : Line := ⟨x.ix, bl x.sd, bl x.bd, x.gone⟩
theorem lnV_length (l : List Ln) : (lnV l).length = l.length * 4 := by
  unfold lnV
  rw [List.length_flatMap]
  induction l with
  | nil => rfl
  | cons a r ih => simp [Ln.cs, List.sum_cons] at ih ⊢; omega

theorem ln_cells {w : World} {a : Option Addr} {cap : Nat} {l : List Ln} (h : Sl w (.slice a l.length cap) 4 l.length (lnV l)) :
    ∀ k x, l[k]? = some x → ∃ ab ao, a = some ⟨ab, ao, none⟩ ∧ ab < w.heap.size ∧ w.cell? ⟨ab, ao + k * 4, none⟩ = some (.int .i64 x.ix) ∧ w.cell? ⟨ab, ao + k * 4 + 1, none⟩ = some (.string x.sd) ∧ w.cell? ⟨ab, ao + k * 4 + 2, none⟩ = some (.string x.bd) ∧ w.cell? ⟨ab, ao + k * 4 + 3, none⟩ = some (.bool x.gone) := by
  intro k x hx
  have hk : k < l.length := (List.getElem?_eq_some_iff.1 hx).1
  obtain ⟨ab, ao, rfl, hlt, hc⟩ := h.plain (by rw [lnV_length]; omega)
  have g := fun j (hj : j < 4) (u : Value) (hu : (Ln.cs x)[j]? = some u) => hc (k * 4 + j) u ((flat_get Ln.cs 4 l k j x (fun _ => rfl) hx hj).trans hu)
  exact ⟨ab, ao, rfl, hlt, g 0 (by omega) _ rfl, by rw [Nat.add_assoc]; exact g 1 (by omega) _ rfl, by rw [Nat.add_assoc]; exact g 2 (by omega) _ rfl, by rw [Nat.add_assoc]; exact g 3 (by omega) _ rfl⟩

/-! ### Bytes that are gathered, next to a block that stays -/
structure AccX (w0 w : World) (v : Value) (l : List UInt8) (k : Nat) (o : Obj) : Prop where
  own : OwB w w0.heap.size v l
  bel : Below w0.heap.size w0 w
  at' : w.heap[k]? = some o
  ne : v.ownBlock ≠ some k
structure Acc (w0 w : World) (v : Value) (l : List UInt8) : Prop where
  own : OwB w w0.heap.size v l
  bel : Below w0.heap.size w0 w
theorem Acc.nil (w : World) : Acc w w (.slice none 0 0) [] := ⟨Ow.nil _ _ _ _, Below.refl _ _⟩
theorem Acc.below {w0 w w' : World} {v : Value} {l : List UInt8} (h : Acc w0 w v l) (hb : Below w.heap.size w w') : Acc w0 w' v l :=
  ⟨h.own.ext (Ext.ofB hb) (fun _ _ h => h), h.bel.trans (hb.mono h.bel.size)⟩
theorem Acc.box {w0 w : World} {v : Value} {l : List UInt8} (h : Acc w0 w v l) (o : Obj) : AccX w0 (w.alloc o) v l w.heap.size o :=
  ⟨h.own.ext ((Ext.refl (fun _ => False) _).alloc _) (fun _ _ h => h), h.bel.alloc h.bel.size _, heap_new _ _, fun e => by have := (h.own.lt _ e).2; omega⟩
theorem AccX.acc {w0 w : World} {v : Value} {l : List UInt8} {k : Nat} {o : Obj} (h : AccX w0 w v l k o) : Acc w0 w v l := ⟨h.own, h.bel⟩
theorem AccX.below {w0 w w' : World} {v : Value} {l : List UInt8} {k : Nat} {o : Obj} (h : AccX w0 w v l k o) (hb : Below w.heap.size w w') : AccX w0 w' v l k o :=
  ⟨h.own.ext (Ext.ofB hb) (fun _ _ h => h), h.bel.trans (hb.mono h.bel.size), (hb.block _ (lt_row h.at')).trans h.at', h.ne⟩
theorem AccX.alloc {w0 w : World} {v : Value} {l : List UInt8} {k : Nat} {o : Obj} (h : AccX w0 w v l k o) (o' : Obj) : AccX w0 (w.alloc o') v l k o :=
  h.below ((Below.refl _ _).alloc (Nat.le_refl _) _)
theorem wpList_accX {ops : Array Oper} {rest : List Oper} {o : Oper} {a : Act} {Q : Exit → Act → World → Prop} {w0 w : World} {v : Value} {l : List UInt8} {k : Nat} {ob : Obj} (A : AccX w0 w v l k ob) (hgd : o.guard = none) (s x : Operand) (tx : TypeId)
    (ho : o.op = .call { callee := .builtin .append, args := #[s, x], argTypes := #[91, tx] }) (hv : a.eval s = v)
    (y : Value) (news : List UInt8) (hy : a.eval x = y) (hs : Src Tryz.prog 1 tx y news.length (byV news) w) (hlen : l.length + news.length ≤ 140737488351232)
    (h : ∀ v' w', AccX w0 w' v' (l ++ news) k ob → wpList Tryz.prog ops Q rest (a.put o.dst v') w') : wpList Tryz.prog ops Q (o :: rest) a w := by
  refine wpList_appF w hgd s x _ tx ho tyBytes w0.heap.size v l.length (byV l) hv A.own y news.length (byV news) hy hs (l.length + news.length) rfl (byV (l ++ news)) (byV_append _ _).symm (by unfold maxLen; omega) (by omega) A.bel.size ?_
  intro a' c' w' hown hgrow hat
  refine h _ _ ⟨by rw [← List.length_append] at hown ⊢; exact hown, Bl.grown A.bel hgrow (fun j hj => (A.own.lt j hj).1), heap_gr hgrow A.at' A.ne, ?_⟩
  rcases hat with h1 | h1
  · rw [h1]; exact A.ne
  · rw [h1]
    intro e
    have := lt_row A.at'
    simp only [Option.some.injEq] at e
    omega
theorem src_str (s : ByteArray) (w : World) : Src Tryz.prog 1 9 (.string s) (bl s).length (byV (bl s)) w := by
  have := Src.ofString (P := Tryz.prog) w Tryz.underlying9 s
  rw [byteCells_eq] at this
  rw [bl_length]
  exact this

/-! ### One cell of owned bytes -/
theorem owB_cell {w : World} {base g n cap : Nat} {l : List UInt8} (h : OwB w base (.slice (some ⟨g, 0, none⟩) n cap) l) {k : Nat} (hk : k < l.length) : w.cell? ⟨g, k, none⟩ = some (.int .u8 ((l.getD k 0).toNat : Int)) ∧ w.frozen? ⟨g, k, none⟩ = false := by
  rcases h.2 with ⟨hx, _⟩ | ⟨g', cap', cur, fr, hx, hb, hg, hn, hc, hs, ht, hf⟩
  · cases hx
  simp only [Value.slice.injEq, Option.some.injEq, Addr.mk.injEq, and_true] at hx
  obtain ⟨rfl, rfl, rfl⟩ := hx
  rw [Nat.mul_one] at ht hs
  have h1 : (byV l)[k]? = some (.int .u8 ((l.getD k 0).toNat : Int)) := by
    unfold byV
    rw [List.getElem?_map, List.getD_eq_getElem?_getD, List.getElem?_eq_getElem hk]
    rfl
  refine ⟨?_, ?_⟩
  · rw [cell_row hg]
    rw [← ht, List.getElem?_take, if_pos hk] at h1
    simpa using h1
  · have := hf k (by omega)
    simp only [World.frozen?, hg]
    simpa using this
theorem owB_set {w : World} {base g n cap : Nat} {l : List UInt8} (h : OwB w base (.slice (some ⟨g, 0, none⟩) n cap) l) {k : Nat} (hk : k < l.length) (c : UInt8) : OwB (w.setCell ⟨g, k, none⟩ (.int .u8 (c.toNat : Int))) base (.slice (some ⟨g, 0, none⟩) n cap) (l.set k c) := by
  rcases h.2 with ⟨hx, _⟩ | ⟨g', cap', cur, fr, hx, hb, hg, hn, hc, hs, ht, hf⟩
  · cases hx
  simp only [Value.slice.injEq, Option.some.injEq, Addr.mk.injEq, and_true] at hx
  obtain ⟨rfl, rfl, rfl⟩ := hx
  unfold OwB
  rw [List.length_set]
  refine ⟨by rw [byV_length, List.length_set]; omega, .inr ⟨g, cap, cur.setIfInBounds k (.int .u8 (c.toNat : Int)), fr, rfl, hb, heap_setCell_same hg _, hn, hc, by rw [Array.size_setIfInBounds]; exact hs, ?_, fun j hj => hf j (by simpa using hj)⟩⟩
  rw [Array.toList_setIfInBounds, List.take_set, ht]
  unfold byV
  rw [List.map_set]

theorem plain_length (L : List UInt8) : (TimelineS.plain L).length = L.length := by unfold TimelineS.plain; rw [List.length_map]
theorem plain_step (L : List UInt8) (k : Nat) (h : k < L.length) : TimelineS.plain (L.take (k + 1)) ++ L.drop (k + 1) = if (L.getD k 0).toNat < 32 then (TimelineS.plain (L.take k) ++ L.drop k).set k 32 else TimelineS.plain (L.take k) ++ L.drop k := by
  have hd : L.drop k = L[k] :: L.drop (k + 1) := List.drop_eq_getElem_cons h
  have hg : L.getD k 0 = L[k] := by rw [List.getD_eq_getElem?_getD, List.getElem?_eq_getElem h]; rfl
  have hl : (TimelineS.plain (L.take k)).length = k := by rw [plain_length, List.length_take]; omega
  rw [hg, hd, List.take_succ_eq_append_getElem h]
  have e : TimelineS.plain (L.take k ++ [L[k]]) = TimelineS.plain (L.take k) ++ [if (L[k]).toNat < 32 then 32 else L[k]] := by
    unfold TimelineS.plain
    rw [List.map_append]
    rfl
  rw [e, List.append_assoc]
  split
  · rw [List.set_append_right _ _ (by omega), hl, Nat.sub_self]
    rfl
  · rfl
theorem plain_get (L : List UInt8) (k : Nat) (h : k < L.length) : (TimelineS.plain (L.take k) ++ L.drop k).getD k 0 = L.getD k 0 := by
  have hl : (TimelineS.plain (L.take k)).length = k := by rw [plain_length, List.length_take]; omega
  rw [List.getD_eq_getElem?_getD, List.getD_eq_getElem?_getD, List.getElem?_append_right (by omega), hl, Nat.sub_self, List.getElem?_drop, Nat.add_zero]

set_option maxRecDepth 100000 in
set_option maxHeartbeats 1000000 in
theorem plain_ok (w : World) (s : ByteArray) (hs : s.size ≤ 140737488351232) :
    Calls Tryz.prog 56 #[.string s] w fun e w' => ∃ v', e = .returned v' ∧ OwB w' w.heap.size v' (TimelineS.plain (bl s)) ∧ Below w.heap.size w w' := by
  have ho := ow_bytes w (base := w.heap.size) 5 s (by unfold maxLen; omega) (Nat.le_refl _)
  have hbel := below_bytes w 5 s
  obtain ⟨W1, hW1⟩ : ∃ W1, W1 = Go.Lib.bytesWorld w 5 s := ⟨_, rfl⟩
  rw [← hW1] at ho hbel
  have hcv := Go.Lib.run_convert_string_bytes (P := Tryz.prog) w 9 91 5 s (u := .string) Tryz.underlying9 Tryz.underlying91 Tryz.underlying5
  obtain ⟨cp, hcp⟩ : ∃ cp, cp = grownCap w s.size 0 5 := ⟨_, rfl⟩
  rw [← hW1] at hcv
  rw [← hcp] at hcv ho
  have ho' : OwB W1 w.heap.size (.slice (some ⟨w.heap.size, 0, none⟩) s.size cp) (bl s) := by
    have := ho.bytes
    exact this
  have HO := Lib.hid ho'
  have HBel := Lib.hid hbel
  have hbl := bl_length s
  have hbl1 : (bl s).length ≤ s.size := by omega
  have hbl2 : s.size ≤ (bl s).length := by omega
  clear ho ho' hbel hW1 hcp hbl
  go_enter Tryz.func56, Tryz.ntmps56
  go_wp2
  clear hcv
  go_loopw [10] (fun i wr => ∃ k : Nat, i = .int .i64 k ∧ k ≤ s.size ∧ OwB wr w.heap.size (.slice (some ⟨w.heap.size, 0, none⟩) s.size cp) (TimelineS.plain ((bl s).take k) ++ (bl s).drop k) ∧ Below w.heap.size w wr) (fun i _ => s.size - (intOf i).toNat)
  case atStart => exact ⟨0, rfl, by omega, by simpa [TimelineS.plain] using HO.out, HBel.out⟩
  case round =>
    obtain ⟨k, rfl, hk, hov, hbv⟩ := hrel
    by_cases hlt : k < s.size
    · have hst := plain_step (bl s) k (by omega)
      have hgt := plain_get (bl s) k (by omega)
      have hll : k < (TimelineS.plain ((bl s).take k) ++ (bl s).drop k).length := by rw [List.length_append, plain_length, List.length_take, List.length_drop]; omega
      obtain ⟨L, hL⟩ : ∃ L, L = TimelineS.plain ((bl s).take k) ++ (bl s).drop k := ⟨_, rfl⟩
      rw [← hL] at hst hgt hll hov
      obtain ⟨hc, hf⟩ := owB_cell hov hll
      rw [hgt] at hc
      obtain ⟨c, hcc⟩ : ∃ c, c = (bl s).getD k 0 := ⟨_, rfl⟩
      rw [← hcc] at hc hst
      have hcl := lt_row (Array.getElem?_eq_getElem (World.block_lt_of_cell? _ _ hc))
      simp only at hcl
      have Hst := Lib.hid hst
      have Hov := Lib.hid hov
      have Hbv := Lib.hid hbv
      have Hll := Lib.hid hll
      clear hst hgt hll hov hL hcc hbv
      by_cases hc32 : c.toNat < 32
      · rw [if_pos hc32] at Hst
        go_wp2
        go_roundw
        case rel =>
          refine ⟨k + 1, by go_num, by omega, ?_, Hbv.out.setCell (p := ⟨w.heap.size, k, none⟩) (Nat.le_refl _) _⟩
          rw [Hst.out]
          exact owB_set Hov.out Hll.out 32
        case measure => simp [intOf]; omega
      · rw [if_neg hc32] at Hst
        have hc33 : 32 ≤ c.toNat := by omega
        go_wp2
        go_roundw
        case rel => exact ⟨k + 1, by go_num, by omega, by rw [Hst.out]; exact Hov.out, Hbv.out⟩
        case measure => simp [intOf]; omega
    · obtain rfl : k = s.size := by omega
      have hfull : TimelineS.plain ((bl s).take s.size) ++ (bl s).drop s.size = TimelineS.plain (bl s) := by
        rw [List.take_of_length_le (by omega), List.drop_eq_nil_of_le (by omega), List.append_nil]
      rw [hfull] at hov
      have Hov := Lib.hid hov
      have Hbv := Lib.hid hbv
      clear hov hbv hfull
      go_wp2
      go_ret
      exact ⟨_, rfl, Hov.out, Hbv.out⟩

/-! ### The text -/
theorem texts_snoc (l : List Ln) (k : Nat) (x : Ln) (h : l[k]? = some x) : textsOf ((l.take (k + 1)).map Ln.p) = textsOf ((l.take k).map Ln.p) ++ textOf x.p := by
  obtain ⟨hk, rfl⟩ := List.getElem?_eq_some_iff.1 h
  rw [List.take_succ_eq_append_getElem hk, List.map_append]
  unfold textsOf
  rw [List.flatMap_append]
  simp
theorem texts_le (l : List Ln) (k : Nat) : (textsOf ((l.take k).map Ln.p)).length ≤ (textsOf (l.map Ln.p)).length := by
  have : l.map Ln.p = (l.take k).map Ln.p ++ (l.drop k).map Ln.p := by rw [← List.map_append, List.take_append_drop]
  rw [this]
  unfold textsOf
  rw [List.flatMap_append, List.length_append]
  omega
theorem text_gone {x : Ln} (h : x.gone = true) (T : List UInt8) : T ++ textOf x.p = ((((T ++ bl x.sd) ++ [58, 32]) ++ [45]) ++ [10]) := by
  unfold textOf Ln.p
  simp [h]
theorem text_here {x : Ln} (h : x.gone = false) (T : List UInt8) : T ++ textOf x.p = ((((T ++ bl x.sd) ++ [58, 32]) ++ TimelineS.plain (bl x.bd)) ++ [10]) := by
  unfold textOf Ln.p
  simp [h]

set_option maxRecDepth 100000 in
set_option maxHeartbeats 4000000 in
theorem Text_ok (w : World) (v : Value) (l : List Ln) (hv : Sl w v 4 l.length (lnV l)) (hT : (textsOf (l.map Ln.p)).length ≤ 140737488351232) :
    Calls Tryz.prog 35 #[v] w (RB (.string (bsOf (textsOf (l.map Ln.p)))) w) := by
  obtain ⟨a, cap, rfl, hcap, hm⟩ := hv.form
  have hlen : l.length ≤ 9223372036854775807 := by unfold maxLen at hm; omega
  have HC := Lib.hid (ln_cells hv)
  clear hv hcap hm
  go_enter Tryz.func35, Tryz.ntmps35
  go_wp2
  go_loopw [3, 8] (fun b i wr => ∃ (v : Value) (k : Nat), b = v ∧ i = .int .i64 k ∧ k ≤ l.length ∧ Acc w wr v (textsOf ((l.take k).map Ln.p))) (fun _ i _ => l.length - (intOf i).toNat)
  case atStart => exact ⟨_, 0, rfl, rfl, by omega, Acc.nil w⟩
  case round =>
    obtain ⟨v, k, rfl, rfl, hk, hA⟩ := hrel
    by_cases hlt : k < l.length
    · obtain ⟨⟨ix, sd, bd, gone⟩, hx⟩ : ∃ x, l[k]? = some x := ⟨_, List.getElem?_eq_getElem hlt⟩
      have hle := texts_le l (k + 1)
      have hsn := texts_snoc l k _ hx
      obtain ⟨ab, ao, rfl, hab, g0, g1, g2, g3⟩ := HC.out k _ hx
      obtain ⟨T, hTT⟩ : ∃ T, T = textsOf ((l.take k).map Ln.p) := ⟨_, rfl⟩
      rw [← hTT] at hA hsn
      have q0 := (hA.bel.cell (p := ⟨ab, ao + k * 4, none⟩) hab).trans g0
      have q1 := (hA.bel.cell (p := ⟨ab, ao + k * 4 + 1, none⟩) hab).trans g1
      have q2 := (hA.bel.cell (p := ⟨ab, ao + k * 4 + 2, none⟩) hab).trans g2
      have q3 := (hA.bel.cell (p := ⟨ab, ao + k * 4 + 3, none⟩) hab).trans g3
      simp only at q0 q1 q2 q3
      have HA := Lib.hid (hA.box (.cells #[.int .i64 ix, .string sd, .string bd, .bool gone] 69))
      clear g0 g1 g2 g3 hA hTT hx
      cases gone
      · rw [text_here rfl] at hsn
        have hlens : T.length + sd.size + bd.size + 3 ≤ 140737488351232 := by
          rw [hsn] at hle
          simp only [List.length_append, bl_length, plain_length, List.length_cons, List.length_nil] at hle
          omega
        have Hsn := Lib.hid hsn
        clear hsn hle
        go_wp2_with (at_builtin; go_must (refine wpList_accX HA.out rfl _ _ _ rfl rfl (.string sd) (bl sd) rfl (src_str _ _) ?hl ?go))
        case hl => rw [bl_length]; omega
        case go =>
        intro v1 w1 A1
        have HA1 := Lib.hid A1
        clear A1 HA
        go_wp2_with (at_builtin; go_must (refine wpList_accX HA1.out rfl _ _ _ rfl rfl (.string ⟨#[58, 32]⟩) [58, 32] rfl (src_str ⟨#[58, 32]⟩ _) ?hl ?go))
        case hl => simp only [List.length_append, bl_length, List.length_cons, List.length_nil]; omega
        case go =>
        intro v2 w2 A2
        have HA2 := Lib.hid A2
        obtain ⟨hc2, hf2⟩ := row_facts A2.at'
        have hl2 := lt_row A2.at'
        clear A2 HA1 q0 q1 q2 q3
        go_wp2_with fail
        refine (plain_ok w2 bd (by omega)).mono ?_
        rintro e w3 ⟨y, rfl, hy, hb⟩
        have HA3 := Lib.hid (HA2.out.below hb)
        have HY := Lib.hid hy
        clear hy hb hc2 hf2 HA2
        go_wp2_with (at_builtin; go_must (refine wpList_accX HA3.out rfl _ _ _ rfl rfl y (TimelineS.plain (bl bd)) rfl (HY.out.sl.src Tryz.underlying91 (byV_one _)) ?hl ?go))
        case hl => simp only [List.length_append, bl_length, plain_length, List.length_cons, List.length_nil]; omega
        case go =>
        intro v4 w4 A4
        have HA4 := Lib.hid A4
        clear A4 HA3 HY
        go_wp2_with (at_builtin; go_must (refine wpList_accX (HA4.out.alloc _) rfl _ _ _ rfl rfl (.slice (some ⟨w4.heap.size, 0, none⟩) 1 1) [10] rfl (src_one Tryz.underlying91 rfl) ?hl ?go))
        case hl => simp only [List.length_append, bl_length, plain_length, List.length_cons, List.length_nil]; omega
        case go =>
        intro v5 w5 A5
        have HA5 := Lib.hid A5
        clear A5 HA4
        go_wp2
        go_roundw
        case rel => exact ⟨_, k + 1, rfl, by go_num, by omega, by
          rw [Hsn.out]
          have := HA5.out.acc
          simp only [List.append_assoc, List.cons_append, List.nil_append] at this ⊢
          exact this⟩
        case measure => simp [intOf]; omega
      · rw [text_gone rfl] at hsn
        have hlens : T.length + sd.size + 4 ≤ 140737488351232 := by
          rw [hsn] at hle
          simp only [List.length_append, bl_length, List.length_cons, List.length_nil] at hle
          omega
        have Hsn := Lib.hid hsn
        clear hsn hle
        go_wp2_with (at_builtin; go_must (refine wpList_accX HA.out rfl _ _ _ rfl rfl (.string sd) (bl sd) rfl (src_str _ _) ?hl ?go))
        case hl => rw [bl_length]; omega
        case go =>
        intro v1 w1 A1
        have HA1 := Lib.hid A1
        clear A1 HA
        go_wp2_with (at_builtin; go_must (refine wpList_accX HA1.out rfl _ _ _ rfl rfl (.string ⟨#[58, 32]⟩) [58, 32] rfl (src_str ⟨#[58, 32]⟩ _) ?hl ?go))
        case hl => simp only [List.length_append, bl_length, List.length_cons, List.length_nil]; omega
        case go =>
        intro v2 w2 A2
        have HA2 := Lib.hid A2
        obtain ⟨hc2, hf2⟩ := row_facts A2.at'
        have hl2 := lt_row A2.at'
        clear A2 HA1 q0 q1 q2 q3
        go_wp2_with (at_builtin; go_must (refine wpList_accX HA2.out rfl _ _ _ rfl rfl (.string ⟨#[45]⟩) [45] rfl (src_str ⟨#[45]⟩ _) ?hl ?go))
        case hl => simp only [List.length_append, bl_length, List.length_cons, List.length_nil]; omega
        case go =>
        intro v4 w4 A4
        have HA4 := Lib.hid A4
        clear A4 HA2 hc2 hf2
        go_wp2_with (at_builtin; go_must (refine wpList_accX (HA4.out.alloc _) rfl _ _ _ rfl rfl (.slice (some ⟨w4.heap.size, 0, none⟩) 1 1) [10] rfl (src_one Tryz.underlying91 rfl) ?hl ?go))
        case hl => simp only [List.length_append, bl_length, List.length_cons, List.length_nil]; omega
        case go =>
        intro v5 w5 A5
        have HA5 := Lib.hid A5
        clear A5 HA4
        go_wp2
        go_roundw
        case rel => exact ⟨_, k + 1, rfl, by go_num, by omega, by
          rw [Hsn.out]
          have := HA5.out.acc
          simp only [List.append_assoc, List.cons_append, List.nil_append] at this ⊢
          exact this⟩
        case measure => simp [intOf]; omega
    · obtain rfl : k = l.length := by omega
      rw [List.take_length] at hA
      have hcv := run_text' wr 91 9 5 Tryz.underlying91 Tryz.underlying5 Tryz.underlying9 _ _ hA.own.sl
      have HA := Lib.hid hA
      clear hA
      go_wp2
      go_ret
      exact ⟨rfl, HA.out.bel⟩

end Go.Proofs.YtjiakfblgefioaaGreatDoor.Tline
