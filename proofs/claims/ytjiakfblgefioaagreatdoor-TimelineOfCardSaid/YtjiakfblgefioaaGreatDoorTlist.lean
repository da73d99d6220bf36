/-
  WHAT IS PROVED: what the program, and the document, pick of a room's lines: the last ones, and a sender's; and what the document's text of them is. Condition: what each theorem names.
-/
import Derived.Test.YtjiakfblgefioaaGreatDoorTline
import Derived.Test.YtjiakfblgefioaaGreatDoorRowsX
namespace Go.Proofs.YtjiakfblgefioaaGreatDoor.Tlist
open Go Go.RowKit Go.Proofs.YtjiakfblgefioaaGreatDoor Go.Proofs.YtjiakfblgefioaaGreatDoor.OctP Go.Proofs.YtjiakfblgefioaaGreatDoor.IdentP Go.Proofs.YtjiakfblgefioaaGreatDoor.EventP Go.Proofs.YtjiakfblgefioaaGreatDoor.TimelineS Go.Proofs.YtjiakfblgefioaaGreatDoor.Tline Go.Proofs.YtjiakfblgefioaaGreatDoor.RowsX
set_option linter.unusedVariables false
set_option linter.unusedSimpArgs false

theorem tyLines : SliceTy Tryz.prog 36 69 4 48 (.agg #[.int .i64 0, .string ByteArray.empty, .string ByteArray.empty, .bool false]) :=
  SliceTy.mk' (by kernel_rfl) (by kernel_rfl) rfl (by omega)
theorem lnF : RowFn 4 Ln.cs := ⟨fun _ => rfl, fun x u hu => by simp [Ln.cs] at hu; rcases hu with rfl | rfl | rfl | rfl <;> rfl⟩
abbrev AccL (w0 w : World) (v : Value) (l : List Ln) : Prop := AccR 69 4 Ln.cs w0 w v l

/-! ### == of lines -/
theorem eqLn (ix : Int) (sd bd : ByteArray) (gone : Bool) (w : World) : (Op.equalIn 10000 69 (.agg #[.int .i64 ix, .string sd, .string bd, .bool gone]) (.agg #[.int .i64 ix, .string sd, .string bd, .bool gone])).run Tryz.prog w = .ok true w := by
  have u3 : Tryz.prog.underlying 3 = some (.int .i64) := by kernel_rfl
  have u4 : Tryz.prog.underlying 4 = some .bool := by kernel_rfl
  have u9 : Tryz.prog.underlying 9 = some .string := by kernel_rfl
  have hS : Tryz.prog.underlying 69 = some (.struct (Tryz.prog.fieldsOf 69)) := by kernel_rfl
  have hF : (Tryz.prog.fieldsOf 69).toList = [⟨"Index", 3, 0, false, "", "", 0⟩, ⟨"Sender", 9, 1, false, "", "", 8⟩, ⟨"Body", 9, 2, false, "", "", 24⟩, ⟨"Gone", 4, 3, false, "", "", 40⟩] := by kernel_rfl
  have hp : Tryz.prog.stoodInHeld 69 = false := by kernel_rfl
  rw [show (10000 : Nat) = 9999 + 1 from rfl, run_equalIn_agg w 9999 69 _ _ hS hp, hF]
  go_simp
theorem guardLn : Go.Program.eqGuardType Tryz.prog Tryz.prog.depth 69 = false := by kernel_rfl
attribute [local go_sem] eqLn
attribute [-go_sem] run_equalIn_agg


set_option maxRecDepth 100000 in
set_option maxHeartbeats 2000000 in
/-- Those that are picked. -/
theorem pick_ok (w : World) (v : Value) (l : List Ln) (hv : Sl w v 4 l.length (lnV l)) (hl : l.length ≤ 1099511627776) (gf : Nat) (lb : Array Value) (eg : ∀ args w, (callFunc gf args).run Tryz.prog w = .ok (.enter gf args) w) (P : Ln → Bool)
    (hclo : ∀ (ix : Int) (sd bd : ByteArray) (gone : Bool) (W : World), Below w.heap.size w W → Calls Tryz.prog gf (#[.agg #[.int .i64 ix, .string sd, .string bd, .bool gone]] ++ lb) W (RB (.bool (P ⟨ix, sd, bd, gone⟩)) W)) :
    Calls Tryz.prog 58 #[v, .func (.func gf) #[] lb] w fun e w' => ∃ v', e = .returned v' ∧ AccL w w' v' (l.filter P) := by
  obtain ⟨a, cap, rfl, hcap, hm⟩ := hv.form
  have hlen : l.length ≤ 9223372036854775807 := by omega
  have HV := Lib.hid hv
  have HCLO := Lib.hid hclo
  clear hv hcap hm hclo
  go_enter Tryz.func58, Tryz.ntmps58
  go_wp2
  go_loopw [5, 10] (fun b i wr => ∃ (v : Value) (k : Nat), b = v ∧ i = .int .i64 k ∧ k ≤ l.length ∧ AccL w wr v ((l.take k).filter P)) (fun _ i _ => l.length - (intOf i).toNat)
  case atStart => exact ⟨_, 0, rfl, rfl, by omega, AccR.nil w⟩
  case round =>
    obtain ⟨v, k, rfl, rfl, hk, hA⟩ := hrel
    by_cases hlt : k < l.length
    · obtain ⟨⟨ix, sd, bd, gone⟩, hx⟩ : ∃ x, l[k]? = some x := ⟨_, List.getElem?_eq_getElem hlt⟩
      have hsn : (l.take (k + 1)).filter P = (l.take k).filter P ++ [⟨ix, sd, bd, gone⟩].filter P := by
        obtain ⟨_, hx'⟩ := List.getElem?_eq_some_iff.1 hx
        rw [List.take_succ_eq_append_getElem hlt, hx', List.filter_append]
      obtain ⟨ab, ao, rfl, hab, g0, g1, g2, g3⟩ := ln_cells HV.out k _ hx
      have q0 := (hA.bel.cell (p := ⟨ab, ao + k * 4, none⟩) hab).trans g0
      have q1 := (hA.bel.cell (p := ⟨ab, ao + k * 4 + 1, none⟩) hab).trans g1
      have q2 := (hA.bel.cell (p := ⟨ab, ao + k * 4 + 2, none⟩) hab).trans g2
      have q3 := (hA.bel.cell (p := ⟨ab, ao + k * 4 + 3, none⟩) hab).trans g3
      simp only at q0 q1 q2 q3
      have hfl : ((l.take k).filter P).length ≤ k := Nat.le_trans (List.length_filter_le _ _) (List.length_take_le _ _)
      have HA := Lib.hid (hA.alloc (.cells #[.int .i64 ix, .string sd, .string bd, .bool gone] 69))
      have Hsn := Lib.hid hsn
      have hbx := heap_new wr (.cells #[.int .i64 ix, .string sd, .string bd, .bool gone] 69)
      clear g0 g1 g2 g3 hA hsn hx
      go_wp2_with fail
      refine (HCLO.out ix sd bd gone _ HA.out.bel).mono ?_
      rintro e w1 ⟨rfl, hb⟩
      have HA1 := Lib.hid (HA.out.below hb)
      have hb1 := (hb.block _ (lt_row hbx)).trans hbx
      obtain ⟨hc1, hf1⟩ := row_facts hb1
      have hl1 := lt_row hb1
      clear hb hbx hb1 HA q0 q1 q2 q3
      cases hP : P ⟨ix, sd, bd, gone⟩
      · have e0 : ([⟨ix, sd, bd, gone⟩] : List Ln).filter P = [] := by simp [hP]
        have E0 := Lib.hid e0
        clear e0 hP
        go_wp2
        go_roundw
        case rel => exact ⟨_, k + 1, rfl, by go_num, by omega, by rw [Hsn.out, E0.out, List.append_nil]; exact HA1.out⟩
        case measure => simp [intOf]; omega
      · have e0 : ([⟨ix, sd, bd, gone⟩] : List Ln).filter P = [⟨ix, sd, bd, gone⟩] := by simp [hP]
        have E0 := Lib.hid e0
        clear e0 hP
        go_wp2_with (at_builtin; go_must (refine wpList_accR tyLines lnF HA1.out ⟨ix, sd, bd, gone⟩ rfl _ _ rfl rfl #[.int .i64 ix, .string sd, .string bd, .bool gone] rfl _ rfl (by simp) ?hl ?hb ?go))
        case hl => unfold maxLen; omega
        case hb => omega
        case go =>
        intro v2 w2 A2
        have HA2 := Lib.hid A2
        clear A2 HA1 hc1 hf1
        go_wp2
        go_roundw
        case rel => exact ⟨_, k + 1, rfl, by go_num, by omega, by rw [Hsn.out, E0.out]; exact HA2.out⟩
        case measure => simp [intOf]; omega
    · obtain rfl : k = l.length := by omega
      rw [List.take_length] at hA
      have HA := Lib.hid hA
      clear hA
      go_wp2
      go_ret
      exact ⟨_, rfl, HA.out⟩

def bySd (s : ByteArray) (x : Ln) : Bool := x.sd.toList == s.toList
theorem by1_ok (w : World) (K : Nat) (s : ByteArray) (ix : Int) (sd bd : ByteArray) (gone : Bool) (hK : w.heap[K]? = some (.cells #[.string s] 9 (0, 0))) :
    Calls Tryz.prog 59 (#[.agg #[.int .i64 ix, .string sd, .string bd, .bool gone]] ++ #[.pointer (some ⟨K, 0, none⟩)]) w (RB (.bool (bySd s ⟨ix, sd, bd, gone⟩)) w) := by
  obtain ⟨hc, hf⟩ := row_facts hK
  have hl := lt_row hK
  have hne : ¬ K = w.heap.size := by omega
  clear hK
  show Calls _ _ #[.agg #[.int .i64 ix, .string sd, .string bd, .bool gone], .pointer (some ⟨K, 0, none⟩)] _ _
  unfold bySd
  go_enter Tryz.func59, Tryz.ntmps59
  go_wp2
  go_ret
  exact ⟨rfl, (Below.refl _ _).alloc (Nat.le_refl _) _⟩
set_option maxHeartbeats 1000000 in
theorem By_ok (w : World) (v : Value) (l : List Ln) (s : ByteArray) (hv : Sl w v 4 l.length (lnV l)) (hl : l.length ≤ 1099511627776) :
    Calls Tryz.prog 37 #[v, .string s] w fun e w' => ∃ v', e = .returned v' ∧ AccL w w' v' (l.filter (bySd s)) := by
  have hbx := heap_new w (.cells #[.string s] 9)
  have hb0 := (Below.refl w.heap.size w).alloc (Nat.le_refl _) (.cells #[.string s] 9)
  have hp := pick_ok (w.alloc (.cells #[.string s] 9)) v l (hv.below hb0) hl 59 #[.pointer (some ⟨w.heap.size, 0, none⟩)] (enters_of Tryz.func59 (by kernel_rfl) rfl) (bySd s)
    (fun ix sd bd gone W hW => by1_ok W w.heap.size s ix sd bd gone ((hW.block _ (lt_row hbx)).trans hbx))
  have HP := Lib.hid hp
  have HB := Lib.hid hb0
  clear hp hbx hb0 hv
  go_enter Tryz.func37, Tryz.ntmps37
  go_wp2_with fail
  refine HP.out.mono ?_
  rintro e w1 ⟨v', rfl, hA⟩
  have HA := Lib.hid hA
  clear hA
  go_wp2
  go_ret
  exact ⟨_, rfl, ⟨HA.out.own.rebase (fun k hk => by have := (HA.out.own.lt k hk).1; simp at this; omega), HB.out.trans (HA.out.bel.mono HB.out.size)⟩⟩

/-! ### The last ones -/
/-- How many are left out. -/
def outN (len : Nat) (n : Int) : Nat := len - n.toNat
theorem lastL_step (l : List Ln) (d k : Nat) (x : Ln) (hx : l[k]? = some x) : (l.take (k + 1)).drop d = if d ≤ k then (l.take k).drop d ++ [x] else (l.take k).drop d := by
  obtain ⟨hk, hx'⟩ := List.getElem?_eq_some_iff.1 hx
  rw [List.take_succ_eq_append_getElem hk, hx']
  split
  · rename_i h
    rw [List.drop_append_of_le_length (by rw [List.length_take]; omega)]
  · rename_i h
    rw [List.drop_eq_nil_of_le (by rw [List.length_append, List.length_take]; simp; omega), List.drop_eq_nil_of_le (by rw [List.length_take]; omega)]

set_option maxHeartbeats 1000000 in
theorem Clone_ok (w : World) (v : Value) (l : List Ln) (hv : Sl w v 4 l.length (lnV l)) (hl : l.length ≤ 1099511627776) :
    Calls Tryz.prog 57 #[v] w fun e w' => ∃ v', e = .returned v' ∧ AccL w w' v' l := by
  obtain ⟨a, cap, rfl, hcap, hm⟩ := hv.form
  have hq := Lib.run_eql_slice_nil (P := Tryz.prog) w 36 69 a l.length cap 0 0 Tryz.underlying36
  cases a with
  | none =>
    have h0 : l = [] := by
      rcases hv.2 with ⟨_, h⟩ | ⟨a, c, h, _⟩
      · exact List.length_eq_zero_iff.1 h
      · cases h
    subst h0
    clear hv hq hcap hm hl
    have hq := Lib.run_eql_slice_nil (P := Tryz.prog) w 36 69 none 0 cap 0 0 Tryz.underlying36
    show Calls _ _ #[.slice none 0 cap] _ _
    go_enter Tryz.func57, Tryz.ntmps57
    go_wp2
    go_ret
    exact ⟨_, rfl, AccR.nil w⟩
  | some a =>
    have HV := Lib.hid hv
    clear hv
    go_enter Tryz.func57, Tryz.ntmps57
    go_wp2_with (at_builtin; go_must (refine wpList_cloneR tyLines lnF (l := l) (u := .slice (some a) l.length cap) HV.out rfl _ _ rfl rfl rfl ?hl ?hb ?go))
    case hl => unfold maxLen; omega
    case hb => omega
    case go =>
    intro v2 w2 A2
    have HA2 := Lib.hid A2
    clear A2
    go_wp2
    go_ret
    exact ⟨_, rfl, HA2.out⟩

theorem lnV_drop (l : List Ln) (d : Nat) (hd : d ≤ l.length) : ((lnV l).take (l.length * 4)).drop (d * 4) = lnV (l.drop d) := by
  rw [List.take_of_length_le (by rw [lnV_length]; omega)]
  have h : lnV l = lnV (l.take d) ++ lnV (l.drop d) := by
    unfold lnV
    rw [← List.flatMap_append, List.take_append_drop]
  rw [h, List.drop_left' (by rw [lnV_length, List.length_take]; omega)]

set_option maxRecDepth 100000 in
set_option maxHeartbeats 1000000 in
theorem Last_ok (w : World) (v : Value) (l : List Ln) (n : Int) (hv : Sl w v 4 l.length (lnV l)) (hl : l.length ≤ 1099511627776) :
    Calls Tryz.prog 36 #[v, .int .i64 n] w fun e w' => ∃ v', e = .returned v' ∧ AccL w w' v' (l.drop (outN l.length n)) := by
  obtain ⟨a, cap, rfl, hcap, hm⟩ := hv.form
  have hlen : l.length ≤ 9223372036854775807 := by omega
  unfold maxLen at hm
  obtain ⟨d, hd⟩ : ∃ d, d = outN l.length n := ⟨_, rfl⟩
  have hdl : d ≤ l.length := by rw [hd]; unfold outN; omega
  have hcut : ∃ A : Option Addr, (∀ x, a = some x → A = some (if cap = d then x else x.add (d * 4))) ∧ (a = none → A = none) ∧ Sl w (.slice A (l.drop d).length (cap - d)) 4 (l.drop d).length (lnV (l.drop d)) := by
    cases a with
    | none =>
      have h0 : l = [] := by
        rcases hv.2 with ⟨_, h⟩ | ⟨a, c, h, _⟩
        · exact List.length_eq_zero_iff.1 h
        · cases h
      subst h0
      have hc0 : cap = 0 := by
        rcases hv.2 with ⟨h, _⟩ | ⟨a, c, h, _⟩
        · cases h; rfl
        · cases h
      subst hc0
      refine ⟨none, fun x h => (by cases h), fun _ => rfl, ?_⟩
      simp only [List.drop_nil, List.length_nil, Nat.zero_sub]
      exact Sl.nil _ _
    | some x =>
      refine ⟨some (if cap = d then x else x.add (d * 4)), fun y h => (by cases h; rfl), fun h => (by cases h), ?_⟩
      have := hv.cut (k := d) (m := l.length) (A := if cap = d then x else x.add (d * 4)) hdl (Nat.le_refl _) rfl
      rw [lnV_drop l d hdl] at this
      rw [List.length_drop]
      exact this
  obtain ⟨A, hA1, hA2, hS⟩ := hcut
  have hC := Clone_ok w _ _ hS (by rw [List.length_drop]; omega)
  rw [List.length_drop] at hC
  rw [← hd]
  have HC := Lib.hid hC
  have Hd := Lib.hid hd
  clear hC hd hv hS
  have hq : ((l.length : Int) - min (max n 0) (l.length : Int)).toNat = d := by
    have := Hd.out
    unfold outN at this
    omega
  cases a with
  | none =>
    obtain rfl := hA2 rfl
    clear hA1 hA2
    go_enter Tryz.func36, Tryz.ntmps36
    go_wp2_with fail
    try rw [hq]
    refine HC.out.mono ?_
    rintro e w1 ⟨v', rfl, hA⟩
    have HA := Lib.hid hA
    clear hA
    go_wp2
    go_ret
    exact ⟨_, rfl, HA.out⟩
  | some x =>
    have hA := hA1 x rfl
    clear hA1 hA2
    rcases Classical.em (cap = d) with hcd | hcd
    · rw [if_pos hcd] at hA
      subst hA hcd
      have hC' := HC.out
      rw [show l.length - cap = 0 by omega, Nat.sub_self] at hC'
      have HC' := Lib.hid hC'
      clear hC'
      go_enter Tryz.func36, Tryz.ntmps36
      go_wp2_with fail
      try rw [hq]
      refine HC'.out.mono ?_
      rintro e w1 ⟨v', rfl, hA⟩
      have HA := Lib.hid hA
      clear hA
      go_wp2
      go_ret
      exact ⟨_, rfl, HA.out⟩
    · rw [if_neg hcd] at hA
      subst hA
      have hcd2 : ¬ cap ≤ d := by omega
      go_enter Tryz.func36, Tryz.ntmps36
      go_wp2_with fail
      try rw [hq]
      refine HC.out.mono ?_
      rintro e w1 ⟨v', rfl, hA⟩
      have HA := Lib.hid hA
      clear hA
      go_wp2
      go_ret
      exact ⟨_, rfl, HA.out⟩

/-! ### Two lists that are one -/
set_option maxRecDepth 100000 in
set_option maxHeartbeats 2000000 in
theorem Same_ok (w : World) (v v' : Value) (l : List Ln) (hv : Sl w v 4 l.length (lnV l)) (hv' : Sl w v' 4 l.length (lnV l)) :
    Calls Tryz.prog 14 #[v, v'] w (RB (.bool true) w) := by
  obtain ⟨a, cap, rfl, hcap, hm⟩ := hv.form
  obtain ⟨a', cap', rfl, hcap', hm'⟩ := hv'.form
  have hlen : l.length ≤ 9223372036854775807 := by unfold maxLen at hm; omega
  have HV := Lib.hid hv
  have HV' := Lib.hid hv'
  have hG := guardLn
  clear hv hv' hcap hcap' hm hm'
  go_enter Tryz.func14, Tryz.ntmps14
  go_wp2
  go_loopw [13] (fun i wr => ∃ (k n : Nat), i = .int .i64 k ∧ k ≤ l.length ∧ wr = w.drewN n) (fun i _ => l.length - (intOf i).toNat)
  case atStart => exact ⟨0, 0, rfl, by omega, rfl⟩
  case round =>
    obtain ⟨k, n, rfl, hk, rfl⟩ := hrel
    by_cases hlt : k < l.length
    · obtain ⟨⟨ix, sd, bd, gone⟩, hx⟩ : ∃ x, l[k]? = some x := ⟨_, List.getElem?_eq_getElem hlt⟩
      obtain ⟨ab, ao, rfl, hab, g0, g1, g2, g3⟩ := ln_cells HV.out k _ hx
      obtain ⟨ab', ao', rfl, hab', g0', g1', g2', g3'⟩ := ln_cells HV'.out k _ hx
      simp only at g0 g1 g2 g3 g0' g1' g2' g3'
      have b1 : 0 ≤ (k : Int) ∧ (k : Int) < (l.length : Int) := by omega
      have b2 : (k : Int).toNat = k := by omega
      clear hx
      go_wp2
      go_quiet (fail)
      clear b1 b2
      go_wp2
      go_roundw
      case rel => exact ⟨k + 1, _, by go_num, by omega, by first | rfl | (rw [World.drewN_drewN]) | simp⟩
      case measure => simp [intOf]; omega
    · obtain rfl : k = l.length := by omega
      go_wp2
      go_ret
      exact ⟨rfl, Bl.drewN (Below.refl _ _) _⟩

end Go.Proofs.YtjiakfblgefioaaGreatDoor.Tlist
