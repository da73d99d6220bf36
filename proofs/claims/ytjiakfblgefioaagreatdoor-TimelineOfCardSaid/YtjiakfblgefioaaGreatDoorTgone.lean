/-
  WHAT IS PROVED: which messages the program says were taken back; two lists of numbers that are one. Condition: what each theorem names.
-/
import Derived.Test.YtjiakfblgefioaaGreatDoorTof
namespace Go.Proofs.YtjiakfblgefioaaGreatDoor.Tgone
open Go Go.RowKit Go.Shelf Go.Proofs.YtjiakfblgefioaaGreatDoor Go.Proofs.YtjiakfblgefioaaGreatDoor.OctP Go.Proofs.YtjiakfblgefioaaGreatDoor.IdentP Go.Proofs.YtjiakfblgefioaaGreatDoor.EventP Go.Proofs.YtjiakfblgefioaaGreatDoor.RedA Go.Proofs.YtjiakfblgefioaaGreatDoor.RowsX Go.Proofs.YtjiakfblgefioaaGreatDoor.Lift Go.Proofs.YtjiakfblgefioaaGreatDoor.Tline Go.Proofs.YtjiakfblgefioaaGreatDoor.Tlist Go.Proofs.YtjiakfblgefioaaGreatDoor.Tread Go.Proofs.YtjiakfblgefioaaGreatDoor.Tmsg Go.Proofs.YtjiakfblgefioaaGreatDoor.Tof
set_option linter.unusedVariables false
set_option linter.unusedSimpArgs false

def inF (i : Nat) : List Value := [.int .i64 i]
theorem inFn : RowFn 1 inF := ⟨fun _ => rfl, fun x u hu => by simp [inF] at hu; rw [hu]; rfl⟩
theorem tyInts : SliceTy Tryz.prog 39 3 1 8 (.int .i64 0) := SliceTy.mk' (by kernel_rfl) (by kernel_rfl) rfl (by omega)
abbrev AccI (w0 w : World) (v : Value) (l : List Nat) : Prop := AccR 3 1 inF w0 w v l

theorem gone1_ok (w : World) (m : Mg) : Calls Tryz.prog 42 #[.agg #[.int .i64 (m.i : Int), .string (bsOf m.e.room), .string (bsOf m.e.sender), .int .u8 m.e.kind, .string (bsOf m.e.key), .string (bsOf m.e.body), .int .i64 m.e.nonce, .bool m.gone]] w (RB (.bool m.gone) w) := by
  go_enter Tryz.func42, Tryz.ntmps42
  go_wp2
  go_ret
  exact ⟨rfl, (Below.refl _ _).alloc (Nat.le_refl _) _⟩

set_option maxRecDepth 100000 in
set_option maxHeartbeats 4000000 in
theorem pickM_ok (w : World) (v : Value) (l : List Mg) (hv : Sl w v 8 l.length (l.flatMap Mg.cs)) (hl : l.length ≤ 1099511627776) :
    Calls Tryz.prog 41 #[v, .func (.func 42) #[] #[]] w fun e w' => ∃ v', e = .returned v' ∧ AccM w w' v' (l.filter Mg.gone) := by
  obtain ⟨a, cap, rfl, hcap, hm⟩ := hv.form
  have hlen : l.length ≤ 9223372036854775807 := by omega
  have eg := enters_of Tryz.func42 (by kernel_rfl) rfl
  have HV := Lib.hid hv
  have hi8 : (Tryz.prog.info? 76).map (·.size) = some 8 := by kernel_rfl
  have Hi8 := Lib.hid hi8
  clear hv hcap hm hi8
  go_enter Tryz.func41, Tryz.ntmps41
  go_wp2
  go_loopw [5, 10] (fun b i wr => ∃ (v : Value) (k : Nat), b = v ∧ i = .int .i64 k ∧ k ≤ l.length ∧ AccM w wr v ((l.take k).filter Mg.gone)) (fun _ i _ => l.length - (intOf i).toNat)
  case atStart => exact ⟨_, 0, rfl, rfl, by omega, AccR.nil w⟩
  case round =>
    obtain ⟨v, k, rfl, rfl, hk, hA⟩ := hrel
    by_cases hlt : k < l.length
    · obtain ⟨m, hx⟩ : ∃ x, l[k]? = some x := ⟨_, List.getElem?_eq_getElem hlt⟩
      have hsn : (l.take (k + 1)).filter Mg.gone = (l.take k).filter Mg.gone ++ [m].filter Mg.gone := by
        obtain ⟨_, hx'⟩ := List.getElem?_eq_some_iff.1 hx
        rw [List.take_succ_eq_append_getElem hlt, hx', List.filter_append]
      obtain ⟨mb, mo, rfl, hmb, hmc⟩ := row_cells mgF (by omega) HV.out hx
      have Hmc := Lib.hid (fun (j : Nat) (u : Value) (hu : (#[.int .i64 (m.i : Int), .string (bsOf m.e.room), .string (bsOf m.e.sender), .int .u8 m.e.kind, .string (bsOf m.e.key), .string (bsOf m.e.body), .int .i64 m.e.nonce, .bool m.gone] : Array Value).toList[j]? = some u) => (hA.bel.cell (p := ⟨mb, mo + k * 8 + j, none⟩) hmb).trans (hmc j u hu))
      have hfl : ((l.take k).filter Mg.gone).length ≤ k := Nat.le_trans (List.length_filter_le _ _) (List.length_take_le _ _)
      have HA := Lib.hid (hA.alloc (.cells #[.int .i64 (m.i : Int), .string (bsOf m.e.room), .string (bsOf m.e.sender), .int .u8 m.e.kind, .string (bsOf m.e.key), .string (bsOf m.e.body), .int .i64 m.e.nonce, .bool m.gone] 76))
      have Hsn := Lib.hid hsn
      have hbx := heap_new wr (.cells #[.int .i64 (m.i : Int), .string (bsOf m.e.room), .string (bsOf m.e.sender), .int .u8 m.e.kind, .string (bsOf m.e.key), .string (bsOf m.e.body), .int .i64 m.e.nonce, .bool m.gone] 76)
      clear hA hsn hx hmc
      go_wp2_with (refine wpList_load_rowO rfl _ _ rfl mb (mo + k * 8) rfl #[.int .i64 (m.i : Int), .string (bsOf m.e.room), .string (bsOf m.e.sender), .int .u8 m.e.kind, .string (bsOf m.e.key), .string (bsOf m.e.body), .int .i64 m.e.nonce, .bool m.gone] Hmc.out Tryz.underlying76 rfl Hi8.out ?_)
      refine (gone1_ok _ m).mono ?_
      rintro e w1 ⟨rfl, hb⟩
      have HA1 := Lib.hid (HA.out.below hb)
      have hb1 := (hb.block _ (lt_row hbx)).trans hbx
      obtain ⟨hc1, hf1⟩ := row_facts hb1
      have hl1 := lt_row hb1
      clear hb hbx hb1 HA
      cases hP : m.gone
      · have e0 : ([m] : List Mg).filter Mg.gone = [] := by simp [hP]
        have E0 := Lib.hid e0
        clear e0
        go_wp2
        go_roundw
        case rel => exact ⟨_, k + 1, rfl, by go_num, by omega, by rw [Hsn.out, E0.out, List.append_nil]; exact HA1.out⟩
        case measure => simp [intOf]; omega
      · have e0 : ([m] : List Mg).filter Mg.gone = [m] := by simp [hP]
        have E0 := Lib.hid e0
        have hcs : (#[.int .i64 (m.i : Int), .string (bsOf m.e.room), .string (bsOf m.e.sender), .int .u8 m.e.kind, .string (bsOf m.e.key), .string (bsOf m.e.body), .int .i64 m.e.nonce, .bool m.gone] : Array Value).toList = m.cs := rfl
        rw [hP] at hcs
        have Hcs := Lib.hid hcs
        clear e0 hcs
        go_wp2_with (at_builtin; go_must (refine wpList_accR tyMsgs mgF HA1.out m rfl _ _ rfl rfl #[.int .i64 (m.i : Int), .string (bsOf m.e.room), .string (bsOf m.e.sender), .int .u8 m.e.kind, .string (bsOf m.e.key), .string (bsOf m.e.body), .int .i64 m.e.nonce, .bool true] Hcs.out _ rfl (by simp) ?hl ?hb ?go))
        case hl => unfold maxLen; omega
        case hb => omega
        case go =>
        intro v2 w2 A2
        have HA2 := Lib.hid A2
        clear A2 HA1 hc1 hf1
        go_wp2
        go_roundw
        case rel => exact ⟨_, k + 1, rfl, by go_num, by omega, by rw [Hsn.out, E0.out]; exact HA2.out⟩
        case measure => simp [intOf]; omega
    · obtain rfl : k = l.length := by omega
      rw [List.take_length] at hA
      have HA := Lib.hid hA
      clear hA
      go_wp2
      go_ret
      exact ⟨_, rfl, HA.out⟩

/-- Which were taken back. -/
def goneL (L : List En) : List Nat := ((msgs L).filter Mg.gone).map Mg.i
set_option maxRecDepth 100000 in
set_option maxHeartbeats 4000000 in
theorem Gone_ok (w : World) (v : Value) (L : List En) (hv : Sl w v 37 L.length (enV L)) (hV : VarsR w) (hb : ∀ x ∈ L, x.ev.size ≤ 140737488351232) (hL : L.length ≤ 1099511627776) :
    Calls Tryz.prog 18 #[v] w fun e w' => ∃ v', e = .returned v' ∧ AccI w w' v' (goneL L) := by
  have hM := messages_ok w v L hv hV hb hL
  have hml := msgs_len L
  unfold goneL
  rw [show (rdE 0 L).flatMap (mgOf (rdE 0 L)) = msgs L from rfl] at hM
  obtain ⟨ms, hms⟩ : ∃ ms, ms = msgs L := ⟨_, rfl⟩
  rw [← hms] at hM hml ⊢
  have hfl := List.length_filter_le Mg.gone ms
  obtain ⟨fs, hfs⟩ : ∃ fs, fs = ms.filter Mg.gone := ⟨_, rfl⟩
  have Hfs := Lib.hid hfs
  rw [← hfs] at hfl ⊢
  have HM := Lib.hid hM
  have hi8 : (Tryz.prog.info? 76).map (·.size) = some 8 := by kernel_rfl
  have Hi8 := Lib.hid hi8
  clear hv hV hb hM hms hi8 hfs
  go_enter Tryz.func18, Tryz.ntmps18
  go_wp2_with fail
  refine HM.out.mono ?_
  rintro e w1 ⟨vm, rfl, hA1⟩
  have hP := pickM_ok w1 vm ms hA1.sl (by omega)
  rw [← Hfs.out] at hP
  have HP := Lib.hid hP
  have HB1 := Lib.hid hA1.bel
  clear hA1 hP
  go_wp2_with fail
  refine HP.out.mono ?_
  rintro e w2 ⟨vp, rfl, hA2⟩
  obtain ⟨am, cm, rfl, _, _⟩ := hA2.own.form
  have HS2 := Lib.hid hA2.sl
  have HB2 := Lib.hid (HB1.out.trans (hA2.bel.mono HB1.out.size))
  clear hA2
  go_wp2
  go_loopw [3, 10] (fun b i wr => ∃ (v : Value) (k : Nat), b = v ∧ i = .int .i64 k ∧ k ≤ fs.length ∧ AccI w2 wr v ((fs.take k).map Mg.i)) (fun _ i _ => fs.length - (intOf i).toNat)
  case atStart => exact ⟨_, 0, rfl, rfl, by omega, AccR.nil w2⟩
  case round =>
    obtain ⟨v, k, rfl, rfl, hk, hA⟩ := hrel
    by_cases hlt : k < fs.length
    · obtain ⟨m, hx⟩ : ∃ x, fs[k]? = some x := ⟨_, List.getElem?_eq_getElem hlt⟩
      have hsn := take_map Mg.i hx
      obtain ⟨mb, mo, rfl, hmb, hmc⟩ := row_cells mgF (by omega) HS2.out hx
      have Hmc := Lib.hid (fun (j : Nat) (u : Value) (hu : (#[.int .i64 (m.i : Int), .string (bsOf m.e.room), .string (bsOf m.e.sender), .int .u8 m.e.kind, .string (bsOf m.e.key), .string (bsOf m.e.body), .int .i64 m.e.nonce, .bool m.gone] : Array Value).toList[j]? = some u) => (hA.bel.cell (p := ⟨mb, mo + k * 8 + j, none⟩) hmb).trans (hmc j u hu))
      have hfl2 : ((fs.take k).map Mg.i).length ≤ k := by rw [List.length_map]; exact List.length_take_le _ _
      have HA := Lib.hid (hA.alloc (.cells #[.int .i64 (m.i : Int), .string (bsOf m.e.room), .string (bsOf m.e.sender), .int .u8 m.e.kind, .string (bsOf m.e.key), .string (bsOf m.e.body), .int .i64 m.e.nonce, .bool m.gone] 76))
      have Hsn := Lib.hid hsn
      clear hA hsn hx hmc
      go_wp2_with (first
        | refine wpList_load_rowO rfl _ _ rfl mb (mo + k * 8) rfl #[.int .i64 (m.i : Int), .string (bsOf m.e.room), .string (bsOf m.e.sender), .int .u8 m.e.kind, .string (bsOf m.e.key), .string (bsOf m.e.body), .int .i64 m.e.nonce, .bool m.gone] Hmc.out Tryz.underlying76 rfl Hi8.out ?_
        | (at_builtin; go_must (refine wpList_accR tyInts inFn HA.out m.i rfl _ _ rfl rfl #[.int .i64 (m.i : Int)] rfl _ rfl (by simp) ?hl ?hb ?go)))
      case hl => unfold maxLen; omega
      case hb => omega
      case go =>
      intro v2 w3 A2
      have HA2 := Lib.hid A2
      clear A2 HA
      go_wp2
      go_roundw
      case rel => exact ⟨_, k + 1, rfl, by go_num, by omega, by rw [Hsn.out]; simpa [List.map_take] using HA2.out⟩
      case measure => simp [intOf]; omega
    · obtain rfl : k = fs.length := by omega
      rw [List.take_length] at hA
      have HA := Lib.hid hA
      clear hA
      go_wp2
      go_ret
      exact ⟨_, rfl, ⟨HA.out.own.rebase (fun k hk => by have := (HA.out.own.lt k hk).1; have := HB2.out.size; omega), HB2.out.trans (HA.out.bel.mono HB2.out.size)⟩⟩

set_option maxRecDepth 100000 in
set_option maxHeartbeats 2000000 in
theorem Same_ok (w : World) (v v' : Value) (l : List Nat) (hv : Sl w v 1 l.length (l.flatMap inF)) (hv' : Sl w v' 1 l.length (l.flatMap inF)) :
    Calls Tryz.prog 17 #[v, v'] w (RB (.bool true) w) := by
  obtain ⟨a, cap, rfl, hcap, hm⟩ := hv.form
  obtain ⟨a', cap', rfl, hcap', hm'⟩ := hv'.form
  have hlen : l.length ≤ 9223372036854775807 := by unfold maxLen at hm; omega
  have HV := Lib.hid hv
  have HV' := Lib.hid hv'
  clear hv hv' hcap hcap' hm hm'
  go_enter Tryz.func17, Tryz.ntmps17
  go_wp2
  go_loopw [13] (fun i wr => ∃ (k n : Nat), i = .int .i64 k ∧ k ≤ l.length ∧ wr = w.drewN n) (fun i _ => l.length - (intOf i).toNat)
  case atStart => exact ⟨0, 0, rfl, by omega, rfl⟩
  case round =>
    obtain ⟨k, n, rfl, hk, rfl⟩ := hrel
    by_cases hlt : k < l.length
    · obtain ⟨x, hx⟩ : ∃ x, l[k]? = some x := ⟨_, List.getElem?_eq_getElem hlt⟩
      obtain ⟨ab, ao, rfl, hab, hc⟩ := row_cells inFn (by omega) HV.out hx
      obtain ⟨ab', ao', rfl, hab', hc'⟩ := row_cells inFn (by omega) HV'.out hx
      have g0 := hc 0 _ rfl
      have g0' := hc' 0 _ rfl
      simp only [Nat.mul_one, Nat.add_zero] at g0 g0'
      have b1 : 0 ≤ (k : Int) ∧ (k : Int) < (l.length : Int) := by omega
      have b2 : (k : Int).toNat = k := by omega
      clear hx hc hc'
      go_wp2
      go_quiet (fail)
      clear b1 b2
      go_wp2
      go_roundw
      case rel => exact ⟨k + 1, _, by go_num, by omega, by first | rfl | (rw [World.drewN_drewN]) | simp⟩
      case measure => simp [intOf]; omega
    · obtain rfl : k = l.length := by omega
      go_wp2
      go_ret
      exact ⟨rfl, Bl.drewN (Below.refl _ _) _⟩

end Go.Proofs.YtjiakfblgefioaaGreatDoor.Tgone
