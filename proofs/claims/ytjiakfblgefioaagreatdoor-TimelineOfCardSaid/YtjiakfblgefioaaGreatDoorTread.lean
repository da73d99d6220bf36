/-
  WHAT IS PROVED: the program's iterator over the events of entries yields each one that an entry has, with its number. Condition: the variables hold what 'VarsE' says, and the entries' bytes are not longer than the theorem says.
-/
import Derived.Test.YtjiakfblgefioaaGreatDoorLift
import Derived.Test.YtjiakfblgefioaaGreatDoorTimelineS
import Derived.Test.YtjiakfblgefioaaGreatDoorRed
namespace Go.Proofs.YtjiakfblgefioaaGreatDoor.Tread
open Go Go.RowKit Go.Shelf Go.Proofs.YtjiakfblgefioaaGreatDoor Go.Proofs.YtjiakfblgefioaaGreatDoor.OctetS Go.Proofs.YtjiakfblgefioaaGreatDoor.IdentS Go.Proofs.YtjiakfblgefioaaGreatDoor.EventS Go.Proofs.YtjiakfblgefioaaGreatDoor.OctP Go.Proofs.YtjiakfblgefioaaGreatDoor.IdentP Go.Proofs.YtjiakfblgefioaaGreatDoor.EventP Go.Proofs.YtjiakfblgefioaaGreatDoor.EventC Go.Proofs.YtjiakfblgefioaaGreatDoor.EventR Go.Proofs.YtjiakfblgefioaaGreatDoor.RowsX Go.Proofs.YtjiakfblgefioaaGreatDoor.Lift Go.Proofs.YtjiakfblgefioaaGreatDoor.OctG
set_option linter.unusedVariables false
set_option linter.unusedSimpArgs false
attribute [local go_sem] Oper.semAt_some

/-! ### Entries -/
structure En where
  room : ByteArray
  ep : Int
  ix : Int
  prev : List Value
  ev : ByteArray
  sig : ByteArray
  len : prev.length = 32
  one : ∀ u ∈ prev, u.oneCell' = true
def En.cs (x : En) : List Value := [.string x.room, .int .i64 x.ep, .int .i64 x.ix] ++ x.prev ++ [.string x.ev, .string x.sig]
def enV (l : List En) : List Value := l.flatMap En.cs
theorem en_len (x : En) : x.cs.length = 37 := by unfold En.cs; simp [x.len]
theorem enF : RowFn 37 En.cs := ⟨en_len, fun x u hu => by
  unfold En.cs at hu
  simp only [List.mem_append, List.mem_cons, List.not_mem_nil, or_false] at hu
  rcases hu with (((rfl | rfl | rfl) | h) | (rfl | rfl))
  · rfl
  · rfl
  · rfl
  · exact x.one u h
  · rfl
  · rfl⟩
theorem en_ev (x : En) : x.cs[35]? = some (.string x.ev) := by
  unfold En.cs
  rw [List.getElem?_append_right (by simp [x.len])]
  simp [x.len]
theorem en_ix (x : En) : x.cs[2]? = some (.int .i64 x.ix) := rfl

/-! ### Their events -/
/-- An event that was read, and its number. -/
abbrev Rd := {x : Nat × Ev // Right x.2 ∧ x.1 ≤ 1099511627776}
def oneE (i : Nat) (x : En) : List Rd := match h : EventS.parse (bl x.ev) with
  | some e => if hi : i ≤ 1099511627776 then [⟨(i, e), (parse_ok h).1, hi⟩] else []
  | none => []
def rdE : Nat → List En → List Rd
  | _, [] => []
  | i, x :: r => oneE i x ++ rdE (i + 1) r
theorem one_some {i : Nat} {x : En} {e : Ev} (he : EventS.parse (bl x.ev) = some e) (hi : i ≤ 1099511627776) : oneE i x = [⟨(i, e), (parse_ok he).1, hi⟩] := by
  unfold oneE
  split
  · rename_i e' h
    obtain rfl : e = e' := Option.some.inj (he.symm.trans h)
    rw [dif_pos hi]
  · rename_i h
    rw [h] at he
    cases he
theorem one_none {i : Nat} {x : En} (he : EventS.parse (bl x.ev) = none) : oneE i x = [] := by
  unfold oneE
  split
  · rename_i e' h
    rw [h] at he
    cases he
  · rfl
theorem one_len (i : Nat) (x : En) : (oneE i x).length ≤ 1 := by
  unfold oneE
  split
  · split <;> simp
  · simp
theorem rdE_app : ∀ (i : Nat) (a b : List En), rdE i (a ++ b) = rdE i a ++ rdE (i + a.length) b
  | i, [], b => by simp [rdE]
  | i, x :: r, b => by
    have ih := rdE_app (i + 1) r b
    simp only [List.cons_append, rdE]
    rw [ih, List.length_cons, show i + 1 + r.length = i + (r.length + 1) by omega, List.append_assoc]
theorem rdE_step {L : List En} {k : Nat} {x : En} (hx : L[k]? = some x) : rdE 0 (L.take (k + 1)) = rdE 0 (L.take k) ++ oneE k x := by
  obtain ⟨hk, rfl⟩ := List.getElem?_eq_some_iff.1 hx
  rw [List.take_succ_eq_append_getElem hk, rdE_app, Nat.zero_add, List.length_take, Nat.min_eq_left (by omega)]
  simp [rdE]
theorem rdE_some {L : List En} {k : Nat} {x : En} {e : Ev} (hx : L[k]? = some x) (he : EventS.parse (bl x.ev) = some e) (hk : k ≤ 1099511627776) : rdE 0 (L.take (k + 1)) = rdE 0 (L.take k) ++ [⟨(k, e), (parse_ok he).1, hk⟩] := by rw [rdE_step hx, one_some he hk]
theorem rdE_none {L : List En} {k : Nat} {x : En} (hx : L[k]? = some x) (he : EventS.parse (bl x.ev) = none) : rdE 0 (L.take (k + 1)) = rdE 0 (L.take k) := by rw [rdE_step hx, one_none he, List.append_nil]
theorem rdE_len : ∀ (i : Nat) (l : List En), (rdE i l).length ≤ l.length
  | _, [] => by simp [rdE]
  | i, x :: r => by
    have := rdE_len (i + 1) r
    have := one_len i x
    simp only [rdE, List.length_append, List.length_cons]
    omega
theorem rdE_pre (L : List En) (k : Nat) : rdE 0 (L.take k) <+: rdE 0 L := by
  have h := rdE_app 0 (L.take k) (L.drop k)
  rw [List.take_append_drop] at h
  exact ⟨_, h.symm⟩
def evZ (e : Ev) : Value := evV (bsOf e.room) (bsOf e.sender) e.kind (bsOf e.key) (bsOf e.body) e.nonce
def encE (x : Rd) : Array Value := #[.int .i64 x.1.1, evZ x.1.2]

theorem read_ok (w : World) (a : Option Addr) (n cap : Nat) : Calls Tryz.prog 61 #[.slice a n cap] w fun e w' => e = .returned (.func (.func 77) #[] #[.pointer (some ⟨w.heap.size, 0, none⟩)]) ∧ w' = w.alloc (.cells #[.slice a n cap] 34) := by
  go_enter Tryz.func61, Tryz.ntmps61
  go_wp2
  go_ret
  exact ⟨rfl, rfl⟩

/-- What the body must keep: what was there, and the iterator's box. -/
def KeepE (n0 B : Nat) (W W' : World) : Prop := Below n0 W W' ∧ W'.heap[B]? = W.heap[B]?
theorem KeepE.trans {n0 B : Nat} {a b c : World} (h : KeepE n0 B a b) (k : KeepE n0 B b c) : KeepE n0 B a c := ⟨h.1.trans k.1, k.2.trans h.2⟩

set_option maxRecDepth 100000 in
set_option maxHeartbeats 4000000 in
theorem iter_in (d : Nat) (hd : 1 ≤ d) (l B : Nat) (w0 : World) (v : Value) (L : List En) (hv : Sl w0 v 37 L.length (enV L)) (hV : VarsE w0) (hb : ∀ x ∈ L, x.ev.size ≤ 140737488351232) (hL : L.length ≤ 1099511627776) (J Jx : List Rd → World → Prop) (b0 : Nat) (hJ : AbidesFrom b0 J)
    (hY : ∀ pre x W, J pre W → pre.length < L.length → YieldAt Fence.wide (d - 1) Tryz.prog l (encE x) W fun e W' =>
      (e = .returned (.bool true) ∧ J (pre ++ [x]) W' ∧ KeepE w0.heap.size B W W') ∨ (e = .returned (.bool false) ∧ Jx (pre ++ [x]) W'))
    (W : World) (hW : Below w0.heap.size w0 W) (hB : W.heap[B]? = some (.cells #[v] 34 (0, 0))) (h0 : J [] W) :
    CallsIn Fence.wide d Tryz.prog 77 #[.func (.yield l) #[] #[], .pointer (some ⟨B, 0, none⟩)] W fun e W' => (∃ v, e = .returned v) ∧
      ((∃ ys, ys = rdE 0 L ∧ J ys W') ∨ (∃ pre, pre <+: rdE 0 L ∧ Jx pre W')) := by
  obtain ⟨a, cap, rfl, hcap, hm⟩ := hv.form
  have hlen : L.length ≤ 9223372036854775807 := by unfold maxLen at hm; omega
  have hcb := cell_row (j := 0) hB
  have hlB := lt_row hB
  have HV := Lib.hid hv
  have HVars := Lib.hid hV
  have HBnd := Lib.hid hb
  have HJ := Lib.hid hJ
  have HY := Lib.hid hY
  have HBx := Lib.hid hB
  have HW := Lib.hid hW
  have H0 := Lib.hid h0
  have hiE : (Tryz.prog.info? 62).map (·.size) = some 37 := by kernel_rfl
  have HiE := Lib.hid hiE
  clear hv hcap hm hV hb hJ hY hB hW h0 hiE
  refine callsIn_of_wp Tryz.func77 rfl trivial ?_ rfl
  simp only [Tryz.ntmps77, List.size_toArray, List.length_cons, List.length_nil, Nat.reduceAdd, Nat.reduceSub, Array.replicate_succ, Array.replicate_zero, List.push_toArray, List.append_toArray, List.nil_append, List.cons_append]
  gi_wp2
  clear hcb
  gi_loopw [9] (fun i wr => ∃ k : Nat, i = .int .i64 k ∧ k ≤ L.length ∧ Below w0.heap.size w0 wr ∧ wr.heap[B]? = some (.cells #[.slice a L.length cap] 34 (0, 0)) ∧ J (rdE 0 (L.take k)) wr) (fun i _ => L.length - (intOf i).toNat)
  case atStart => exact ⟨0, rfl, by omega, HW.out, HBx.out, H0.out⟩
  case round =>
    obtain ⟨k, rfl, hk, hBl, hBx, hJ⟩ := hrel
    by_cases hlt : k < L.length
    · obtain ⟨x, hx⟩ : ∃ x, L[k]? = some x := ⟨_, List.getElem?_eq_getElem hlt⟩
      obtain ⟨ab, ao, rfl, hab, hc⟩ := row_cells enF (by omega) HV.out hx
      have hmem : x ∈ L := List.mem_of_getElem? hx
      have hsz := HBnd.out x hmem
      have hc' : ∀ (j : Nat) (u : Value), x.cs.toArray.toList[j]? = some u → wr.cell? ⟨ab, ao + k * 37 + j, none⟩ = some u := fun j u hu => (hBl.cell (p := ⟨ab, ao + k * 37 + j, none⟩) hab).trans (hc j u hu)
      have hev := en_ev x
      have hpl : (rdE 0 (L.take k)).length ≤ k := Nat.le_trans (rdE_len _ _) (List.length_take_le _ _)
      have hcsz : x.cs.toArray.size = 37 := by simp [en_len]
      have hone : x.cs.toArray.all (·.oneCell') = true := by
        rw [Array.all_eq_true_iff_forall_mem]
        intro u hu
        exact enF.one x u (by simpa using hu)
      obtain ⟨p, hp⟩ : ∃ p, p = x.cs.toArray := ⟨_, rfl⟩
      rw [← hp] at hc' hcsz hone
      have hev' : p[35]? = some (.string x.ev) := by rw [hp]; simpa using hev
      have Hc := Lib.hid hc'
      have Hcsz := Lib.hid hcsz
      have Hone := Lib.hid hone
      have Hev := Lib.hid hev'
      have HBl := Lib.hid hBl
      have HB2 := Lib.hid hBx
      have HJ2 := Lib.hid hJ
      have Hx := Lib.hid hx
      have hP := fun w (hv : VarsE w) => LivesE.Parse_ok w x.ev hv hsz
      unfold EvPost at hP
      have hid : (∃ e, EventS.parse (bl x.ev) = some e) ∨ EventS.parse (bl x.ev) = none := by cases EventS.parse (bl x.ev) <;> simp
      have hlB2 := lt_row hBx
      clear hc hc' hcsz hone hev hev' hBl hBx hJ hx hp hmem
      rcases hid with ⟨ee, he⟩ | he
      · rw [he] at hP
        have HP := Lib.hid hP
        have He := Lib.hid he
        clear hP he
        gi_wp2_with (first
          | refine wpListIn_load_rowO wideF_wide rfl _ _ rfl ab (ao + k * 37) rfl p Hc.out Tryz.underlying62 rfl (by rw [Hcsz.out]; exact HiE.out) ?_
          | refine wpListIn_store_rowA wideF_wide rfl _ _ _ rfl wr.heap.size p rfl rfl _ _ (heap_new wr (.cells #[.string ⟨#[]⟩, .int .i64 0, .int .i64 0, .int .u8 0, .int .u8 0, .int .u8 0, .int .u8 0, .int .u8 0, .int .u8 0, .int .u8 0, .int .u8 0, .int .u8 0, .int .u8 0, .int .u8 0, .int .u8 0, .int .u8 0, .int .u8 0, .int .u8 0, .int .u8 0, .int .u8 0, .int .u8 0, .int .u8 0, .int .u8 0, .int .u8 0, .int .u8 0, .int .u8 0, .int .u8 0, .int .u8 0, .int .u8 0, .int .u8 0, .int .u8 0, .int .u8 0, .int .u8 0, .int .u8 0, .int .u8 0, .string ⟨#[]⟩, .string ⟨#[]⟩] 62)) (by rw [Hcsz.out]; exact HiE.out) (by rw [Hcsz.out]; rfl) Hone.out ?_)
        intro w1 hw1
        obtain ⟨hb1, hr1⟩ := Lift.row_new hw1
        have hc1 : w1.cell? ⟨wr.heap.size, 35, none⟩ = some (.string x.ev) := by rw [cell_row hr1]; exact Hev.out
        have HB1 := Lib.hid (HBl.out.trans (hb1.mono HBl.out.size))
        have HBx1 := Lib.hid ((hb1.block _ hlB2).trans HB2.out)
        have HJ1 := Lib.hid (HJ.out _ _ _ none HJ2.out ⟨hb1.os, hb1.tape, hb1.output, hb1.size, fun k hk _ => hb1.block k hk⟩ (fun r e => by cases e))
        have hl1 := lt_row hr1
        clear hw1 hb1 hr1
        have hV1 := HVars.out.below HB1.out
        have HV1 := Lib.hid hV1
        clear hV1
        gi_wp2_with fail
        refine ⟨trivial, ?_⟩
        refine (callsIn_wide.2 (HP.out w1 HV1.out)).mono ?_
        rintro e w2 ⟨rfl, hb2⟩
        unfold readEV
        have hb4 : Below w1.heap.size w1 (w2.alloc (.cells #[.string (bsOf ee.room), .string (bsOf ee.sender), .int .u8 ee.kind, .string (bsOf ee.key), .string (bsOf ee.body), .int .i64 ee.nonce] 56)) := hb2.trans (((Below.refl _ w2).alloc (Nat.le_refl _) _).mono hb2.size)
        have HB4 := Lib.hid (HB1.out.trans (hb4.mono HB1.out.size))
        have HBx4 := Lib.hid ((hb4.block _ (lt_row HBx1.out)).trans HBx1.out)
        have hJ4 := HJ.out _ _ _ none HJ1.out ⟨hb4.os, hb4.tape, hb4.output, hb4.size, fun k hk _ => hb4.block k hk⟩ (fun r e => by cases e)
        obtain ⟨fn, tmps, assign, body, hy, hR⟩ := HY.out (rdE 0 (L.take k)) ⟨(k, ee), (parse_ok He.out).1, by omega⟩ _ hJ4 (by omega)
        simp only [encE, evZ, evV] at hy
        have HR := Lib.hid hR
        have Hpre := Lib.hid (rdE_some Hx.out He.out (by omega))
        clear hJ4 hR hb4 hb2 hc1
        unfold evV
        gi_wp2
        refine HR.out.mono ?_
        rintro e W5 (⟨rfl, hJ5, hk5⟩ | ⟨rfl, hJx5⟩)
        · have HK5 := Lib.hid hk5
          have HJ5 := Lib.hid hJ5
          clear hJ5 hk5 hy
          gi_wp2
          go_roundw
          case rel => exact ⟨k + 1, by go_num, by omega, HB4.out.trans HK5.out.1, HK5.out.2.trans HBx4.out, by rw [Hpre.out]; exact HJ5.out⟩
          case measure => simp [intOf]; omega
        · have HJ5 := Lib.hid hJx5
          clear hJx5 hy
          gi_wp2
          refine bodyPost_ret (results_none rfl _ _ _) rfl ?_
          exact ⟨⟨_, rfl⟩, .inr ⟨_, by rw [← Hpre.out]; exact rdE_pre L (k + 1), HJ5.out⟩⟩
      · rw [he] at hP
        have HP := Lib.hid hP
        have He := Lib.hid he
        clear hP he
        gi_wp2_with (first
          | refine wpListIn_load_rowO wideF_wide rfl _ _ rfl ab (ao + k * 37) rfl p Hc.out Tryz.underlying62 rfl (by rw [Hcsz.out]; exact HiE.out) ?_
          | refine wpListIn_store_rowA wideF_wide rfl _ _ _ rfl wr.heap.size p rfl rfl _ _ (heap_new wr (.cells #[.string ⟨#[]⟩, .int .i64 0, .int .i64 0, .int .u8 0, .int .u8 0, .int .u8 0, .int .u8 0, .int .u8 0, .int .u8 0, .int .u8 0, .int .u8 0, .int .u8 0, .int .u8 0, .int .u8 0, .int .u8 0, .int .u8 0, .int .u8 0, .int .u8 0, .int .u8 0, .int .u8 0, .int .u8 0, .int .u8 0, .int .u8 0, .int .u8 0, .int .u8 0, .int .u8 0, .int .u8 0, .int .u8 0, .int .u8 0, .int .u8 0, .int .u8 0, .int .u8 0, .int .u8 0, .int .u8 0, .int .u8 0, .string ⟨#[]⟩, .string ⟨#[]⟩] 62)) (by rw [Hcsz.out]; exact HiE.out) (by rw [Hcsz.out]; rfl) Hone.out ?_)
        intro w1 hw1
        obtain ⟨hb1, hr1⟩ := Lift.row_new hw1
        have hc1 : w1.cell? ⟨wr.heap.size, 35, none⟩ = some (.string x.ev) := by rw [cell_row hr1]; exact Hev.out
        have HB1 := Lib.hid (HBl.out.trans (hb1.mono HBl.out.size))
        have HBx1 := Lib.hid ((hb1.block _ hlB2).trans HB2.out)
        have HJ1 := Lib.hid (HJ.out _ _ _ none HJ2.out ⟨hb1.os, hb1.tape, hb1.output, hb1.size, fun k hk _ => hb1.block k hk⟩ (fun r e => by cases e))
        have hl1 := lt_row hr1
        clear hw1 hb1 hr1
        have hV1 := HVars.out.below HB1.out
        have HV1 := Lib.hid hV1
        clear hV1
        gi_wp2_with fail
        refine ⟨trivial, ?_⟩
        refine (callsIn_wide.2 (HP.out w1 HV1.out)).mono ?_
        rintro e w2 ⟨rfl, hb2⟩
        unfold readEV
        have hb4 : Below w1.heap.size w1 (w2.alloc (.cells #[.string ByteArray.empty, .string ByteArray.empty, .int .u8 0, .string ByteArray.empty, .string ByteArray.empty, .int .i64 0] 56)) := hb2.trans (((Below.refl _ w2).alloc (Nat.le_refl _) _).mono hb2.size)
        have HB4 := Lib.hid (HB1.out.trans (hb4.mono HB1.out.size))
        have HBx4 := Lib.hid ((hb4.block _ (lt_row HBx1.out)).trans HBx1.out)
        have hJ4 := HJ.out _ _ _ none HJ1.out ⟨hb4.os, hb4.tape, hb4.output, hb4.size, fun k hk _ => hb4.block k hk⟩ (fun r e => by cases e)
        have HJ4 := Lib.hid hJ4
        have Hpre := Lib.hid (rdE_none Hx.out He.out)
        clear hJ4 hb4 hb2 hc1
        unfold evV
        gi_wp2
        refine ⟨fun f h => (by cases h), ?_⟩
        gi_wp2
        go_roundw
        case rel => exact ⟨k + 1, by go_num, by omega, HB4.out, HBx4.out, by rw [Hpre.out]; exact HJ4.out⟩
        case measure => simp [intOf]; omega
    · obtain rfl : k = L.length := by omega
      rw [List.take_length] at hJ
      have HJ2 := Lib.hid hJ
      clear hJ hBl hBx
      gi_wp2
      go_end0
      exact ⟨⟨_, rfl⟩, .inl ⟨_, rfl, HJ2.out⟩⟩

theorem seq_stops (d : Nat) (hd : 1 ≤ d) (B : Nat) (w0 w : World) (v : Value) (L : List En) (hv : Sl w0 v 37 L.length (enV L)) (hV : VarsE w0) (hb : ∀ x ∈ L, x.ev.size ≤ 140737488351232) (hL : L.length ≤ 1099511627776) (hw : Below w0.heap.size w0 w) (hB : w.heap[B]? = some (.cells #[v] 34 (0, 0))) :
    SeqStopsK Fence.wide d Tryz.prog 77 #[.pointer (some ⟨B, 0, none⟩)] encE (KeepE w0.heap.size B) (fun ys => ys = rdE 0 L) (fun pre => pre <+: rdE 0 L) L.length w := fun l J Jx W hW hJ _ hY h0 =>
  iter_in d hd l B w0 v L hv hV hb hL J Jx W.heap.size hJ hY W (hw.trans (hW.mono hw.size)) ((hW.block B (lt_row hB)).trans hB) h0

end Go.Proofs.YtjiakfblgefioaaGreatDoor.Tread
