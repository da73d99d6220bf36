/-
  WHAT IS PROVED: the program's sums: a block is added. Condition: the block has 64 bytes, and the variable holds what 'VarsH' says.
-/
import Derived.Test.YtfodloepkgkilaaDoorShaW
import Derived.Laws.CopyOwn
namespace Go.Proofs.YtfodloepkgkilaaDoor.ShaA
open Go Go.RowKit Go.Proofs.YtfodloepkgkilaaDoor Go.Proofs.YtfodloepkgkilaaDoor.U32 Go.Proofs.YtfodloepkgkilaaDoor.ShaS Go.Proofs.YtfodloepkgkilaaDoor.ShaT Go.Proofs.YtfodloepkgkilaaDoor.ShaW Go.Proofs.YtfodloepkgkilaaDoor.Steps
set_option linter.unusedVariables false
set_option linter.unusedSimpArgs false
attribute [local go_sem high] b_add b_xor b_or b_and un_not b_shr3 b_shr10

/-- What the package-level variables of the sums hold. -/
structure VarsH (w : World) : Prop where
  k : ∀ t, t < 64 → w.cell? ⟨3, t, none⟩ = some (.int .u32 (u (kL.getD t 0)))
  b : ∀ i, i < 8 → w.cell? ⟨2, i, none⟩ = some (.int .u32 (u (beginL.getD i 0)))
theorem VarsH.below {w w' : World} (h : VarsH w) (hb : Below w.heap.size w w') : VarsH w' :=
  ⟨fun t ht => below_cell hb (h.k t ht), fun i hi => below_cell hb (h.b i hi)⟩
theorem VarsH.ext {S : Nat → Prop} {w w' : World} (h : VarsH w) (he : Ext S w w') (h1 : ¬ S 3) (h2 : ¬ S 2) : VarsH w' :=
  ⟨fun t ht => he.cellOf (h.k t ht) h1, fun i hi => he.cellOf (h.b i hi) h2⟩

theorem list8 {l : List UInt32} (h : l.length = 8) : ∃ o0 o1 o2 o3 o4 o5 o6 o7, l = [o0, o1, o2, o3, o4, o5, o6, o7] := by
  match l, h with
  | [a, b, c, d, e, f, g, h], _ => exact ⟨a, b, c, d, e, f, g, h, rfl⟩

/-- Half way through the last loop of 'add'. -/
def mixL (x y : List UInt32) (t : Nat) : List UInt32 := List.zipWith (· + ·) (x.take t) (y.take t) ++ x.drop t
theorem mix_length {x y : List UInt32} (hx : x.length = 8) (hy : y.length = 8) {t : Nat} (ht : t ≤ 8) : (mixL x y t).length = 8 := by
  simp [mixL]; omega
theorem mix_get {x y : List UInt32} (hx : x.length = 8) (hy : y.length = 8) {t : Nat} (ht : t < 8) : (wV (mixL x y t)).toArray[t]? = some (.int .u32 (u (x.getD t 0))) := by
  unfold mixL wV
  rw [List.getElem?_toArray, List.getElem?_map, List.getElem?_append_right (by simp; omega), List.length_zipWith, List.length_take, List.length_take, hx, hy, Nat.min_eq_left (by omega : t ≤ 8), Nat.min_self, Nat.sub_self, List.getElem?_drop, Nat.add_zero, List.getElem?_eq_getElem (by omega), List.getD_eq_getElem?_getD, List.getElem?_eq_getElem (by omega)]
  rfl
theorem mix_set {x y : List UInt32} (hx : x.length = 8) (hy : y.length = 8) {t : Nat} (ht : t < 8) : (wV (mixL x y t)).toArray.setIfInBounds t (.int .u32 (u (x.getD t 0 + y.getD t 0))) = (wV (mixL x y (t + 1))).toArray := by
  obtain ⟨a0, a1, a2, a3, a4, a5, a6, a7, rfl⟩ := list8 hx
  obtain ⟨b0, b1, b2, b3, b4, b5, b6, b7, rfl⟩ := list8 hy
  have : t = 0 ∨ t = 1 ∨ t = 2 ∨ t = 3 ∨ t = 4 ∨ t = 5 ∨ t = 6 ∨ t = 7 := by omega
  rcases this with rfl | rfl | rfl | rfl | rfl | rfl | rfl | rfl <;> rfl
theorem mix_zero (x y : List UInt32) : mixL x y 0 = x := by simp [mixL]
theorem mix_full {x y : List UInt32} (hx : x.length = 8) (hy : y.length = 8) : mixL x y 8 = List.zipWith (· + ·) x y := by
  unfold mixL
  rw [List.take_of_length_le (by omega), List.take_of_length_le (by omega), List.drop_of_length_le (by omega), List.append_nil]
theorem wV_get {x : List UInt32} {t : Nat} (ht : t < x.length) : (wV x).toArray[t]? = some (.int .u32 (u (x.getD t 0))) := by
  unfold wV
  rw [List.getElem?_toArray, List.getElem?_map, List.getElem?_eq_getElem ht, List.getD_eq_getElem?_getD, List.getElem?_eq_getElem ht]
  rfl

theorem turns (w : World) (x : UInt32) (n : Int) (h : n = 2 ∨ n = 6 ∨ n = 11 ∨ n = 13 ∨ n = 22 ∨ n = 25) : Calls Tryd.prog 115 #[.int .u32 (u x), .int .i64 n] w fun e w' => e = .returned (.int .u32 (u (rotr x n.toNat))) ∧ w' = w := by
  rcases h with rfl | rfl | rfl | rfl | rfl | rfl
  · exact (turn_2 w x).mono fun _ _ ⟨h1, h2⟩ => ⟨h1, h2.symm⟩
  · exact (turn_6 w x).mono fun _ _ ⟨h1, h2⟩ => ⟨h1, h2.symm⟩
  · exact (turn_11 w x).mono fun _ _ ⟨h1, h2⟩ => ⟨h1, h2.symm⟩
  · exact (turn_13 w x).mono fun _ _ ⟨h1, h2⟩ => ⟨h1, h2.symm⟩
  · exact (turn_22 w x).mono fun _ _ ⟨h1, h2⟩ => ⟨h1, h2.symm⟩
  · exact (turn_25 w x).mono fun _ _ ⟨h1, h2⟩ => ⟨h1, h2.symm⟩

def AddPost (w : World) (vb : Nat) (x : List UInt32) (b : List UInt8) (e : Ending) (w' : World) : Prop :=
  e = .returned (.tuple #[]) ∧ w'.heap[vb]? = some (.cells (wV (addB x b)).toArray 118 (0, 0)) ∧ Ext (fun k => k = vb) w w'

set_option maxRecDepth 100000 in
set_option maxHeartbeats 8000000 in
theorem add_ok (w : World) (vb : Nat) (x : List UInt32) (hx8 : x.length = 8) (hvb : w.heap[vb]? = some (.cells (wV x).toArray 118 (0, 0))) (v : Value) (b : List UInt8) (hb : b.length = 64) (hv : Sl w v 1 64 (byV b)) (hk : VarsH w) :
    Calls Tryd.prog 95 #[.pointer (some ⟨vb, 0, none⟩), v] w (AddPost w vb x b) := by
  obtain ⟨o0, o1, o2, o3, o4, o5, o6, o7, rfl⟩ := list8 hx8
  have hW := fun W hW => words_ok W v b hb hW
  obtain ⟨ws, hws⟩ : ∃ ws, ws = ShaS.words b := ⟨_, rfl⟩
  have hwl : ws.length = 64 := by rw [hws]; exact words_length b
  have hadd : addB [o0, o1, o2, o3, o4, o5, o6, o7] b = mixL [o0, o1, o2, o3, o4, o5, o6, o7] (compN [o0, o1, o2, o3, o4, o5, o6, o7] ws 64) 8 := by
    rw [mix_full hx8 (compN_length hx8 ws 64), hws]
    rfl
  have Hadd := Lib.hid hadd
  rw [← hws] at hW
  have HWd := Lib.hid hW
  have Hv := Lib.hid hv
  have Hk := Lib.hid hk
  have hvl := lt_row hvb
  have Hvb := Lib.hid hvb
  have hsz : (wV ws).toArray.size = 64 := by simp [wV_length, hwl]
  have hone := wV_one ws
  obtain ⟨p, hp⟩ : ∃ p, p = (wV ws).toArray := ⟨_, rfl⟩
  rw [← hp] at hsz hone HWd
  have Hp := Lib.hid hp
  have Hone := Lib.hid hone
  have hi : (Tryd.prog.info? 89).map (·.size) = some 64 := by kernel_rfl
  have Hi := Lib.hid hi
  have Hsz := Lib.hid hsz
  clear hadd hW hv hk hvb hws hp hone hi hsz
  go_enter Tryd.func95, Tryd.ntmps95
  go_wp2_with fail
  refine (HWd.out w Hv.out).mono ?_
  rintro e w1 ⟨rfl, hb1⟩
  have hvb1 := (hb1.block _ hvl).trans Hvb.out
  have HB1 := Lib.hid hb1
  have HK1 := Lib.hid (Hk.out.below hb1)
  clear hb1
  go_wp2_with (refine wpList_store_rowA rfl _ _ _ rfl w1.heap.size p rfl rfl _ _ (heap_new w1 (.cells #[.int .u32 0, .int .u32 0, .int .u32 0, .int .u32 0, .int .u32 0, .int .u32 0, .int .u32 0, .int .u32 0, .int .u32 0, .int .u32 0, .int .u32 0, .int .u32 0, .int .u32 0, .int .u32 0, .int .u32 0, .int .u32 0, .int .u32 0, .int .u32 0, .int .u32 0, .int .u32 0, .int .u32 0, .int .u32 0, .int .u32 0, .int .u32 0, .int .u32 0, .int .u32 0, .int .u32 0, .int .u32 0, .int .u32 0, .int .u32 0, .int .u32 0, .int .u32 0, .int .u32 0, .int .u32 0, .int .u32 0, .int .u32 0, .int .u32 0, .int .u32 0, .int .u32 0, .int .u32 0, .int .u32 0, .int .u32 0, .int .u32 0, .int .u32 0, .int .u32 0, .int .u32 0, .int .u32 0, .int .u32 0, .int .u32 0, .int .u32 0, .int .u32 0, .int .u32 0, .int .u32 0, .int .u32 0, .int .u32 0, .int .u32 0, .int .u32 0, .int .u32 0, .int .u32 0, .int .u32 0, .int .u32 0, .int .u32 0, .int .u32 0, .int .u32 0] 89)) (by rw [Hsz.out]; exact Hi.out) (by rw [Hsz.out]; rfl) Hone.out ?go)
  case go =>
    intro W2 HW2
    have hW2 := HW2.out
    clear HW2
    have hb2 : Below w.heap.size w W2 := by rw [hW2]; exact below_row (HB1.out.alloc HB1.out.size _) HB1.out.size _
    have hw2 : W2.heap[w1.heap.size]? = some (.cells p 89 (0, 0)) := by rw [hW2]; exact setRow_at (heap_new w1 _)
    have hv2 : W2.heap[vb]? = some (.cells (wV [o0, o1, o2, o3, o4, o5, o6, o7]).toArray 118 (0, 0)) := (hb2.block _ hvl).trans Hvb.out
    have hwne : ¬ vb = w1.heap.size := by have := lt_row hvb1; omega
    have Hw2 := Lib.hid hw2
    have Hv2 := Lib.hid hv2
    have HB2 := Lib.hid hb2
    have HK2 := Lib.hid (Hk.out.below hb2)
    have hvl2 := lt_row hv2
    have hwl2 := lt_row hw2
    have hvw := HB1.out.size
    clear hW2 hb2 hw2 hvb1
    have hrow : W2.heap[vb]? = some (.cells #[.int .u32 (u o0), .int .u32 (u o1), .int .u32 (u o2), .int .u32 (u o3), .int .u32 (u o4), .int .u32 (u o5), .int .u32 (u o6), .int .u32 (u o7)] 118 (0, 0)) := hv2
    obtain ⟨hcv, hfv⟩ := row_facts hrow
    clear hv2 hrow
    go_wp2
    go_loopw [17] (fun i wr => ∃ t : Nat, i = .int .i64 t ∧ t ≤ 64 ∧ wr.heap[W2.heap.size]? = some (.cells (wV (compN [o0, o1, o2, o3, o4, o5, o6, o7] ws t)).toArray 118 (0, 0)) ∧ wr.heap[w1.heap.size]? = some (.cells p 89 (0, 0)) ∧ wr.heap[vb]? = some (.cells (wV [o0, o1, o2, o3, o4, o5, o6, o7]).toArray 118 (0, 0)) ∧ Below w.heap.size w wr) (fun i _ => 64 - (intOf i).toNat)
    case atStart => exact ⟨0, rfl, by omega, heap_new W2 _, heap_at Hw2.out _, heap_at Hv2.out _, HB2.out.alloc HB2.out.size _⟩
    case round =>
      obtain ⟨t, rfl, ht, hx, hw, hvv, hb3⟩ := hrel
      clear hcv hfv
      obtain ⟨x0, x1, x2, x3, x4, x5, x6, x7, hxx⟩ := list8 (compN_length hx8 ws t)
      rw [hxx] at hx
      have hxr : wr.heap[W2.heap.size]? = some (.cells #[.int .u32 (u x0), .int .u32 (u x1), .int .u32 (u x2), .int .u32 (u x3), .int .u32 (u x4), .int .u32 (u x5), .int .u32 (u x6), .int .u32 (u x7)] 118 (0, 0)) := hx
      have HXX := Lib.hid hxx
      have Hx := Lib.hid hx
      have Hw := Lib.hid hw
      have Hvv := Lib.hid hvv
      have HB3 := Lib.hid hb3
      have hxl := lt_row hx
      have hHK := Hk.out.below hb3
      obtain ⟨hcx, hfx⟩ := row_facts hxr
      by_cases hlt : t < 64
      · obtain ⟨wt, hwt⟩ : ∃ wt, wt = ws.getD t 0 := ⟨_, rfl⟩
        obtain ⟨kt, hkt⟩ : ∃ kt, kt = kL.getD t 0 := ⟨_, rfl⟩
        have hcw : wr.cell? ⟨w1.heap.size, t, none⟩ = some (.int .u32 (u wt)) := by rw [cell_row hw, Hp.out, wV_get (by omega), hwt]
        have hck : wr.cell? ⟨3, t, none⟩ = some (.int .u32 (u kt)) := by rw [hHK.k t hlt, hkt]
        have Hwt := Lib.hid hwt
        have Hkt := Lib.hid hkt
        have HK3 := Lib.hid hHK
        clear hxx hx hw hvv hb3 hxr hwt hkt hHK
        have g2 : 0 ≤ (t : Int) ∧ (t : Int) < 64 := by omega
        have n2 : (t : Int).toNat = t := by omega
        go_wp2
        go_quiet ((go_at_call 115; exact Calls.quiet_of_same (turns _ _ _ (by omega))))
        obtain ⟨wa, hwa⟩ : ∃ wa, wa = wr.drewN nq := ⟨_, rfl⟩
        rw [← hwa]
        have HXa : Hid (wa.heap[W2.heap.size]? = some (.cells #[.int .u32 (u x0), .int .u32 (u x1), .int .u32 (u x2), .int .u32 (u x3), .int .u32 (u x4), .int .u32 (u x5), .int .u32 (u x6), .int .u32 (u x7)] 118 (0, 0))) := by rw [hwa]; exact Hx
        have Hwa : Hid (wa.heap[w1.heap.size]? = some (.cells p 89 (0, 0))) := by rw [hwa]; exact Hw
        have Hva : Hid (wa.heap[vb]? = some (.cells (wV [o0, o1, o2, o3, o4, o5, o6, o7]).toArray 118 (0, 0))) := by rw [hwa]; exact Hvv
        have HBa : Hid (Below w.heap.size w wa) := by rw [hwa]; exact Lib.hid (Bl.drewN HB3.out _)
        have hxla := lt_row HXa.out
        clear hwa hcx hfx hcw hck Hx Hw Hvv HB3 HK3
        obtain ⟨hcx, hfx⟩ := row_facts HXa.out
        go_wp2
        go_quiet ((go_at_call 115; exact Calls.quiet_of_same (turns _ _ _ (by omega))))
        obtain ⟨wb, hwb⟩ : ∃ wb, wb = wa.drewN nq := ⟨_, rfl⟩
        rw [← hwb]
        have HXb : Hid (wb.heap[W2.heap.size]? = some (.cells #[.int .u32 (u x0), .int .u32 (u x1), .int .u32 (u x2), .int .u32 (u x3), .int .u32 (u x4), .int .u32 (u x5), .int .u32 (u x6), .int .u32 (u x7)] 118 (0, 0))) := by rw [hwb]; exact HXa
        have Hwb : Hid (wb.heap[w1.heap.size]? = some (.cells p 89 (0, 0))) := by rw [hwb]; exact Hwa
        have Hvb' : Hid (wb.heap[vb]? = some (.cells (wV [o0, o1, o2, o3, o4, o5, o6, o7]).toArray 118 (0, 0))) := by rw [hwb]; exact Hva
        have HBb : Hid (Below w.heap.size w wb) := by rw [hwb]; exact Lib.hid (Bl.drewN HBa.out _)
        have hxlb := lt_row HXb.out
        clear hwb hcx hfx HXa Hwa Hva HBa
        obtain ⟨hcx, hfx⟩ := row_facts HXb.out
        go_wp2
        go_still_tail 2, (by kernel_rfl)
        refine wpList_copy_splice rfl _ _ _ _ rfl 86 Tryd.underlying140 (by kernel_rfl) (some ⟨W2.heap.size, 1, none⟩) (some ⟨W2.heap.size, 0, none⟩) 7 7 7 8 rfl rfl W2.heap.size 1 [.int .u32 (u x0), .int .u32 (u x1), .int .u32 (u x2), .int .u32 (u x3), .int .u32 (u x4), .int .u32 (u x5), .int .u32 (u x6), .int .u32 (u x7)] _ HXb.out [.int .u32 (u x0), .int .u32 (u x1), .int .u32 (u x2), .int .u32 (u x3), .int .u32 (u x4), .int .u32 (u x5), .int .u32 (u x6)] rfl ?hpos (by simp) (by simp [Value.oneCell']) W2.heap.size wb ((Below.refl _ wb).drew) (Nat.le_refl _) ?go
        case hpos =>
          refine fun _ => ⟨rfl, _, rfl, fun j v hj => ?_⟩
          rw [Addr.add_mid, Nat.zero_add]
          have hj7 : j < 7 := by simpa using (List.getElem?_eq_some_iff.1 hj).1
          obtain rfl | rfl | rfl | rfl | rfl | rfl | rfl : j = 0 ∨ j = 1 ∨ j = 2 ∨ j = 3 ∨ j = 4 ∨ j = 5 ∨ j = 6 := by omega
          all_goals (simp at hj; subst hj; exact cell_row HXb.out)
        case go =>
          intro wc hsp hbel
          have HXc : Hid (wc.heap[W2.heap.size]? = some (.cells #[.int .u32 (u x0), .int .u32 (u x0), .int .u32 (u x1), .int .u32 (u x2), .int .u32 (u x3), .int .u32 (u x4), .int .u32 (u x5), .int .u32 (u x6)] 118 (0, 0))) := hsp
          have Hwc := Lib.hid ((hbel.block _ hwl2).trans Hwb.out)
          have Hvc := Lib.hid ((hbel.block _ hvl2).trans Hvb'.out)
          have HBc : Hid (Below w.heap.size w wc) := Lib.hid (HBb.out.trans (hbel.mono (by omega)))
          have hxlc := lt_row HXc.out
          clear hsp hbel hcx hfx HXb Hwb Hvb' HBb
          obtain ⟨hcx, hfx⟩ := row_facts HXc.out
          have hstep : compN [o0, o1, o2, o3, o4, o5, o6, o7] ws (t + 1) = [x7 + (rotr x4 6 ^^^ rotr x4 11 ^^^ rotr x4 25) + (x4 &&& x5 ^^^ ~~~x4 &&& x6) + kt + wt + ((rotr x0 2 ^^^ rotr x0 13 ^^^ rotr x0 22) + (x0 &&& x1 ^^^ x0 &&& x2 ^^^ x1 &&& x2)), x0, x1, x2, x3 + (x7 + (rotr x4 6 ^^^ rotr x4 11 ^^^ rotr x4 25) + (x4 &&& x5 ^^^ ~~~x4 &&& x6) + kt + wt), x4, x5, x6] := by
            rw [compN, HXX.out, Hwt.out, Hkt.out]
            rfl
          have Hstep := Lib.hid hstep
          clear hstep
          go_wp2
          go_roundw
          case rel =>
            refine ⟨t + 1, by go_num, by omega, ?_, ?_, ?_, ?_⟩
            · rw [Hstep.out]
              exact heap_setCell_same (heap_setCell_same HXc.out _) _
            · exact (heap_setCell_far _ (by omega)).trans ((heap_setCell_far _ (by omega)).trans Hwc.out)
            · exact (heap_setCell_far _ (by omega)).trans ((heap_setCell_far _ (by omega)).trans Hvc.out)
            · exact ((HBc.out.setCell (p := ⟨W2.heap.size, 0, none⟩) (by simp; omega) _).setCell (p := ⟨W2.heap.size, 4, none⟩) (by simp; omega) _)
          case measure => simp [intOf]; omega
      · obtain rfl : t = 64 := by omega
        clear hlt hcx hfx hx hw hvv hb3 hHK
        have hy8 := compN_length hx8 ws 64
        obtain ⟨yy, hyy⟩ : ∃ yy, yy = compN [o0, o1, o2, o3, o4, o5, o6, o7] ws 64 := ⟨_, rfl⟩
        obtain ⟨xx, hx8', hxe⟩ : ∃ xx : List UInt32, xx.length = 8 ∧ xx = [o0, o1, o2, o3, o4, o5, o6, o7] := ⟨_, hx8, rfl⟩
        rw [← hxx, ← hyy] at Hx
        rw [← hyy] at hy8 Hadd
        rw [← hxe] at Hvv Hadd ⊢
        have hvr := Hvv.out
        have hyr := Hx.out
        have hvl3 := lt_row hvr
        have Hxe := Lib.hid hxe
        clear hxx hyy hxe HXX Hvb Hv2 hx8 HWd
        go_wp2
        obtain ⟨wo, rfl⟩ : ∃ wo : World, wo = wr := ⟨_, rfl⟩
        rw [show ((64 : Nat) : Int) = 64 from rfl]
        go_loopw [91] (fun i wq => ∃ s : Nat, i = .int .i64 s ∧ s ≤ 8 ∧ wq.heap[vb]? = some (.cells (wV (mixL xx yy s)).toArray 118 (0, 0)) ∧ wq.heap[W2.heap.size]? = some (.cells (wV yy).toArray 118 (0, 0)) ∧ Ext (fun k => k = vb) w wq) (fun i _ => 8 - (intOf i).toNat)
        case atStart => exact ⟨0, rfl, by omega, by rw [mix_zero]; exact hvr, hyr, ⟨HB3.out.os, HB3.out.tape, HB3.out.output, HB3.out.size, fun k hk _ => HB3.out.block k hk⟩⟩
        case round =>
          obtain ⟨s, rfl, hs, hv4, hy4, hE4⟩ := hrel
          clear hvr hyr
          have HV4 := Lib.hid hv4
          have HY4 := Lib.hid hy4
          have HE4 := Lib.hid hE4
          have hvl4 := lt_row hv4
          have hyl4 := lt_row hy4
          by_cases hls : s < 8
          · obtain ⟨a, ha⟩ : ∃ a, a = xx.getD s 0 := ⟨_, rfl⟩
            obtain ⟨c, hc⟩ : ∃ c, c = yy.getD s 0 := ⟨_, rfl⟩
            have c0 : wr.cell? ⟨vb, s, none⟩ = some (.int .u32 (u a)) := by rw [cell_row hv4, mix_get hx8' hy8 hls, ha]
            have c1 : wr.cell? ⟨W2.heap.size, s, none⟩ = some (.int .u32 (u c)) := by rw [cell_row hy4, wV_get (by omega), hc]
            have cf : wr.frozen? ⟨vb, s, none⟩ = false := frozen_row hv4
            have Ha := Lib.hid ha
            have Hc := Lib.hid hc
            clear hv4 hy4 hE4 ha hc
            have g2 : 0 ≤ (s : Int) ∧ (s : Int) < 8 := by omega
            have n2 : (s : Int).toNat = s := by omega
            go_wp2
            go_still_tail 11, (by kernel_rfl)
            clear g2 n2
            go_wp2
            go_roundw
            case rel =>
              refine ⟨s + 1, by go_num, by omega, ?_, ?_, ?_⟩
              · rw [← mix_set hx8' hy8 hls, ← Ha.out, ← Hc.out]
                exact heap_setCell_same HV4.out _
              · exact (heap_setCell_far _ (by omega)).trans HY4.out
              · exact (HE4.out.setCell (p := ⟨vb, s, none⟩) (.inl rfl) _).drew
            case measure => simp [intOf]; omega
          · obtain rfl : s = 8 := by omega
            go_wp2
            go_end0
            exact ⟨rfl, by rw [← Hxe.out, Hadd.out]; exact HV4.out, HE4.out⟩

end Go.Proofs.YtfodloepkgkilaaDoor.ShaA
