/-
  WHAT IS PROVED: what the law NetSomewhere does: it returns true, and turns nothing that was there. No condition.
-/
import Derived.Test.YtoeohgplobbojaaNetD
namespace Go.Proofs.Ytoeohgplobbojaa.NetE
open Go Go.RowKit Go.ChangeShapes Go.WideShapes Go.ChangeAt Go.Proofs.Ytoeohgplobbojaa Go.Proofs.Ytoeohgplobbojaa.NetA Go.Proofs.Ytoeohgplobbojaa.NetD

theorem put_sum (room : Int) (l : List ByteArray) (s : ByteArray) (lost : Int) : ((putL room l s).length : Int) + putN room l lost = l.length + lost + 1 := by
  unfold putL putN
  split
  · omega
  · simp; omega
theorem take_sum {l : List ByteArray} {i : Int} (h : isIn l i = true) : ((takeL l i).length : Int) + 1 = l.length := by
  obtain ⟨k, rfl, hk⟩ := isIn_yes h
  simp only [takeL, h, if_true, Int.toNat_natCast, List.length_eraseIdx, if_pos hk]; omega
theorem drop_sum (l : List ByteArray) (i lost : Int) : ((takeL l i).length : Int) + dropN l i lost = l.length + lost := by
  cases h : isIn l i
  · simp [takeL, dropN, h]
  · have := take_sum h; simp only [dropN, h, if_true]; omega
theorem dup_sum {room : Int} {l : List ByteArray} {i lost : Int} (h : isIn l i = true) : ((dupL room l i).length : Int) + dupN room l i lost = l.length + lost + 1 := by
  simp only [dupL, dupN, h, if_true]; exact put_sum _ _ _ _
theorem putE_ne (room : Int) (l : List ByteArray) : (putE room l != 3) = true := by unfold putE; split <;> rfl

structure Inv (W w : World) (b base : Nat) (room : Int) (v : Value) (l : List ByteArray) (lost all taken : Int) (k : Nat) : Prop where
  net : NetR w b base v l room lost
  bel : Below W.heap.size W w
  base1 : W.heap.size ≤ base
  b1 : base ≤ b
  basew : base ≤ w.heap.size
  sum : all = l.length + taken + lost
  t0 : 0 ≤ taken ∧ taken ≤ k
  l0 : lost ≤ k

theorem Inv.next {W w w4 w6 : World} {b base : Nat} {room : Int} {v v' : Value} {l l' : List ByteArray} {lost lost' all all' taken taken' : Int} {k : Nat} (h : Inv W w b base room v l lost all taken k)
    (h4 : Below w.heap.size w w4) (hE : Ext (Foot b v) w4 w6) (hN : NetR w6 b base v' l' room lost') (hs : all' = l'.length + taken' + lost') (ht : 0 ≤ taken' ∧ taken' ≤ k + 1) (hl : lost' ≤ k + 1) : Inv W w6 b base room v' l' lost' all' taken' (k + 1) :=
  ⟨hN, Bl.ext (Bl.call h.bel h4) hE (fun j hj => notFoot h.net h.b1 j (Nat.lt_of_lt_of_le hj h.base1)), h.base1, h.b1, Nat.le_trans (Nat.le_trans h.basew h4.size) hE.size, hs, by omega, by omega⟩

set_option maxRecDepth 100000 in
set_option maxHeartbeats 4000000 in
theorem somewhere (W : World) (room : Int) (v : Value) (acts : List (Int × Int × ByteArray)) (hacts : Sl W v 3 acts.length (acts.flatMap actV)) :
    Calls Try.prog 4 #[.int .i64 room, v] W fun e W' => e = .returned (.bool true) ∧ Below W.heap.size W W' := by
  obtain ⟨a, cap, rfl, hcap, hm⟩ := hacts.form
  have hlen : acts.length ≤ 9223372036854775807 := by unfold maxLen at hm; omega
  have hact := act_cells hacts
  have HACT := Lib.hid hact
  clear hacts hact
  by_cases hr : 1 ≤ room ∧ room ≤ 1024
  · obtain ⟨hr1, hr2⟩ := hr
    go_enter Try.func4, Try.ntmps4
    go_wp2_with fail
    refine (lives_ok W).mono ?_
    rintro e w1 ⟨rfl, hb1⟩
    go_wp2_with fail
    refine (New_ok w1 room hr1 hr2 w1.heap.size (Nat.le_refl _)).mono ?_
    rintro e w3 ⟨b, rfl, hb, hN, hb3⟩
    have hB := Bl.call hb1 hb3
    have hB1 := hb1.size
    have hB3 := hb3.size
    clear hb1 hb3
    by_cases hl : 100 < (acts.length : Int)
    · go_wp2
      go_ret
      exact ⟨rfl, hB⟩
    · have HI : Hid (Inv W w3 b w1.heap.size room (.slice none 0 0) [] 0 0 0 0) := ⟨hN, hB, hB1, hb, hB3, by simp, by omega, by omega⟩
      clear hB hN
      go_wp2_with fail
      go_loopw [7, 8, 40] (fun y z x wr => ∃ k : Nat, k ≤ acts.length ∧ x = .int .i64 k ∧ ∃ v l lost all taken, y = .int .i64 all ∧ z = .int .i64 taken ∧ Inv W wr b w1.heap.size room v l lost all taken k) (fun _ _ x _ => acts.length - (intOf x).toNat)
      case atStart => exact ⟨0, Nat.zero_le _, rfl, _, _, _, _, _, rfl, rfl, HI.out⟩
      case round =>
        obtain ⟨k, hk, rfl, v, l, lost, all, taken, rfl, rfl, h2⟩ := hrel
        by_cases hlt : k < acts.length
        · obtain ⟨⟨kind, num, text⟩, hx⟩ : ∃ x, acts[k]? = some x := ⟨_, List.getElem?_eq_getElem hlt⟩
          obtain ⟨ab, ao, rfl, habw, g0, g1, g2⟩ := HACT.out k _ hx
          have q0 := h2.bel.cell (p := ⟨ab, ao + k * 3, none⟩) habw
          have q1 := h2.bel.cell (p := ⟨ab, ao + k * 3 + 1, none⟩) habw
          have q2 := h2.bel.cell (p := ⟨ab, ao + k * 3 + 2, none⟩) habw
          rw [g0] at q0
          rw [g1] at q1
          rw [g2] at q2
          have i0 : (0 : Int) ≤ (k : Int) := by omega
          have i1 : (k : Int) < (acts.length : Int) := by omega
          have t0 := h2.t0.1
          have t1 := h2.t0.2
          have l0 := h2.net.lost0.1
          have l1 := h2.l0
          have len0 := h2.net.len
          have a0 : 0 ≤ all := by have := h2.sum; omega
          have a1 : all ≤ 3000 := by have := h2.sum; omega
          have H2 := Lib.hid h2
          clear h2 g0 g1 g2 hx
          go_wp2_with fail
          refine (NetC.All_ok b w1.heap.size (wr.alloc _) v l room lost (H2.out.net.ext (S := fun _ => False) ((Ext.refl _ _).alloc _) (fun h => h) (fun _ _ h => h))).mono ?_
          rintro e w4 ⟨v8, rfl, ho8, hb4⟩
          obtain ⟨a8, c8, rfl, hc8, hm8⟩ := ownsRow_slice ho8
          have h4 : Below wr.heap.size wr w4 := Bl.call (Bl.new (Below.refl _ _) _) hb4
          obtain ⟨_, y0, y1⟩ := live (.of_below (S := fun _ => False) hb4) (heap_new wr _) (fun h => h)
          have z4 := hb4.size
          simp only [World.size_alloc] at z4
          have H4 := Lib.hid h4
          have HO := Lib.hid ho8
          have HN4 := Lib.hid (H2.out.net.ext (S := fun _ => False) (.of_below h4) (fun h => h) (fun _ _ h => h))
          have hbs : w1.heap.size ≤ w4.heap.size := by have := H2.out.basew; have := h4.size; omega
          clear h4 hb4 ho8
          by_cases k0 : kind = 0
          · subst k0
            go_wp2_with fail
            refine (Put_any text HN4.out hbs (by omega)).mono ?_
            rintro e w6 ⟨rfl, v6, hN6, hE6, hF6⟩
            have HN6 := Lib.hid hN6
            have HE6 := Lib.hid hE6
            clear hN6 hE6 hF6 y0 y1
            have hI : Inv W w6 b w1.heap.size room v6 (putL room l text) (putN room l lost) (all + 1) (taken) (k + 1) := H2.out.next H4.out HE6.out HN6.out (by have := put_sum room l text lost; have := H2.out.sum; omega) (by omega) (by have := H2.out.l0; unfold putN; split <;> omega)
            have hneq : ((((putL room l text).length : Int) + (taken) + (putN room l lost)) != (all + 1)) = false := by rw [hI.sum]; simp
            have hle : ¬ room < (((putL room l text).length : Int)) := by have := hI.net.len; omega
            have m0 := hI.net.lost0.1
            have m1 := hI.l0
            have m2 := hI.net.len
            have HI2 := Lib.hid hI
            clear hI
            generalize (putL room l text) = l7 at *
            generalize (putN room l lost) = lost7 at *
            go_wp2_with (first
              | (go_at_call 18; refine (Len_ok b w1.heap.size w6 v6 l7 room lost7 HI2.out.net).mono ?_; rintro e w' ⟨rfl, rfl⟩)
              | (go_at_call 19; refine (Lost_ok b w1.heap.size w6 v6 l7 room lost7 HI2.out.net).mono ?_; rintro e w' ⟨rfl, rfl⟩))
            go_roundw
            case rel => exact ⟨k + 1, by omega, by go_num, _, _, _, _, _, rfl, rfl, HI2.out⟩
            case measure => simp [intOf]; omega
          · skip
            by_cases k1 : kind = 1
            · subst k1
              cases hin : isIn l num
              · go_wp2_with fail
                refine (Take_out b w1.heap.size w4 v l room lost num HN4.out (isIn_no hin)).mono ?_
                rintro e w6 ⟨rfl, rfl⟩
                have HN6 := HN4
                have HE6 : Hid (Ext (Foot b v) w4 w4) := Ext.refl _ _
                have hI : Inv W w4 b w1.heap.size room v (l) (lost) (all) (taken) (k + 1) := H2.out.next H4.out HE6.out HN6.out (by have := H2.out.sum; omega) (by omega) (by have := H2.out.l0; omega)
                have hneq : ((((l).length : Int) + (taken) + (lost)) != (all)) = false := by rw [hI.sum]; simp
                have hle : ¬ room < (((l).length : Int)) := by have := hI.net.len; omega
                have m0 := hI.net.lost0.1
                have m1 := hI.l0
                have m2 := hI.net.len
                have HI2 := Lib.hid hI
                clear hI
                have hl7 : True := trivial
                clear hl7
                go_wp2_with (first
                  | (go_at_call 18; refine (Len_ok b w1.heap.size w4 v l room lost HI2.out.net).mono ?_; rintro e w' ⟨rfl, rfl⟩)
                  | (go_at_call 19; refine (Lost_ok b w1.heap.size w4 v l room lost HI2.out.net).mono ?_; rintro e w' ⟨rfl, rfl⟩))
                go_roundw
                case rel => exact ⟨k + 1, by omega, by go_num, _, _, _, _, _, rfl, rfl, HI2.out⟩
                case measure => simp [intOf]; omega
              · obtain ⟨i, rfl, hi⟩ := isIn_yes hin
                have j0 : (0 : Int) ≤ (i : Int) := by omega
                have j1 : (i : Int) < (l.length : Int) := by omega
                obtain ⟨b8, o8, rfl, hlt8, hcell8⟩ := (Sl.ofOwn HO.out).plain (by rw [strV_length]; omega)
                have hc8' := hcell8 i _ (NetB.strV_get l i hi)
                have hge8 : wr.heap.size < b8 := by have := (HO.out.lt b8 rfl).1; simp at this; omega
                clear hcell8
                go_wp2_with fail
                refine (Take_in b w1.heap.size w4 v l room lost i HN4.out hi).mono ?_
                rintro e w6 ⟨rfl, v6, hN6, hE6, hF6⟩
                have hnf : ∀ j, wr.heap.size ≤ j → ¬ Foot b v j := fun j hj hf => by
                  rcases hf with hf | hf
                  · have := lt_row H2.out.net.blk; omega
                  · have := (H2.out.net.own.lt j hf).2; omega
                have hc6 := hE6.cellOf hc8' (hnf b8 (by omega))
                have x1 : w6.cell? ⟨wr.heap.size, 1, none⟩ = some (.int .i64 i) := hE6.cellOf (y0 1) (hnf _ (Nat.le_refl _))
                have hsum := take_sum hin
                have hlen7 : (takeL l (i : Int)) = l.eraseIdx i := by simp [takeL, hin]
                rw [hlen7] at hsum
                have HS := Lib.hid hsum
                clear hsum hlen7 hnf
                have HN6 := Lib.hid hN6
                have HE6 := Lib.hid hE6
                clear hN6 hE6 hF6 y0 y1
                have hI : Inv W w6 b w1.heap.size room v6 (l.eraseIdx i) (lost) (all) (taken + 1) (k + 1) := H2.out.next H4.out HE6.out HN6.out (by have := HS.out; have := H2.out.sum; omega) (by omega) (by have := H2.out.l0; omega)
                have hneq : ((((l.eraseIdx i).length : Int) + (taken + 1) + (lost)) != (all)) = false := by rw [hI.sum]; simp
                have hle : ¬ room < (((l.eraseIdx i).length : Int)) := by have := hI.net.len; omega
                have m0 := hI.net.lost0.1
                have m1 := hI.l0
                have m2 := hI.net.len
                have HI2 := Lib.hid hI
                clear hI
                generalize (l.eraseIdx i) = l7 at *
                generalize (lost) = lost7 at *
                go_wp2_with (first
                  | (go_at_call 18; refine (Len_ok b w1.heap.size w6 v6 l7 room lost7 HI2.out.net).mono ?_; rintro e w' ⟨rfl, rfl⟩)
                  | (go_at_call 19; refine (Lost_ok b w1.heap.size w6 v6 l7 room lost7 HI2.out.net).mono ?_; rintro e w' ⟨rfl, rfl⟩))
                go_roundw
                case rel => exact ⟨k + 1, by omega, by go_num, _, _, _, _, _, rfl, rfl, HI2.out⟩
                case measure => simp [intOf]; omega
            · skip
              by_cases k2 : kind = 2
              · subst k2
                go_wp2_with fail
                refine (Drop_any num HN4.out (by omega)).mono ?_
                rintro e w6 ⟨rfl, v6, hN6, hE6, hF6⟩
                have HN6 := Lib.hid hN6
                have HE6 := Lib.hid hE6
                clear hN6 hE6 hF6 y0 y1
                have hI : Inv W w6 b w1.heap.size room v6 (takeL l num) (dropN l num lost) (all) (taken) (k + 1) := H2.out.next H4.out HE6.out HN6.out (by have := drop_sum l num lost; have := H2.out.sum; omega) (by omega) (by have := H2.out.l0; unfold dropN; split <;> omega)
                have hneq : ((((takeL l num).length : Int) + (taken) + (dropN l num lost)) != (all)) = false := by rw [hI.sum]; simp
                have hle : ¬ room < (((takeL l num).length : Int)) := by have := hI.net.len; omega
                have m0 := hI.net.lost0.1
                have m1 := hI.l0
                have m2 := hI.net.len
                have HI2 := Lib.hid hI
                clear hI
                generalize (takeL l num) = l7 at *
                generalize (dropN l num lost) = lost7 at *
                go_wp2_with (first
                  | (go_at_call 18; refine (Len_ok b w1.heap.size w6 v6 l7 room lost7 HI2.out.net).mono ?_; rintro e w' ⟨rfl, rfl⟩)
                  | (go_at_call 19; refine (Lost_ok b w1.heap.size w6 v6 l7 room lost7 HI2.out.net).mono ?_; rintro e w' ⟨rfl, rfl⟩))
                go_roundw
                case rel => exact ⟨k + 1, by omega, by go_num, _, _, _, _, _, rfl, rfl, HI2.out⟩
                case measure => simp [intOf]; omega
              · skip
                by_cases k3 : kind = 3
                · subst k3
                  cases hin : isIn l num
                  · go_wp2_with fail
                    refine (Double_out b w1.heap.size w4 v l room lost num HN4.out (isIn_no hin)).mono ?_
                    rintro e w6 ⟨rfl, rfl⟩
                    have HN6 := HN4
                    have HE6 : Hid (Ext (Foot b v) w4 w4) := Ext.refl _ _
                    have hI : Inv W w4 b w1.heap.size room v (l) (lost) (all) (taken) (k + 1) := H2.out.next H4.out HE6.out HN6.out (by have := H2.out.sum; omega) (by omega) (by have := H2.out.l0; omega)
                    have hneq : ((((l).length : Int) + (taken) + (lost)) != (all)) = false := by rw [hI.sum]; simp
                    have hle : ¬ room < (((l).length : Int)) := by have := hI.net.len; omega
                    have m0 := hI.net.lost0.1
                    have m1 := hI.l0
                    have m2 := hI.net.len
                    have HI2 := Lib.hid hI
                    clear hI
                    have hl7 : True := trivial
                    clear hl7
                    go_wp2_with (first
                      | (go_at_call 18; refine (Len_ok b w1.heap.size w4 v l room lost HI2.out.net).mono ?_; rintro e w' ⟨rfl, rfl⟩)
                      | (go_at_call 19; refine (Lost_ok b w1.heap.size w4 v l room lost HI2.out.net).mono ?_; rintro e w' ⟨rfl, rfl⟩))
                    go_roundw
                    case rel => exact ⟨k + 1, by omega, by go_num, _, _, _, _, _, rfl, rfl, HI2.out⟩
                    case measure => simp [intOf]; omega
                  · have hE : dupE room l num = putE room l := by simp [dupE, hin]
                    have hEn := putE_ne room l
                    have HDU := Lib.hid (dup_sum (room := room) (lost := lost) hin)
                    go_wp2_with fail
                    refine (Double_any num HN4.out hbs (by omega)).mono ?_
                    rintro e w6 ⟨rfl, v6, hN6, hE6, hF6⟩
                    rw [hE]
                    clear hE
                    have HN6 := Lib.hid hN6
                    have HE6 := Lib.hid hE6
                    clear hN6 hE6 hF6 y0 y1
                    have hI : Inv W w6 b w1.heap.size room v6 (dupL room l num) (dupN room l num lost) (all + 1) (taken) (k + 1) := H2.out.next H4.out HE6.out HN6.out (by have := HDU.out; have := H2.out.sum; omega) (by omega) (by have := H2.out.l0; unfold dupN putN; split <;> (try split) <;> omega)
                    have hneq : ((((dupL room l num).length : Int) + (taken) + (dupN room l num lost)) != (all + 1)) = false := by rw [hI.sum]; simp
                    have hle : ¬ room < (((dupL room l num).length : Int)) := by have := hI.net.len; omega
                    have m0 := hI.net.lost0.1
                    have m1 := hI.l0
                    have m2 := hI.net.len
                    have HI2 := Lib.hid hI
                    clear hI
                    generalize (dupL room l num) = l7 at *
                    generalize (dupN room l num lost) = lost7 at *
                    go_wp2_with (first
                      | (go_at_call 18; refine (Len_ok b w1.heap.size w6 v6 l7 room lost7 HI2.out.net).mono ?_; rintro e w' ⟨rfl, rfl⟩)
                      | (go_at_call 19; refine (Lost_ok b w1.heap.size w6 v6 l7 room lost7 HI2.out.net).mono ?_; rintro e w' ⟨rfl, rfl⟩))
                    go_roundw
                    case rel => exact ⟨k + 1, by omega, by go_num, _, _, _, _, _, rfl, rfl, HI2.out⟩
                    case measure => simp [intOf]; omega
                · skip
                  have HN6 := HN4
                  have HE6 : Hid (Ext (Foot b v) w4 w4) := Ext.refl _ _
                  have hI : Inv W w4 b w1.heap.size room v (l) (lost) (all) (taken) (k + 1) := H2.out.next H4.out HE6.out HN6.out (by have := H2.out.sum; omega) (by omega) (by have := H2.out.l0; omega)
                  have hneq : ((((l).length : Int) + (taken) + (lost)) != (all)) = false := by rw [hI.sum]; simp
                  have hle : ¬ room < (((l).length : Int)) := by have := hI.net.len; omega
                  have m0 := hI.net.lost0.1
                  have m1 := hI.l0
                  have m2 := hI.net.len
                  have HI2 := Lib.hid hI
                  clear hI
                  have hl7 : True := trivial
                  clear hl7
                  go_wp2_with (first
                    | (go_at_call 18; refine (Len_ok b w1.heap.size w4 v l room lost HI2.out.net).mono ?_; rintro e w' ⟨rfl, rfl⟩)
                    | (go_at_call 19; refine (Lost_ok b w1.heap.size w4 v l room lost HI2.out.net).mono ?_; rintro e w' ⟨rfl, rfl⟩))
                  go_roundw
                  case rel => exact ⟨k + 1, by omega, by go_num, _, _, _, _, _, rfl, rfl, HI2.out⟩
                  case measure => simp [intOf]; omega
        · have hge : ¬ (k : Int) < (acts.length : Int) := by omega
          have HB2 := Lib.hid h2.bel
          clear h2
          go_wp2
          go_ret
          exact ⟨rfl, HB2.out⟩
  · have hr' : room < 1 ∨ 1024 < room := by omega
    go_enter Try.func4, Try.ntmps4
    go_wp2_with fail
    refine (lives_ok W).mono ?_
    rintro e w1 ⟨rfl, hb1⟩
    go_wp2_with fail
    refine (New_no w1 room hr').mono ?_
    rintro e w2 ⟨rfl, rfl⟩
    clear hr' hr
    go_wp2
    go_ret
    exact ⟨rfl, hb1⟩

end Go.Proofs.Ytoeohgplobbojaa.NetE
