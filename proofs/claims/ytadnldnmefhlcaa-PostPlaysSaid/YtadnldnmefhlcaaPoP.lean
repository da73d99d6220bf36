/-
  WHAT IS PROVED: what the law PostPlays answers, whatever the calls. No condition.
-/
import Derived.Test.YtadnldnmefhlcaaPoM
namespace Go.Proofs.Ytadnldnmefhlcaa.PoP
open Go Go.RowKit Go.Shelf Go.Conc Go.Proofs.Ytadnldnmefhlcaa Go.Proofs.Ytadnldnmefhlcaa.PostA Go.Proofs.Ytadnldnmefhlcaa.PostF Go.Proofs.Ytadnldnmefhlcaa.PostN Go.Proofs.Ytadnldnmefhlcaa.PostNe Go.Proofs.Ytadnldnmefhlcaa.PostP Go.Proofs.Ytadnldnmefhlcaa.PostQ Go.Proofs.Ytadnldnmefhlcaa.PostR Go.Proofs.Ytadnldnmefhlcaa.RowsX Go.Proofs.Ytadnldnmefhlcaa.Lift Go.Proofs.Ytadnldnmefhlcaa.Steps Go.Proofs.Ytadnldnmefhlcaa.PoA Go.Proofs.Ytadnldnmefhlcaa.PoM
set_option linter.unusedVariables false
set_option linter.unusedSimpArgs false

set_option maxRecDepth 100000 in
set_option maxHeartbeats 8000000 in
theorem plays (W : World) (room gap : Int) (v : Value) (acts : List (Int × Int × ByteArray × Int)) (hacts : Sl W v 4 acts.length (acts.flatMap actV)) :
    Calls Try.prog 3 #[.int .i64 room, .int .i64 gap, v] W fun e W' => e = .returned (.bool true) ∧ Below W.heap.size W W' := by
  obtain ⟨a, cap, rfl, hcap, hm⟩ := hacts.form
  have hlen : acts.length ≤ 9223372036854775807 := by unfold maxLen at hm; omega
  have hact := act_cells hacts
  have HACT := Lib.hid hact
  clear hacts hact
  cases hN : newB room gap
  · have hR := fun w => refNew_ok w room gap
    rw [hN] at hR
    have HR := Lib.hid hR
    have HN := Lib.hid (fun w => New_no w room gap hN)
    clear hR hN
    unfold PV at HR
    go_enter Try.func3, Try.ntmps3
    go_wp2_with fail
    refine (PoL.lives_ok W).mono ?_
    rintro e w1 ⟨rfl, hb1⟩
    go_wp2_with fail
    refine (HN.out w1).mono ?_
    rintro e w1' ⟨rfl, rfl⟩
    go_wp2_with fail
    refine (HR.out w1).mono ?_
    rintro e w2 ⟨rfl, hb2⟩
    go_wp2
    go_ret
    exact ⟨rfl, Bl.new (Bl.call hb1 hb2) _⟩
  · have hn := hN
    unfold newB at hn
    simp only [Bool.and_eq_true, decide_eq_true_eq] at hn
    obtain ⟨n1, n2, n3, n4⟩ := hn
    obtain ⟨r, rfl⟩ : ∃ r : Nat, room = r := ⟨room.toNat, by omega⟩
    have hr1 : 1 ≤ r := by omega
    have hr2 : r ≤ 256 := by omega
    have hR := fun w => refNew_ok w r gap
    rw [hN] at hR
    unfold PV at hR
    have HR := Lib.hid hR
    have HN := Lib.hid (fun w => New_yes w r gap hr1 hr2 n3 n4)
    clear hR hN n1 n2
    go_enter Try.func3, Try.ntmps3
    go_wp2_with fail
    refine (PoL.lives_ok W).mono ?_
    rintro e w1 ⟨rfl, hb1⟩
    go_wp2_with fail
    refine (HN.out w1).mono ?_
    rintro e w2 ⟨rfl, hP, hb2⟩
    go_wp2_with fail
    refine (HR.out w2).mono ?_
    rintro e w3 ⟨rfl, hb3⟩
    have z1 := hb1.size
    have lp2 := lt_row hP.blk
    have z3 := hb3.size
    have hB := Bl.call (Bl.call hb1 hb2) hb3
    by_cases hl : 100 < (acts.length : Int)
    · go_wp2
      go_ret
      exact ⟨rfl, by repeat (first | exact hB | refine Bl.new ?_ _)⟩
    · have hP3 := post_below hP hb3
      obtain ⟨p, hp⟩ : ∃ p, p = w1.heap.size + 1 := ⟨_, rfl⟩
      obtain ⟨c, hc⟩ : ∃ c, c = w1.heap.size := ⟨_, rfl⟩
      obtain ⟨q, hq⟩ : ∃ q, q = w3.heap.size := ⟨_, rfl⟩
      obtain ⟨w4, hw4⟩ : ∃ x, x = w3.alloc (.cells #[.int .i64 r, .int .i64 gap, .slice none 0 0, .int .i64 0, .int .i64 0] 30) := ⟨_, rfl⟩
      have h2 : Two W w4 p c q r gap [] 0 0 (.slice none 0 0) := by
        rw [hp, hc, hq, hw4]
        exact ⟨post_below hP3 ((Below.refl _ _).alloc (Nat.le_refl _) _), heap_new _ _, Ow.nil _ _ _ _, Bl.new hB _, by omega, by omega, by omega, by omega, fun x hx => by simp at hx⟩
      have H0 := Lib.hid h2
      have HW4 := Lib.hid hw4
      go_wp2_with fail
      rw [← HW4.out, ← hp, ← hq]
      clear hp hc hq hw4 h2 hP hP3 hB hb1 hb2 hb3 z1 lp2 z3 HW4 HR HN
      go_loopw [63] (fun x wr => ∃ k : Nat, k ≤ acts.length ∧ x = .int .i64 k ∧ ∃ s L last lost, Two W wr p c q r gap L last lost s ∧ 0 ≤ last ∧ last ≤ k ∧ 0 ≤ lost ∧ lost ≤ k) (fun x _ => acts.length - (intOf x).toNat)
      case atStart =>
        exact ⟨0, Nat.zero_le _, rfl, _, [], 0, 0, H0.out, by omega, by omega, by omega, by omega⟩
      case round =>
        obtain ⟨k, hk, rfl, s, L, last, lost, h2, hla0, hla1, hlo0, hlo1⟩ := hrel
        by_cases hlt : k < acts.length
        · obtain ⟨⟨kind, num, text, tm⟩, hx⟩ : ∃ x, acts[k]? = some x := ⟨_, List.getElem?_eq_getElem hlt⟩
          obtain ⟨ab, ao, rfl, habw, hcells⟩ := HACT.out k _ hx
          have HX := Lib.hid (fun (j : Nat) (u : Value) (hu : (#[.int .i64 kind, .int .i64 num, .string text, .int .i64 tm] : Array Value).toList[j]? = some u) => (h2.bel.cell (p := ⟨ab, ao + k * 4 + j, none⟩) habw).trans (hcells j u hu))
          obtain ⟨sa, sc, rfl, _, _⟩ := h2.own.form
          have i0 : (0 : Int) ≤ (k : Int) := by omega
          have i1 : (k : Int) < (acts.length : Int) := by omega
          obtain ⟨w5, hw5⟩ : ∃ x, x = wr.alloc (.cells #[.int .i64 kind, .int .i64 num, .string text, .int .i64 tm] 34) := ⟨_, rfl⟩
          have hb5 : Below wr.heap.size wr w5 := by rw [hw5]; exact Bl.new (Below.refl _ _) _
          have HX5 := Lib.hid (show w5.heap[wr.heap.size]? = some (.cells #[.int .i64 kind, .int .i64 num, .string text, .int .i64 tm] 34 (0, 0)) by rw [hw5]; exact heap_new _ _)
          have H5 := Lib.hid (h2.same hb5)
          have HW5 := Lib.hid hw5
          obtain ⟨X, hX⟩ : ∃ X, X = wr.heap.size := ⟨_, rfl⟩
          have lq := lt_row h2.box
          clear h2 hcells hx hw5 hb5
          go_upto_region 12 with (refine wpList_load_rowO rfl _ _ rfl ab (ao + k * 4) rfl #[.int .i64 kind, .int .i64 num, .string text, .int .i64 tm] HX.out Try.underlying34 rfl (by kernel_rfl) ?_)
          rw [← HW5.out, ← hX]
          rw [← hX] at HX5 lq
          clear HW5 HX hX habw
          obtain ⟨e0, f0⟩ := row_facts HX5.out
          go_cut [68] from 67 to 68 (fun t wx => t = .int .i64 kind ∧ w5 = wx)
          case first =>
            go_wp2
            go_meet
            exact ⟨rfl, rfl⟩
          case rest =>
            obtain ⟨rfl, rfl⟩ := hcut
            go_step
            clear e0 f0
            go_cut [] from 69 to 153 (fun wx => ∃ s L last lost, Two W wx p c q r gap L last lost s ∧ 0 ≤ last ∧ last ≤ (k : Int) + 1 ∧ 0 ≤ lost ∧ lost ≤ (k : Int) + 1)
            case first =>
              by_cases k0 : kind = 0
              · subst k0
                obtain ⟨e0, f0⟩ := row_facts HX5.out
                obtain ⟨e1, f1⟩ := row_facts H5.out.box
                go_wp2_with fail
                refine (rPut_any num text H5.out.own (by have := lt_row H5.out.box; omega) H5.out.len.1 H5.out.len.2 hla0 (by omega) hlo0 (by omega)).mono ?_
                rintro e w6 ⟨s', rfl, ho, hb⟩
                unfold PV
                obtain ⟨a6, c6, rfl, _, _⟩ := ho.form
                have z5 := lt_row HX5.out
                have z6 := hb.size
                obtain ⟨w7, hw7⟩ : ∃ x, x = w6.alloc (.cells #[.int .i64 r, .int .i64 gap, .slice a6 (putL r L last num text).length c6, .int .i64 (putA r L last num), .int .i64 (putO r L lost num)] 30) := ⟨_, rfl⟩
                have hb7 : Below w6.heap.size w6 w7 := by rw [hw7]; exact Bl.new (Below.refl _ _) _
                have hx7 := (hb7.block _ (by omega)).trans ((hb.block _ (by omega)).trans HX5.out)
                have hy7 : w7.heap[w6.heap.size]? = some (.cells #[.int .i64 r, .int .i64 gap, .slice a6 (putL r L last num text).length c6, .int .i64 (putA r L last num), .int .i64 (putO r L lost num)] 30 (0, 0)) := by rw [hw7]; exact heap_new _ _
                have hP7 := post_below (post_below H5.out.post hb) hb7
                have HW7 := Lib.hid hw7
                have HB := Lib.hid hb
                have HB7 := Lib.hid hb7
                have HO := Lib.hid ho
                have HP7 := Lib.hid hP7
                have HY7 := Lib.hid hy7
                have HX7 := Lib.hid hx7
                have z7 := lt_row hy7
                have hcq := H5.out.cq
                have hpq := H5.out.pq
                clear hb ho hw7 hb7 hP7 hy7 hx7 e0 f0 e1 f1
                have e0 := fun j => cell_row (j := j) ((HB.out.block _ (by omega)).trans HX5.out)
                have lX6 : X < w6.heap.size := by omega
                have nX6 : ¬ X = w6.heap.size := by omega
                go_wp2_with fail
                rw [← HW7.out]
                refine (Put_any num text HP7.out hla0 (by omega) hlo0 (by omega)).mono ?_
                rintro e w9 ⟨rfl, hP9, hE9⟩
                have HP9 := Lib.hid hP9
                have HE9 := Lib.hid hE9
                clear hP9 hE9
                have hx9 := HE9.out.blockOf HX7.out (fun e => by omega)
                have hy9 := HE9.out.blockOf HY7.out (fun e => by omega)
                have hq9 := HE9.out.blockOf ((HB7.out.block _ (by omega)).trans ((HB.out.block _ (by omega)).trans H5.out.box)) (fun e => by omega)
                obtain ⟨e2, f2⟩ := row_facts hy9
                obtain ⟨e3, f3⟩ := row_facts hq9
                have HT := Lib.hid (Two.next H5.out HB.out HO.out HB7.out HE9.out HP9.out (fine_put H5.out.fine))
                clear hx9 hy9 hq9 e0 lX6 nX6
                go_wp2
                go_meet
                exact ⟨_, _, _, _, HT.out, by unfold putA; split <;> (try split) <;> omega, by unfold putA; split <;> (try split) <;> omega, by unfold putO; split <;> (try split) <;> omega, by unfold putO; split <;> (try split) <;> omega⟩
              by_cases k1 : kind = 1
              · subst k1
                obtain ⟨e0, f0⟩ := row_facts HX5.out
                obtain ⟨e1, f1⟩ := row_facts H5.out.box
                go_wp2_with fail
                refine (rDue_any tm H5.out.own (by have := lt_row H5.out.box; omega) (by have := H5.out.len; omega) H5.out.fine).mono ?_
                rintro e w6 ⟨s', v, rfl, ho, hv, hb⟩
                unfold PV
                obtain ⟨a6, c6, rfl, _, _⟩ := ho.form
                have z5 := lt_row HX5.out
                have z6 := hb.size
                obtain ⟨w7, hw7⟩ : ∃ x, x = w6.alloc (.cells #[.int .i64 r, .int .i64 gap, .slice a6 (tchL gap tm L).length c6, .int .i64 (last), .int .i64 (lost)] 30) := ⟨_, rfl⟩
                have hb7 : Below w6.heap.size w6 w7 := by rw [hw7]; exact Bl.new (Below.refl _ _) _
                have hx7 := (hb7.block _ (by omega)).trans ((hb.block _ (by omega)).trans HX5.out)
                have hy7 : w7.heap[w6.heap.size]? = some (.cells #[.int .i64 r, .int .i64 gap, .slice a6 (tchL gap tm L).length c6, .int .i64 (last), .int .i64 (lost)] 30 (0, 0)) := by rw [hw7]; exact heap_new _ _
                have hP7 := post_below (post_below H5.out.post hb) hb7
                have HW7 := Lib.hid hw7
                have HB := Lib.hid hb
                have HB7 := Lib.hid hb7
                have HO := Lib.hid ho
                have HP7 := Lib.hid hP7
                have HY7 := Lib.hid hy7
                have HX7 := Lib.hid hx7
                have z7 := lt_row hy7
                have hcq := H5.out.cq
                have hpq := H5.out.pq
                have HV := Lib.hid hv
                clear hv
                clear hb ho hw7 hb7 hP7 hy7 hx7 e0 f0 e1 f1
                have e0 := fun j => cell_row (j := j) ((HB.out.block _ (by omega)).trans HX5.out)
                have lX6 : X < w6.heap.size := by omega
                have nX6 : ¬ X = w6.heap.size := by omega
                go_wp2_with fail
                rw [← HW7.out]
                refine (Due_any tm HP7.out H5.out.fine).mono ?_
                rintro e w8 ⟨u, rfl, hu, hP8, hE8⟩
                have hmono := hE8.mono (S' := fun k => k = c ∨ k = p) (fun k _ h => .inl h)
                have hSm := PoS.Same_ok w8 u v (dueL gap tm L) (dueL gap tm L) hu.sl ((HV.out.ext (Ext.ofB HB7.out) (fun _ _ h => h)).ext hE8 (fun k hk e => by have := (HV.out.lt k hk).1; omega)).sl (by have := due_len gap tm L; have := H5.out.len; omega) (by have := due_len gap tm L; have := H5.out.len; omega)
                rw [sameB_self] at hSm
                have HP8 := Lib.hid hP8
                have HE8 := Lib.hid hmono
                have HSm := Lib.hid hSm
                clear hP8 hE8 hmono hSm hu
                go_wp2_with fail
                refine HSm.out.mono ?_
                rintro e w9 ⟨rfl, nn, hw9⟩
                have HP9 := Lib.hid (show PostAt w9 p c r gap (tchL gap tm L) last lost by rw [hw9]; exact post_below HP8.out (Bl.drewN (Below.refl _ _) _))
                have HE9 := Lib.hid (show Ext (fun k => k = c ∨ k = p) w7 w9 by rw [hw9]; exact HE8.out.drewN nn)
                clear hw9
                have hx9 := HE9.out.blockOf HX7.out (fun e => by omega)
                have hy9 := HE9.out.blockOf HY7.out (fun e => by omega)
                have hq9 := HE9.out.blockOf ((HB7.out.block _ (by omega)).trans ((HB.out.block _ (by omega)).trans H5.out.box)) (fun e => by omega)
                obtain ⟨e2, f2⟩ := row_facts hy9
                obtain ⟨e3, f3⟩ := row_facts hq9
                have HT := Lib.hid (Two.next H5.out HB.out HO.out HB7.out HE9.out HP9.out (fine_tch H5.out.fine))
                clear hx9 hy9 hq9 e0 lX6 nX6
                go_wp2
                go_meet
                exact ⟨_, _, _, _, HT.out, by omega, by omega, by omega, by omega⟩
              by_cases k2 : kind = 2
              · subst k2
                obtain ⟨y, hyy⟩ : ∃ y : Int, y = if (endOf L num).length = L.length then 3 else 0 := ⟨_, rfl⟩
                have HYY := Lib.hid hyy
                clear hyy
                obtain ⟨e0, f0⟩ := row_facts HX5.out
                obtain ⟨e1, f1⟩ := row_facts H5.out.box
                go_wp2_with fail
                refine (rDone_y num y HYY.out H5.out.own (by have := lt_row H5.out.box; omega) (by have := H5.out.len; omega)).mono ?_
                rintro e w6 ⟨s', rfl, ho, hb⟩
                unfold PV
                obtain ⟨a6, c6, rfl, _, _⟩ := ho.form
                have z5 := lt_row HX5.out
                have z6 := hb.size
                obtain ⟨w7, hw7⟩ : ∃ x, x = w6.alloc (.cells #[.int .i64 r, .int .i64 gap, .slice a6 (endOf L num).length c6, .int .i64 (last), .int .i64 (lost)] 30) := ⟨_, rfl⟩
                have hb7 : Below w6.heap.size w6 w7 := by rw [hw7]; exact Bl.new (Below.refl _ _) _
                have hx7 := (hb7.block _ (by omega)).trans ((hb.block _ (by omega)).trans HX5.out)
                have hy7 : w7.heap[w6.heap.size]? = some (.cells #[.int .i64 r, .int .i64 gap, .slice a6 (endOf L num).length c6, .int .i64 (last), .int .i64 (lost)] 30 (0, 0)) := by rw [hw7]; exact heap_new _ _
                have hP7 := post_below (post_below H5.out.post hb) hb7
                have HW7 := Lib.hid hw7
                have HB := Lib.hid hb
                have HB7 := Lib.hid hb7
                have HO := Lib.hid ho
                have HP7 := Lib.hid hP7
                have HY7 := Lib.hid hy7
                have HX7 := Lib.hid hx7
                have z7 := lt_row hy7
                have hcq := H5.out.cq
                have hpq := H5.out.pq
                clear hb ho hw7 hb7 hP7 hy7 hx7 e0 f0 e1 f1
                have e0 := fun j => cell_row (j := j) ((HB.out.block _ (by omega)).trans HX5.out)
                have lX6 : X < w6.heap.size := by omega
                have nX6 : ¬ X = w6.heap.size := by omega
                go_wp2_with fail
                rw [← HW7.out]
                refine (Done_y num y HYY.out HP7.out).mono ?_
                rintro e w9 ⟨rfl, hP9, hE8⟩
                have hmono := hE8.mono (S' := fun k => k = c ∨ k = p) (fun k _ h => .inl h)
                have HP9 := Lib.hid hP9
                have HE9 := Lib.hid hmono
                clear hP9 hE8 hmono
                have hx9 := HE9.out.blockOf HX7.out (fun e => by omega)
                have hy9 := HE9.out.blockOf HY7.out (fun e => by omega)
                have hq9 := HE9.out.blockOf ((HB7.out.block _ (by omega)).trans ((HB.out.block _ (by omega)).trans H5.out.box)) (fun e => by omega)
                obtain ⟨e2, f2⟩ := row_facts hy9
                obtain ⟨e3, f3⟩ := row_facts hq9
                have HT := Lib.hid (Two.next H5.out HB.out HO.out HB7.out HE9.out HP9.out (fine_end H5.out.fine))
                clear hx9 hy9 hq9 e0 lX6 nX6
                go_wp2
                go_meet
                exact ⟨_, _, _, _, HT.out, by omega, by omega, by omega, by omega⟩
              by_cases k3 : kind = 3
              · subst k3
                obtain ⟨e0, f0⟩ := row_facts HX5.out
                obtain ⟨e1, f1⟩ := row_facts H5.out.box
                go_wp2_with fail
                have hS0 : (w5.drew).heap[q]? = some (.cells #[.int .i64 r, .int .i64 gap, .slice sa L.length sc, .int .i64 last, .int .i64 lost] 30 (0, 0)) := H5.out.box
                refine wp_region_noPanic ?_
                refine wp_region_held (S := (fun W => W.heap[q]? = some (.cells #[.int .i64 r, .int .i64 gap, .slice sa L.length sc, .int .i64 last, .int .i64 lost] 30 (0, 0)))) (by kernel_rfl) ?_
                change wpAnyH _ _ _ _ _ _ _ _ (World.drew w5)
                refine wpAnyH_take (i := 0) (v := ?_) rfl (by kernel_rfl) (by kernel_rfl) (by kernel_rfl) (fun _ _ _ h => h) (Or.inl ⟨by rfl, ?_⟩) hS0 ?_
                rotate_left
                · intro wq hSw
                  obtain ⟨qc, qf⟩ := row_facts hSw
                  go_simp
                  rfl
                simp only [Act.put, List.getElem_toArray, List.getElem_cons_zero, List.getElem_cons_succ, List.setIfInBounds_toArray, List.set_cons_zero, List.set_cons_succ]
                refine wpAnyH_take (i := 2) (v := ?_) rfl (by kernel_rfl) (by kernel_rfl) (by kernel_rfl) (fun _ _ _ h => h) (Or.inl ⟨by rfl, ?_⟩) hS0 ?_
                rotate_left
                · intro wq hSw
                  obtain ⟨qc, qf⟩ := row_facts hSw
                  go_simp
                  rfl
                simp only [Act.put, List.getElem_toArray, List.getElem_cons_zero, List.getElem_cons_succ, List.setIfInBounds_toArray, List.set_cons_zero, List.set_cons_succ]
                refine wpAnyH_take (i := 3) (v := ?_) rfl (by kernel_rfl) (by kernel_rfl) (by kernel_rfl) (fun _ _ _ h => h) (Or.inl ⟨by rfl, ?_⟩) hS0 ?_
                rotate_left
                · intro wq hSw
                  obtain ⟨qc, qf⟩ := row_facts hSw
                  go_simp
                  rfl
                simp only [Act.put, List.getElem_toArray, List.getElem_cons_zero, List.getElem_cons_succ, List.setIfInBounds_toArray, List.set_cons_zero, List.set_cons_succ]
                refine wpAnyH_take (i := 4) (v := ?_) rfl (by kernel_rfl) (by kernel_rfl) (by kernel_rfl) (fun _ _ _ h => h) (Or.inl ⟨by rfl, ?_⟩) hS0 ?_
                rotate_left
                · intro wq hSw
                  obtain ⟨qc, qf⟩ := row_facts hSw
                  go_simp
                  rfl
                simp only [Act.put, List.getElem_toArray, List.getElem_cons_zero, List.getElem_cons_succ, List.setIfInBounds_toArray, List.set_cons_zero, List.set_cons_succ]
                refine wpAnyH_all (rs := [1]) (by kernel_rfl) (by simp) ?_
                intro i hi
                simp only [List.mem_cons, List.not_mem_nil, or_false] at hi
                subst hi
                refine wpOp_call rfl (by rfl) (by go_simp; first | rfl | exact ⟨⟨rfl, rfl⟩, rfl⟩ | exact ⟨rfl, rfl⟩) ?_
                refine (Clear_ok w5.drew p c r gap L last lost (post_below H5.out.post (Bl.drew (Below.refl _ _)))).mono ?_
                rintro e w6 ⟨rfl, hP6, hE6⟩
                have hS1 : w6.heap[q]? = some (.cells #[.int .i64 r, .int .i64 gap, .slice sa L.length sc, .int .i64 last, .int .i64 lost] 30 (0, 0)) := hE6.blockOf hS0 (fun e => by have := H5.out.cq; omega)
                have HT := Lib.hid (Two.clear (H5.out.same (Bl.drew (Below.refl _ _))) hE6 hP6)
                refine ⟨_, rfl, ?_, ?_⟩
                · exact hS1
                simp only [Act.put, List.getElem_toArray, List.getElem_cons_zero, List.getElem_cons_succ, List.setIfInBounds_toArray, List.set_cons_zero, List.set_cons_succ]
                refine wpAnyH_take (i := 5) (v := .bool false) rfl (by kernel_rfl) (by kernel_rfl) (by kernel_rfl) (fun _ _ _ h => h) (Or.inl ⟨by rfl, ?_⟩) hS1 ?_
                · intro wq hSw
                  obtain ⟨qc, qf⟩ := row_facts hSw
                  go_simp
                simp only [Act.put, List.getElem_toArray, List.getElem_cons_zero, List.getElem_cons_succ, List.setIfInBounds_toArray, List.set_cons_zero, List.set_cons_succ]
                refine wpAnyH_done (by kernel_rfl) (NoPanic.normal ?_) _
                obtain ⟨e2, f2⟩ := row_facts hS1
                clear hP6 hE6 hS0 hS1 e0 f0 e1 f1
                go_wp2
                go_meet
                exact ⟨_, _, _, _, HT.out, by omega, by omega, by omega, by omega⟩
              · skip
                obtain ⟨e0, f0⟩ := row_facts HX5.out
                have d0 : decide (kind = 0) = false := decide_eq_false k0
                have d1 : decide (kind = 1) = false := decide_eq_false k1
                have d2 : decide (kind = 2) = false := decide_eq_false k2
                have d3 : decide (kind = 3) = false := decide_eq_false k3
                go_wp2
                go_meet
                exact ⟨_, _, _, _, H5.out, by omega, by omega, by omega, by omega⟩
            case rest =>
              obtain ⟨s, L, last, lost, h2, hla0, hla1, hlo0, hlo1⟩ := hcut
              obtain ⟨sa, sc, rfl, _, _⟩ := h2.own.form
              have H2 := Lib.hid h2
              have hcq := h2.cq
              clear h2 H5 HX5
              go_wp2_with fail
              have hS0 : (wc.drew).heap[q]? = some (.cells #[.int .i64 r, .int .i64 gap, .slice sa L.length sc, .int .i64 last, .int .i64 lost] 30 (0, 0)) := H2.out.box
              refine wp_region_noPanic ?_
              refine wp_region_held (S := (fun W => W.heap[q]? = some (.cells #[.int .i64 r, .int .i64 gap, .slice sa L.length sc, .int .i64 last, .int .i64 lost] 30 (0, 0)))) (by kernel_rfl) ?_
              change wpAnyH _ _ _ _ _ _ _ _ (World.drew wc)
              refine wpAnyH_take (i := 0) (v := ?_) rfl (by kernel_rfl) (by kernel_rfl) (by kernel_rfl) (fun _ _ _ h => h) (Or.inl ⟨by rfl, ?_⟩) hS0 ?_
              rotate_left
              · intro wq hSw
                obtain ⟨qc, qf⟩ := row_facts hSw
                go_simp
                rfl
              simp only [Act.put, List.getElem_toArray, List.getElem_cons_zero, List.getElem_cons_succ, List.setIfInBounds_toArray, List.set_cons_zero, List.set_cons_succ]
              refine wpAnyH_take (i := 2) (v := ?_) rfl (by kernel_rfl) (by kernel_rfl) (by kernel_rfl) (fun _ _ _ h => h) (Or.inl ⟨by rfl, ?_⟩) hS0 ?_
              rotate_left
              · intro wq hSw
                obtain ⟨qc, qf⟩ := row_facts hSw
                go_simp
                rfl
              simp only [Act.put, List.getElem_toArray, List.getElem_cons_zero, List.getElem_cons_succ, List.setIfInBounds_toArray, List.set_cons_zero, List.set_cons_succ]
              refine wpAnyH_all (rs := [1]) (by kernel_rfl) (by simp) ?_
              intro i hi
              simp only [List.mem_cons, List.not_mem_nil, or_false] at hi
              subst hi
              refine wpOp_call rfl (by rfl) (by go_simp; first | rfl | exact ⟨⟨rfl, rfl⟩, rfl⟩ | exact ⟨rfl, rfl⟩) ?_
              have hz2 := H2.out.same (Bl.drew (Below.refl _ _))
              refine (All_ok wc.drew p c r gap L last lost hz2.post).mono ?_
              rintro e w6 ⟨u, rfl, hu, hP6, hE6⟩
              have hT6 := hz2.all hE6 hP6
              have HT6 := Lib.hid hT6
              have hS1 : w6.heap[q]? = some (.cells #[.int .i64 r, .int .i64 gap, .slice sa L.length sc, .int .i64 last, .int .i64 lost] 30 (0, 0)) := hT6.box
              have HU6 := Lib.hid hu
              clear hz2 hP6 hE6 hT6 hu
              refine ⟨_, rfl, ?_, ?_⟩
              · exact hS1
              simp only [Act.put, List.getElem_toArray, List.getElem_cons_zero, List.getElem_cons_succ, List.setIfInBounds_toArray, List.set_cons_zero, List.set_cons_succ]
              refine wpAnyH_all (rs := [3]) (by kernel_rfl) (by simp) ?_
              intro i hi
              simp only [List.mem_cons, List.not_mem_nil, or_false] at hi
              subst hi
              refine wpOp_call rfl (by rfl) (by go_simp; first | rfl | exact ⟨⟨rfl, rfl⟩, rfl⟩ | exact ⟨rfl, rfl⟩) ?_
              refine (refAll_ok w6 r gap last lost _ L HT6.out.own.sl (by have := HT6.out.len; omega)).mono ?_
              rintro e w7 ⟨v, rfl, hv⟩
              have hT7 := HT6.out.same hv.bel
              have HT7 := Lib.hid hT7
              have hS2 : w7.heap[q]? = some (.cells #[.int .i64 r, .int .i64 gap, .slice sa L.length sc, .int .i64 last, .int .i64 lost] 30 (0, 0)) := hT7.box
              have hSm := PoS.Same_ok w7 u v L L (HU6.out.ext (Ext.ofB hv.bel) (fun _ _ h => h)).sl hv.own.sl (by have := HT6.out.len; omega) (by have := HT6.out.len; omega)
              rw [sameB_self] at hSm
              have HSm := Lib.hid hSm
              clear hT7 hv hSm hS1 HT6
              refine ⟨_, rfl, ?_, ?_⟩
              · exact hS2
              simp only [Act.put, List.getElem_toArray, List.getElem_cons_zero, List.getElem_cons_succ, List.setIfInBounds_toArray, List.set_cons_zero, List.set_cons_succ]
              refine wpAnyH_all (rs := [4]) (by kernel_rfl) (by simp) ?_
              intro i hi
              simp only [List.mem_cons, List.not_mem_nil, or_false] at hi
              subst hi
              refine wpOp_call rfl (by rfl) (by go_simp; first | rfl | exact ⟨⟨rfl, rfl⟩, rfl⟩ | exact ⟨rfl, rfl⟩) ?_
              refine HSm.out.mono ?_
              rintro e w8 ⟨rfl, nn, hw8⟩
              have hT8 : Two W w8 p c q r gap L last lost (.slice sa L.length sc) := by rw [hw8]; exact HT7.out.same (Bl.drewN (Below.refl _ _) _)
              have HT8 := Lib.hid hT8
              have hS3 : w8.heap[q]? = some (.cells #[.int .i64 r, .int .i64 gap, .slice sa L.length sc, .int .i64 last, .int .i64 lost] 30 (0, 0)) := hT8.box
              clear hT8 hw8 hS2
              refine ⟨_, rfl, ?_, ?_⟩
              · exact hS3
              simp only [Act.put, List.getElem_toArray, List.getElem_cons_zero, List.getElem_cons_succ, List.setIfInBounds_toArray, List.set_cons_zero, List.set_cons_succ]
              refine wpAnyH_take (i := 5) (v := ?_) rfl (by kernel_rfl) (by kernel_rfl) (by kernel_rfl) (fun _ _ _ h => h) (Or.inl ⟨by rfl, ?_⟩) hS3 ?_
              rotate_left
              · intro wq hSw
                obtain ⟨qc, qf⟩ := row_facts hSw
                go_simp
                rfl
              simp only [Act.put, List.getElem_toArray, List.getElem_cons_zero, List.getElem_cons_succ, List.setIfInBounds_toArray, List.set_cons_zero, List.set_cons_succ]
              refine wpAnyH_take (i := 6) (v := ?_) rfl (by kernel_rfl) (by kernel_rfl) (by kernel_rfl) (fun _ _ _ h => h) (Or.inl ⟨by rfl, ?_⟩) hS3 ?_
              rotate_left
              · intro wq hSw
                obtain ⟨qc, qf⟩ := row_facts hSw
                go_simp
                rfl
              simp only [Act.put, List.getElem_toArray, List.getElem_cons_zero, List.getElem_cons_succ, List.setIfInBounds_toArray, List.set_cons_zero, List.set_cons_succ]
              refine wpAnyH_take (i := 7) (v := ?_) rfl (by kernel_rfl) (by kernel_rfl) (by kernel_rfl) (fun _ _ _ h => h) (Or.inl ⟨by rfl, ?_⟩) hS3 ?_
              rotate_left
              · intro wq hSw
                obtain ⟨qc, qf⟩ := row_facts hSw
                go_simp
                rfl
              simp only [Act.put, List.getElem_toArray, List.getElem_cons_zero, List.getElem_cons_succ, List.setIfInBounds_toArray, List.set_cons_zero, List.set_cons_succ]
              refine wpAnyH_take (i := 9) (v := ?_) rfl (by kernel_rfl) (by kernel_rfl) (by kernel_rfl) (fun _ _ _ h => h) (Or.inl ⟨by rfl, ?_⟩) hS3 ?_
              rotate_left
              · intro wq hSw
                obtain ⟨qc, qf⟩ := row_facts hSw
                go_simp
                rfl
              simp only [Act.put, List.getElem_toArray, List.getElem_cons_zero, List.getElem_cons_succ, List.setIfInBounds_toArray, List.set_cons_zero, List.set_cons_succ]
              refine wpAnyH_take (i := 10) (v := ?_) rfl (by kernel_rfl) (by kernel_rfl) (by kernel_rfl) (fun _ _ _ h => h) (Or.inl ⟨by rfl, ?_⟩) hS3 ?_
              rotate_left
              · intro wq hSw
                obtain ⟨qc, qf⟩ := row_facts hSw
                go_simp
                rfl
              simp only [Act.put, List.getElem_toArray, List.getElem_cons_zero, List.getElem_cons_succ, List.setIfInBounds_toArray, List.set_cons_zero, List.set_cons_succ]
              refine wpAnyH_all (rs := [8]) (by kernel_rfl) (by simp) ?_
              intro i hi
              simp only [List.mem_cons, List.not_mem_nil, or_false] at hi
              subst hi
              refine wpOp_call rfl (by rfl) (by go_simp; first | rfl | exact ⟨⟨rfl, rfl⟩, rfl⟩ | exact ⟨rfl, rfl⟩) ?_
              refine (Lost_ok w8 p c r gap L last lost HT8.out.post).mono ?_
              rintro e w9 ⟨rfl, rfl⟩
              refine ⟨_, rfl, ?_, ?_⟩
              · exact hS3
              simp only [Act.put, List.getElem_toArray, List.getElem_cons_zero, List.getElem_cons_succ, List.setIfInBounds_toArray, List.set_cons_zero, List.set_cons_succ]
              refine wpAnyH_take (i := 11) (v := .bool false) rfl (by kernel_rfl) (by kernel_rfl) (by kernel_rfl) (fun _ _ _ h => h) (Or.inl ⟨by rfl, ?_⟩) hS3 ?_
              · intro wq hSw
                obtain ⟨qc, qf⟩ := row_facts hSw
                go_simp
              simp only [Act.put, List.getElem_toArray, List.getElem_cons_zero, List.getElem_cons_succ, List.setIfInBounds_toArray, List.set_cons_zero, List.set_cons_succ]
              refine wpAnyH_take (i := 12) (v := .bool false) rfl (by kernel_rfl) (by kernel_rfl) (by kernel_rfl) (fun _ _ _ h => h) (Or.inl ⟨by rfl, ?_⟩) hS3 ?_
              · intro wq hSw
                obtain ⟨qc, qf⟩ := row_facts hSw
                go_simp
              simp only [Act.put, List.getElem_toArray, List.getElem_cons_zero, List.getElem_cons_succ, List.setIfInBounds_toArray, List.set_cons_zero, List.set_cons_succ]
              refine wpAnyH_done (by kernel_rfl) (NoPanic.normal ?_) _
              clear hS0 hS3
              go_wp2
              go_roundw
              case rel => exact ⟨k + 1, by omega, by go_num, _, L, last, lost, HT8.out, hla0, by omega, hlo0, by omega⟩
              case measure => simp [intOf]; omega
        · obtain rfl : k = acts.length := by omega
          have hbe := h2.bel
          have HBE := Lib.hid hbe
          clear h2 hbe
          go_wp2
          go_ret
          exact ⟨rfl, HBE.out⟩

end Go.Proofs.Ytadnldnmefhlcaa.PoP
