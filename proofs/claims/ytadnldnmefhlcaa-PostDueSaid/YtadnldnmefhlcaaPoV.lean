/-
  WHAT IS PROVED: what the law PostDue answers, whatever the steps. No condition.
-/
import Derived.Test.YtadnldnmefhlcaaPoQ
namespace Go.Proofs.Ytadnldnmefhlcaa.PoV
open Go Go.RowKit Go.Shelf Go.Conc Go.Proofs.Ytadnldnmefhlcaa Go.Proofs.Ytadnldnmefhlcaa.PostA Go.Proofs.Ytadnldnmefhlcaa.PostF Go.Proofs.Ytadnldnmefhlcaa.PostN Go.Proofs.Ytadnldnmefhlcaa.PostNe Go.Proofs.Ytadnldnmefhlcaa.PostP Go.Proofs.Ytadnldnmefhlcaa.PostQ Go.Proofs.Ytadnldnmefhlcaa.PostR Go.Proofs.Ytadnldnmefhlcaa.RowsX Go.Proofs.Ytadnldnmefhlcaa.Lift Go.Proofs.Ytadnldnmefhlcaa.Steps Go.Proofs.Ytadnldnmefhlcaa.PoA Go.Proofs.Ytadnldnmefhlcaa.PoD Go.Proofs.Ytadnldnmefhlcaa.PoM Go.Proofs.Ytadnldnmefhlcaa.PoQ
set_option linter.unusedVariables false
set_option linter.unusedSimpArgs false
attribute [-go_sem] Builtin.append_

theorem tyI : SliceTy Try.prog 51 2 1 8 (.int .i64 0) := SliceTy.mk' (by kernel_rfl) (by kernel_rfl) rfl (by omega)
/-- What the loop keeps. -/
structure DueI (W wr : World) (p c B : Nat) (g : Int) (L : List Lt) (last lost : Int) (T : List Int) (sv : Value) (now : Int) : Prop where
  post : PostAt wr p c 9 g L last lost
  own : Ow wr B 2 1 sv T.length (tv T)
  bel : Below W.heap.size W wr
  inv : InvP g now L T
  len : (T.length : Int) = last + 1
  cW : W.heap.size ≤ c
  pW : W.heap.size ≤ p
  cB : c < B
  pB : p < B
  Bw : B ≤ wr.heap.size
  l0 : 0 ≤ last
  o0 : 0 ≤ lost
  n0 : 0 ≤ now

theorem Done_q {w : World} {p c room : Nat} {gap last lost : Int} {L : List Lt} (id : Int) (h : PostAt w p c room gap L last lost) :
    Calls Try.prog 14 #[.pointer (some ⟨p, 0, none⟩), .int .i64 id] w fun e w' => ∃ y, e = .returned (.int .i64 y) ∧ PostAt w' p c room gap (endOf L id) last lost ∧ Ext (fun k => k = c) w w' :=
  (Done_ok w p c room gap L last lost id h).mono fun e w' h => ⟨_, h⟩

set_option maxRecDepth 100000 in
set_option maxHeartbeats 8000000 in
theorem dues_ok (W : World) (gp : Int) (v : Value) (S : List Int) (hg0 : 0 ≤ gp) (hg1 : gp ≤ 255) (hS : Sl W v 1 S.length (S.map (Value.int .u8))) (hb : ∀ x ∈ S, 0 ≤ x ∧ x ≤ 255) :
    Calls Try.prog 4 #[.int .u8 gp, v] W fun e W' => e = .returned (.bool true) ∧ Below W.heap.size W W' := by
  obtain ⟨a, cap, rfl, hcap, hm⟩ := hS.form
  have HS := Lib.hid hS
  have HBD := Lib.hid hb
  clear hS hb
  obtain ⟨g, hg⟩ : ∃ g, g = gp % 20 + 1 := ⟨_, rfl⟩
  have hgr : 0 ≤ gp % 20 ∧ gp % 20 < 20 := by omega
  have g1 : 1 ≤ g := by omega
  have g2 : g ≤ 20 := by omega
  have w1 : IntKind.u8.wrap (gp % 20) = gp % 20 := by rw [IntKind.wrap_u8]; omega
  have w2 : IntKind.i64.wrap (gp % 20) = gp % 20 := IntWalk.i64_in _ (by omega)
  have w3 : IntKind.i64.wrap (gp % 20 + 1) = gp % 20 + 1 := IntWalk.i64_in _ (by omega)
  have HN := Lib.hid (fun w => New_yes w 9 g (by omega) (by omega) (by omega) (by omega))
  have HG := Lib.hid hg
  clear hg
  obtain ⟨ii, hii, hiz, his, hib⟩ := tyI.ex
  go_enter Try.func4, Try.ntmps4
  go_wp2_with fail
  refine (PoL.lives_ok W).mono ?_
  rintro e W1 ⟨rfl, hb1⟩
  go_wp2_with fail
  rw [← HG.out]
  clear w1 w2 w3 hgr HG
  refine (HN.out W1).mono ?_
  rintro e W2 ⟨rfl, hP, hb2⟩
  have z1 := hb1.size
  have lp2 := lt_row hP.blk
  have hB := Bl.call hb1 hb2
  by_cases hl : 100 < (S.length : Int)
  · go_wp2
    go_ret
    exact ⟨rfl, hB⟩
  · obtain ⟨p, hp⟩ : ∃ p, p = W1.heap.size + 1 := ⟨_, rfl⟩
    obtain ⟨c, hc⟩ : ∃ c, c = W1.heap.size := ⟨_, rfl⟩
    go_wp2_with (at_make; go_must (refine wpList_make_full W2 rfl _ _ _ rfl W2.heap.size 2 ii (.int .i64 0) 1 Try.underlying51 hii hiz his .i64 .i64 1 1 1 rfl rfl rfl rfl (by rw [hib]; omega) (by unfold maxLen; omega) (Nat.le_refl _) ?go))
    case go =>
    intro W3 ho3 hg3
    rw [show (madeCells #[.int .i64 0] 1).toList = tv [0] from by kernel_rfl] at ho3
    have h2 : DueI W W3 p c W2.heap.size g [] 0 0 [0] (.slice (some ⟨W2.heap.size, 0, none⟩) 1 1) 0 := by
      have hb3 : Below W2.heap.size W2 W3 := (Below.refl _ _).grown hg3 (Nat.le_refl _) (fun q hq => by cases hq)
      rw [hp, hc]
      exact ⟨post_below hP hb3, Ow.of ho3, Bl.call hB hb3, InvP.nil _ _ _, rfl, by omega, by omega, by omega, by omega, hb3.size, by omega, by omega, by omega⟩
    have H0 := Lib.hid h2
    go_wp2_with fail
    rw [← hp]
    obtain ⟨B, hB'⟩ : ∃ B, B = W2.heap.size := ⟨_, rfl⟩
    rw [← hB'] at H0 ⊢
    clear hp hc h2 hP hB hb1 hb2 z1 lp2 HN hB' ho3 hg3 hii hiz his hib
    go_loopw [8, 9, 50] (fun n s i wr => ∃ (k : Nat) (now last lost : Int) (L : List Lt) (T : List Int) (sv : Value), sv = s ∧ n = .int .i64 now ∧ i = .int .i64 k ∧ k ≤ S.length ∧ DueI W wr p c B g L last lost T sv now ∧ last ≤ k ∧ lost ≤ k ∧ now ≤ 15 * k) (fun _ _ i _ => S.length - (intOf i).toNat)
    case atStart =>
      exact ⟨0, 0, 0, 0, [], [0], _, rfl, rfl, rfl, by omega, H0.out, by omega, by omega, by omega⟩
    case round =>
      obtain ⟨k, now, last, lost, L, T, sv, rfl, rfl, rfl, hk, h2, hla, hlo, hno⟩ := hrel
      by_cases hlt : k < S.length
      · obtain ⟨s, hx⟩ : ∃ s, S[k]? = some s := ⟨_, List.getElem?_eq_getElem hlt⟩
        obtain ⟨s0, s1⟩ := HBD.out s (List.mem_of_getElem? hx)
        obtain ⟨ab, ao, rfl, habw, hcells⟩ := HS.out.plain (by rw [List.length_map]; omega)
        have hc0 : wr.cell? ⟨ab, ao + k, none⟩ = some (.int .u8 s) := (h2.bel.cell (p := ⟨ab, ao + k, none⟩) habw).trans (hcells k (.int .u8 s) (by simp [hx]))
        obtain ⟨ta, tc, rfl, _, _⟩ := h2.own.form
        have i0 : (0 : Int) ≤ (k : Int) := by omega
        have i1 : (k : Int) < (S.length : Int) := by omega
        obtain ⟨tt, htt⟩ : ∃ tt, tt = (k : Int) % 4 := ⟨_, rfl⟩
        have ht0 : 0 ≤ tt := by omega
        have ht1 : tt ≤ 3 := by omega
        have htB : toB tt = true := by unfold toB; simp; omega
        have wt : IntKind.i64.wrap ((k : Int) % 4) = (k : Int) % 4 := IntWalk.i64_in _ (by omega)
        have hl9 := h2.post.box.1
        have H2 := Lib.hid h2
        have HTT := Lib.hid htt
        have HTB := Lib.hid htB
        have hol0 := h2.l0
        have hoo0 := h2.o0
        have hon0 := h2.n0
        clear h2 hcells hx htt htB
        have Hl9 := Lib.hid hl9
        clear hl9
        go_upto_region 12 with fail
        clear hc0
        go_cut [12, 13] from 55 to 61 (fun tn te wx => tn = .int .i64 (putN 9 L last tt) ∧ te = .int .i64 (putE 9 L tt) ∧ PostAt wx p c 9 g (putL 9 L last tt PoL.sx) (putA 9 L last tt) (putO 9 L lost tt) ∧ Ext (fun q => q = c ∨ q = p) wr wx)
        case first =>
          go_wp2_with fail
          rw [← HTT.out]
          refine (Put_any tt PoL.sx H2.out.post hol0 (by omega) hoo0 (by omega)).mono ?_
          rintro e w' ⟨rfl, hP, hE⟩
          have HP := Lib.hid hP
          have HE := Lib.hid hE
          clear hP hE
          go_wp2
          go_meet
          exact ⟨rfl, rfl, HP.out, HE.out⟩
        case rest =>
          obtain ⟨rfl, rfl, hP, hE⟩ := hcut
          have HP := Lib.hid hP
          have HE := Lib.hid hE
          clear hP hE wt
          have hO1 : Ow wc B 2 1 (.slice ta T.length tc) T.length (tv T) := H2.out.own.ext HE.out (fun q hq e => by have := (H2.out.own.lt q hq).1; have := H2.out.cB; have := H2.out.pB; omega)
          have hBl1 : Below W.heap.size W wc := Bl.ext H2.out.bel HE.out (fun q hq e => by have := H2.out.cW; have := H2.out.pW; omega)
          have HO1 := Lib.hid hO1
          have HBl1 := Lib.hid hBl1
          have hz1 := HE.out.size
          have hBw := H2.out.Bw
          clear hO1 hBl1
          go_step
          go_cut [9, 12, 13] from 62 to 72 (fun t9 _ _ wx => ∃ (L1 : List Lt) (T1 : List Int) (last1 lost1 : Int) (sv1 : Value), t9 = sv1 ∧ DueI W wx p c B g L1 last1 lost1 T1 sv1 now ∧ last1 ≤ (k : Int) + 1 ∧ lost1 ≤ (k : Int) + 1)
          case first =>
            by_cases hf : L.length = 9
            · have e1 : putN 9 L last tt = 0 := by unfold putN; rw [HTB.out]; simp [hf]
              have e2 : putE 9 L tt = 8 := by unfold putE; rw [HTB.out]; simp [hf]
              have e3 : putL 9 L last tt PoL.sx = L := by unfold putL; rw [HTB.out]; simp [hf]
              have e4 : putA 9 L last tt = last := by unfold putA; rw [HTB.out]; simp [hf]
              have e5 : putO 9 L lost tt = lost + 1 := by unfold putO; rw [HTB.out]; simp [hf]
              have hP := HP.out
              rw [e3, e4, e5] at hP
              have HP2 := Lib.hid hP
              rw [e1, e2]
              clear hP e1 e2 e3 e4 e5 hf
              go_wp2
              go_meet
              exact ⟨L, T, last, lost + 1, _, rfl, ⟨HP2.out, HO1.out, HBl1.out, H2.out.inv, H2.out.len, H2.out.cW, H2.out.pW, H2.out.cB, H2.out.pB, by omega, hol0, by omega, hon0⟩, by omega, by omega⟩
            · have e1 : putN 9 L last tt = last + 1 := by unfold putN; rw [HTB.out]; simp [hf]
              have e2 : putE 9 L tt = 0 := by unfold putE; rw [HTB.out]; simp [hf]
              have e3 : putL 9 L last tt PoL.sx = L ++ [letOf last tt PoL.sx] := by unfold putL; rw [HTB.out]; simp [hf]
              have e4 : putA 9 L last tt = last + 1 := by unfold putA; rw [HTB.out]; simp [hf]
              have e5 : putO 9 L lost tt = lost := by unfold putO; rw [HTB.out]; simp [hf]
              have hP := HP.out
              rw [e3, e4, e5] at hP
              have HP2 := Lib.hid hP
              rw [e1, e2]
              have HLN := Lib.hid H2.out.len
              have d1 : (last + 1 != (T.length : Int)) = false := by have := H2.out.len; simp; omega
              have wg : IntKind.i64.wrap (-g) = -g := IntWalk.i64_in _ (by omega)
              clear hP e1 e2 e3 e4 e5 hf
              have hTl : T.length ≤ 1000 := by have := HLN.out; omega
              obtain ⟨wA, hwA⟩ : ∃ x, x = wc.alloc (.cells #[.int .i64 (-g)] 2) := ⟨_, rfl⟩
              have hbA : Below wc.heap.size wc wA := by rw [hwA]; exact Bl.new (Below.refl _ _) _
              have hXA : wA.heap[wc.heap.size]? = some (.cells #[.int .i64 (-g)] 2 (0, 0)) := by rw [hwA]; exact heap_new _ _
              have HSr := Lib.hid (Sl.src (PoB.sl_one hXA rfl) Try.underlying51 (fun u hu => by simp at hu; subst hu; rfl))
              have HOA := Lib.hid (HO1.out.ext (Ext.ofB hbA) (fun _ _ h => h))
              have HbA := Lib.hid hbA
              have HWA := Lib.hid hwA
              have hzA := hbA.size
              clear hwA hbA hXA
              go_wp2_with (at_builtin; rw [← HWA.out]; go_must (refine wpList_appF _ rfl _ _ _ _ rfl tyI B (.slice ta T.length tc) T.length (tv T) rfl HOA.out (.slice (some ⟨wc.heap.size, 0, none⟩) 1 1) 1 [.int .i64 (-g)] rfl HSr.out (T.length + 1) rfl (tv (T ++ [-g])) (tv_app T (-g)) (by unfold maxLen; omega) (by omega) (by omega) ?go))
              case go =>
              intro a6 c6 w6 hO6 hg6 hat6
              have HO6 := Lib.hid (show Ow w6 B 2 1 (.slice a6 (T.length + 1) c6) (T ++ [-g]).length (tv (T ++ [-g])) by rw [List.length_append]; exact hO6)
              have hz6 := hg6.size
              have e6 : Ext (fun q => (Value.slice ta T.length tc).ownBlock = some q) wA w6 := (Ext.refl _ wA).grown hg6 (fun q h => .inl h)
              have HE6 := Lib.hid e6
              clear hO6 hg6 hat6 e6
              go_wp2
              go_meet
              refine ⟨L ++ [letOf last tt PoL.sx], T ++ [-g], last + 1, lost, _, rfl, ⟨post_ext (post_below HP2.out HbA.out) HE6.out (fun e => by have := (HOA.out.lt _ e).1; have := H2.out.pB; omega) (fun e => by have := (HOA.out.lt _ e).1; have := H2.out.cB; omega), HO6.out, Bl.ext (Bl.call HBl1.out HbA.out) HE6.out (fun q hq e => by have := (HOA.out.lt q e).1; have := H2.out.cW; have := H2.out.cB; omega), H2.out.inv.put H2.out.len hol0, by rw [List.length_append, List.length_singleton]; have := H2.out.len; omega, H2.out.cW, H2.out.pW, H2.out.cB, H2.out.pB, by omega, by omega, hoo0, hon0⟩, by omega, by omega⟩
          case rest =>
            obtain ⟨L1, T1, last1, lost1, sv1, rfl, h3, hla1, hlo1⟩ := hcut
            obtain ⟨ua, uc, rfl, _, _⟩ := h3.own.form
            clear H2 HP HE HO1 HBl1 hz1 hBw HTB HTT
            obtain ⟨nw, hnw⟩ : ∃ n, n = now + s % 16 := ⟨_, rfl⟩
            have hs16 : 0 ≤ s % 16 ∧ s % 16 < 16 := by omega
            have q1 : IntKind.u8.wrap (s % 16) = s % 16 := by rw [IntKind.wrap_u8]; omega
            have q2 : IntKind.i64.wrap (s % 16) = s % 16 := IntWalk.i64_in _ (by omega)
            have q3 : IntKind.i64.wrap (now + s % 16) = now + s % 16 := IntWalk.i64_in _ (by omega)
            have hnw0 : 0 ≤ nw := by omega
            have hnw1 : nw ≤ 15 * ((k : Int) + 1) := by omega
            have hkS : (k : Int) + 1 ≤ 100 := by omega
            have hinv := h3.inv.later (show now ≤ nw by omega)
            have hfine := hinv.fine (by omega)
            have HNW := Lib.hid hnw
            have H3 := Lib.hid h3
            have HI := Lib.hid hinv
            have HF := Lib.hid hfine
            clear h3 hinv hfine hnw
            go_wp2_with fail
            rw [← HNW.out]
            clear q1 q2 q3 hs16
            refine (Due_ok wc p c 9 g L1 last1 lost1 nw H3.out.post hnw0 (by omega) HF.out).mono ?_
            rintro e w6 ⟨v6, rfl, hv, hP6, hE6⟩
            have HP6 := Lib.hid hP6
            have HE6 := Lib.hid hE6
            have HV6 := Lib.hid hv
            have z6 := hE6.size
            clear hP6 hE6 hv
            go_wp2_with fail
            refine (All_ok w6 p c 9 g _ last1 lost1 HP6.out).mono ?_
            rintro e w7 ⟨u7, rfl, hu, hP7, hE7⟩
            obtain ⟨va, vc, rfl, _, _⟩ := HV6.out.form
            have hmap : (L1.map (touch g nw)).flatMap mc = L1.flatMap mc := by
              rw [List.flatMap_map]
              congr 1
              funext x
              unfold touch
              split <;> rfl
            rw [hmap, List.length_map] at hu
            obtain ⟨ra, rc, rfl, _, _⟩ := hu.form
            obtain ⟨tg, rfl, htB, htl, _, _, _⟩ := own_set H3.out.own (j := 0) (by have := H3.out.len; have := H3.out.l0; omega)
            have hT7 : Ow w7 B 2 1 (.slice (some ⟨tg, 0, none⟩) T1.length uc) T1.length (tv T1) := (H3.out.own.ext HE6.out (fun q hq e => by have := (H3.out.own.lt q hq).1; have := H3.out.cB; omega)).ext hE7 (fun q hq e => by have := (H3.out.own.lt q hq).1; have := H3.out.cB; omega)
            have hV7 : Ow w7 wc.heap.size 53 3 (.slice va (dues g nw L1).length vc) (dues g nw L1).length ((dues g nw L1).flatMap mc) := HV6.out.ext hE7 (fun q hq e => by have := (HV6.out.lt q hq).1; have := H3.out.cB; have := H3.out.Bw; omega)
            have hb7 : Below W.heap.size W w7 := Bl.ext (Bl.ext H3.out.bel HE6.out (fun q hq e => by have := H3.out.cW; omega)) hE7 (fun q hq e => by have := H3.out.cW; omega)
            have hLl := hP7.box.1
            rw [List.length_map] at hLl
            obtain ⟨D, hD⟩ : ∃ D, D = (dues g nw L1).length := ⟨_, rfl⟩
            have hDl : D ≤ L1.length := by rw [hD]; exact List.length_filter_le _ _
            rw [← hD] at hV7 ⊢
            have HDD := Lib.hid hD
            have HT7 := Lib.hid hT7
            have HV7 := Lib.hid hV7
            have HB7 := Lib.hid hb7
            have HU7 := Lib.hid hu
            have HP7 := Lib.hid hP7
            have z7 := hE7.size
            clear hT7 hV7 hb7 hu hmap hE7 HV6 HP6 HE6 hP7 hD
            go_wp2
            go_loopw [15, 84] (fun ta' j wq => ∃ (i m : Nat), j = .int .i64 i ∧ ta' = .int .i64 m ∧ i ≤ L1.length ∧ Hid (m = (dues g nw (L1.take i)).length) ∧ Ow wq B 2 1 (.slice (some ⟨tg, 0, none⟩) T1.length uc) T1.length (tv (updT g nw T1 (L1.take i))) ∧ Ext (fun q => q = tg) w7 wq) (fun _ j _ => L1.length - (intOf j).toNat)
            case atStart => exact ⟨0, 0, rfl, rfl, by omega, Lib.hid rfl, HT7.out, Ext.refl _ _⟩
            case round =>
              rename World => wq
              obtain ⟨i, m, rfl, rfl, hi, hm, hO, hE⟩ := hrel
              have zq := hE.size
              by_cases hil : i < L1.length
              · obtain ⟨x, hx⟩ : ∃ x, L1[i]? = some x := ⟨_, List.getElem?_eq_getElem hil⟩
                have hxm := List.mem_of_getElem? hx
                obtain ⟨x1, x2, _, x4⟩ := HI.out.one x hxm
                obtain ⟨d, hd⟩ : ∃ d : Nat, x.id = d := ⟨x.id.toNat, by omega⟩
                have hdT : d < T1.length := by omega
                have hd1 : 1 ≤ d := by omega
                obtain ⟨t, ht⟩ : ∃ t, t = (if x.sent then x.at' else -g) := ⟨_, rfl⟩
                have htb : -20 ≤ t ∧ t ≤ nw := by
                  rw [ht]
                  cases hs : x.sent
                  · simp; omega
                  · have := x4 hs; simp; omega
                have hTd : (updT g nw T1 (L1.take i))[d]? = some t := by
                  have := upd_at HI.out hx
                  rw [← ht, hd] at this
                  exact this
                obtain ⟨q, hq⟩ : ∃ q, q = dueB g nw x := ⟨_, rfl⟩
                have hqd : decide (g ≤ nw - t) = q := by rw [ht, hq]; exact HI.out.due hxm hnw0
                obtain ⟨rb, ro, rfl, hrb, hrc⟩ := row_cells mcF (by omega) HU7.out.sl hx
                have hrB : w6.heap.size ≤ rb := (HU7.out.lt rb rfl).1
                have htg6 : tg < w6.heap.size := by omega
                have r0 : wq.cell? ⟨rb, ro + i * 3, none⟩ = some (.int .i64 d) := (hE.cell (p := ⟨rb, ro + i * 3, none⟩) hrb (fun e => by have e : rb = tg := e; omega)).trans (by rw [← hd]; exact hrc 0 _ rfl)
                have r1 : wq.cell? ⟨rb, ro + i * 3 + 1, none⟩ = some (.int .i64 x.to) := (hE.cell (p := ⟨rb, ro + i * 3 + 1, none⟩) hrb (fun e => by have e : rb = tg := e; omega)).trans (hrc 1 _ rfl)
                have r2 : wq.cell? ⟨rb, ro + i * 3 + 2, none⟩ = some (.string x.text) := (hE.cell (p := ⟨rb, ro + i * 3 + 2, none⟩) hrb (fun e => by have e : rb = tg := e; omega)).trans (hrc 2 _ rfl)
                obtain ⟨tg', htg', _, _, hcd, hfd, _⟩ := own_set hO (j := d) (by omega)
                cases htg'
                have hcd2 : wq.cell? ⟨tg, d, none⟩ = some (.int .i64 t) := hcd.trans (tv_get hTd)
                have ltq : tg < wq.heap.size := by omega
                have ntq : ¬ tg = wq.heap.size := by omega
                obtain ⟨w8, hw8⟩ : ∃ x', x' = wq.alloc (.cells #[.int .i64 d, .int .i64 x.to, .string x.text] 53) := ⟨_, rfl⟩
                have hb8 : Below wq.heap.size wq w8 := by rw [hw8]; exact Bl.new (Below.refl _ _) _
                have HX8 := Lib.hid (show w8.heap[wq.heap.size]? = some (.cells #[.int .i64 d, .int .i64 x.to, .string x.text] 53 (0, 0)) by rw [hw8]; exact heap_new _ _)
                have HO8 := Lib.hid (hO.ext (Ext.ofB hb8) (fun _ _ h => h))
                have HE8 := Lib.hid (hE.trans (Ext.of_below (S := fun q => q = tg) hb8))
                have HW8 := Lib.hid hw8
                have Hm := Lib.hid hm
                have Hx := Lib.hid hx
                have Hxd := Lib.hid hd
                have HQ := Lib.hid hq
                have wsub : IntKind.i64.wrap (nw - t) = nw - t := IntWalk.i64_in _ (by omega)
                have j0 : (0 : Int) ≤ (i : Int) ∧ (i : Int) < (L1.length : Int) := by omega
                have j1 : decide ((d : Int) < 1) = false := decide_eq_false (by omega)
                have j2 : decide ((T1.length : Int) ≤ (d : Int)) = false := decide_eq_false (by omega)
                have j3 : (d : Int) < (T1.length : Int) := by omega
                have hmD : (q = true → m < D) := fun h => by
                  have := (List.getElem?_eq_some_iff.1 (dues_at hx (hq.symm.trans h))).1
                  rw [← hm.out, ← HDD.out] at this
                  exact this
                have hTc : m ≤ i := by rw [hm.out]; exact Nat.le_trans (List.length_filter_le _ _) (by rw [List.length_take]; omega)
                clear hO hE hw8 hb8 hm hx hd hq hrc hcd ht hTd x1 x2 x4 hxm
                go_wp2_with fail
                rw [← HW8.out]
                clear r0 r1 r2 hcd2 hfd ntq
                have hxid := Hxd.out
                have hmE := Hm.out.out
                cases q
                · have hn : dueB g nw x = false := HQ.out.symm
                  have Hsn := Lib.hid (dues_take_no Hx.out hn)
                  have Hun := Lib.hid (show updT g nw T1 (L1.take (i + 1)) = updT g nw T1 (L1.take i) by rw [upd_succ T1 Hx.out]; unfold oneT; rw [hn]; rfl)
                  by_cases hmd : m < D
                  · obtain ⟨y, hy⟩ : ∃ y, (dues g nw L1)[m]? = some y := ⟨_, List.getElem?_eq_getElem (by rw [← HDD.out]; exact hmd)⟩
                    have HE := Lib.hid (show y.id ≠ (d : Int) by rw [← hxid]; exact dues_not HI.out.apart Hx.out hn (by rw [← hmE]; exact hy))
                    obtain ⟨db, do', rfl, hdb, hdc⟩ := row_cells (l := dues g nw L1) mcF (by omega) (by rw [← HDD.out]; exact HV7.out.sl) hy
                    have hdB : wc.heap.size ≤ db := (HV7.out.lt db rfl).1
                    have hdw : ∀ mm, ∀ (j : Nat) (u : Value), (mA y).toList[j]? = some u → (w8.drewN mm).cell? ⟨db, do' + m * 3 + j, none⟩ = some u := fun mm j u hu => (HE8.out.cell (p := ⟨db, do' + m * 3 + j, none⟩) hdb (fun e => by have e : db = tg := e; omega)).trans (hdc j u hu)
                    have HD := Lib.hid hdw
                    clear hdw hdc hy
                    have d4 : decide ((m : Int) < (D : Int)) = true := decide_eq_true (by omega)
                    have j5 : (m : Int) < (D : Int) := by omega
                    clear hmE hxid hn
                    refine Uniform.region_chain (S := (fun W => ∃ m, W = w8.drewN m)) (List.range 14) (by kernel_rfl) (by kernel_rfl) ⟨1, rfl⟩ ?_
                    refine ⟨_, ?_, rfl, Or.inl ⟨by rfl, fun wq2 hSw => Uniform.UStep.value (w' := wq2) ?_ hSw⟩, ?_⟩
                    rotate_left
                    · go_simp
                      rfl
                    simp only [Act.put, List.getElem_toArray, List.getElem_cons_zero, List.getElem_cons_succ, List.setIfInBounds_toArray, List.set_cons_zero, List.set_cons_succ]
                    refine ⟨_, ?_, rfl, Or.inl ⟨by rfl, fun wq2 hSw => Uniform.UStep.value (w' := wq2) ?_ hSw⟩, ?_⟩
                    rotate_left
                    · go_simp
                      rfl
                    simp only [Act.put, List.getElem_toArray, List.getElem_cons_zero, List.getElem_cons_succ, List.setIfInBounds_toArray, List.set_cons_zero, List.set_cons_succ]
                    refine ⟨_, ?_, rfl, Or.inl ⟨by rfl, fun wq2 hSw => Uniform.UStep.value (w' := wq2) ?_ hSw⟩, ?_⟩
                    rotate_left
                    · go_simp
                      rfl
                    simp only [Act.put, List.getElem_toArray, List.getElem_cons_zero, List.getElem_cons_succ, List.setIfInBounds_toArray, List.set_cons_zero, List.set_cons_succ]
                    refine ⟨_, ?_, rfl, Or.inl ⟨by rfl, fun wq2 hSw => Uniform.UStep.value (w' := wq2) ?_ hSw⟩, ?_⟩
                    rotate_left
                    · go_simp
                      rfl
                    simp only [Act.put, List.getElem_toArray, List.getElem_cons_zero, List.getElem_cons_succ, List.setIfInBounds_toArray, List.set_cons_zero, List.set_cons_succ]
                    refine ⟨_, ?_, rfl, Or.inl ⟨by rfl, fun wq2 hSw => Uniform.UStep.value (w' := wq2) ?_ hSw⟩, ?_⟩
                    rotate_left
                    · go_simp
                      rfl
                    simp only [Act.put, List.getElem_toArray, List.getElem_cons_zero, List.getElem_cons_succ, List.setIfInBounds_toArray, List.set_cons_zero, List.set_cons_succ]
                    refine ⟨_, ?_, rfl, Or.inl ⟨by rfl, fun wq2 hSw => Uniform.UStep.value (w' := wq2) ?_ hSw⟩, ?_⟩
                    rotate_left
                    · go_simp
                      rfl
                    simp only [Act.put, List.getElem_toArray, List.getElem_cons_zero, List.getElem_cons_succ, List.setIfInBounds_toArray, List.set_cons_zero, List.set_cons_succ]
                    refine ⟨_, ?_, rfl, Or.inl ⟨by rfl, fun wq2 hSw => Uniform.UStep.value (w' := wq2) ?_ hSw⟩, ?_⟩
                    rotate_left
                    · go_simp
                      rfl
                    simp only [Act.put, List.getElem_toArray, List.getElem_cons_zero, List.getElem_cons_succ, List.setIfInBounds_toArray, List.set_cons_zero, List.set_cons_succ]
                    refine ⟨_, ?_, rfl, Or.inl ⟨by rfl, fun wq2 hSw => Uniform.UStep.value (w' := wq2) ?_ hSw⟩, ?_⟩
                    rotate_left
                    · go_simp
                      rfl
                    simp only [Act.put, List.getElem_toArray, List.getElem_cons_zero, List.getElem_cons_succ, List.setIfInBounds_toArray, List.set_cons_zero, List.set_cons_succ]
                    refine ⟨_, ?_, rfl, Or.inl ⟨by rfl, fun wq2 hSw => Uniform.UStep.value (w' := wq2) ?_ hSw⟩, ?_⟩
                    rotate_left
                    · go_simp
                      rfl
                    simp only [Act.put, List.getElem_toArray, List.getElem_cons_zero, List.getElem_cons_succ, List.setIfInBounds_toArray, List.set_cons_zero, List.set_cons_succ]
                    refine ⟨_, _, rfl, Or.inl ⟨by rfl, fun wq2 hSw => Uniform.UStep.value (w' := wq2) (exec_load_rowO 53 _ rfl db (do' + m * 3) rfl (mA y) (by obtain ⟨mm, rfl⟩ := hSw; exact HD.out mm) Try.underlying53 rfl (by kernel_rfl)) hSw⟩, ?_⟩
                    simp only [Act.put, List.getElem_toArray, List.getElem_cons_zero, List.getElem_cons_succ, List.setIfInBounds_toArray, List.set_cons_zero, List.set_cons_succ]
                    refine ⟨_, _, rfl, Or.inl ⟨by rfl, fun wq2 hSw => Uniform.UStep.value (w' := wq2) (exec_load_row 53 _ rfl wq.heap.size rfl (by obtain ⟨mm, rfl⟩ := hSw; exact HX8.out) Try.underlying53 rfl (by kernel_rfl)) hSw⟩, ?_⟩
                    simp only [Act.put, List.getElem_toArray, List.getElem_cons_zero, List.getElem_cons_succ, List.setIfInBounds_toArray, List.set_cons_zero, List.set_cons_succ]
                    refine ⟨_, .bool false, rfl, Or.inl ⟨by rfl, fun wq2 hSw => Uniform.UStep.value (w' := wq2) ?_ hSw⟩, ?_⟩
                    · unfold mA
                      go_simp
                      first | done | simp [Hid.out HE]
                    simp only [Act.put, List.getElem_toArray, List.getElem_cons_zero, List.getElem_cons_succ, List.setIfInBounds_toArray, List.set_cons_zero, List.set_cons_succ]
                    refine ⟨_, ?_, rfl, Or.inl ⟨by rfl, fun wq2 hSw => Uniform.UStep.value (w' := wq2) ?_ hSw⟩, ?_⟩
                    rotate_left
                    · go_simp
                      rfl
                    simp only [Act.put, List.getElem_toArray, List.getElem_cons_zero, List.getElem_cons_succ, List.setIfInBounds_toArray, List.set_cons_zero, List.set_cons_succ]
                    refine ⟨_, ?_, rfl, Or.inl ⟨by rfl, fun wq2 hSw => Uniform.UStep.value (w' := wq2) ?_ hSw⟩, ?_⟩
                    rotate_left
                    · go_simp
                      rfl
                    simp only [Act.put, List.getElem_toArray, List.getElem_cons_zero, List.getElem_cons_succ, List.setIfInBounds_toArray, List.set_cons_zero, List.set_cons_succ]
                    intro wz hSz
                    obtain ⟨mz, rfl⟩ := hSz
                    go_wp2
                    go_roundw
                    case rel => exact ⟨i + 1, m, by go_num, rfl, by omega, Lib.hid (by rw [Hsn.out]; exact Hm.out.out), by rw [Hun.out]; exact HO8.out, HE8.out.drewN mz⟩
                    case measure => simp [intOf]; omega
                  · have d4 : decide ((m : Int) < (D : Int)) = false := decide_eq_false (by omega)
                    clear hmE hxid hn
                    refine Uniform.region_chain (S := (fun W => ∃ m, W = w8.drewN m)) (List.range 14) (by kernel_rfl) (by kernel_rfl) ⟨1, rfl⟩ ?_
                    refine ⟨_, ?_, rfl, Or.inl ⟨by rfl, fun wq2 hSw => Uniform.UStep.value (w' := wq2) ?_ hSw⟩, ?_⟩
                    rotate_left
                    · go_simp
                      rfl
                    simp only [Act.put, List.getElem_toArray, List.getElem_cons_zero, List.getElem_cons_succ, List.setIfInBounds_toArray, List.set_cons_zero, List.set_cons_succ]
                    refine ⟨_, ?_, rfl, Or.inl ⟨by rfl, fun wq2 hSw => Uniform.UStep.value (w' := wq2) ?_ hSw⟩, ?_⟩
                    rotate_left
                    · go_simp
                      rfl
                    simp only [Act.put, List.getElem_toArray, List.getElem_cons_zero, List.getElem_cons_succ, List.setIfInBounds_toArray, List.set_cons_zero, List.set_cons_succ]
                    refine ⟨_, ?_, rfl, Or.inl ⟨by rfl, fun wq2 hSw => Uniform.UStep.value (w' := wq2) ?_ hSw⟩, ?_⟩
                    rotate_left
                    · go_simp
                      rfl
                    simp only [Act.put, List.getElem_toArray, List.getElem_cons_zero, List.getElem_cons_succ, List.setIfInBounds_toArray, List.set_cons_zero, List.set_cons_succ]
                    refine ⟨_, ?_, rfl, Or.inl ⟨by rfl, fun wq2 hSw => Uniform.UStep.value (w' := wq2) ?_ hSw⟩, ?_⟩
                    rotate_left
                    · go_simp
                      rfl
                    simp only [Act.put, List.getElem_toArray, List.getElem_cons_zero, List.getElem_cons_succ, List.setIfInBounds_toArray, List.set_cons_zero, List.set_cons_succ]
                    refine ⟨_, ?_, rfl, Or.inl ⟨by rfl, fun wq2 hSw => Uniform.UStep.value (w' := wq2) ?_ hSw⟩, ?_⟩
                    rotate_left
                    · go_simp
                      rfl
                    simp only [Act.put, List.getElem_toArray, List.getElem_cons_zero, List.getElem_cons_succ, List.setIfInBounds_toArray, List.set_cons_zero, List.set_cons_succ]
                    refine ⟨_, ?_, rfl, Or.inl ⟨by rfl, fun wq2 hSw => Uniform.UStep.value (w' := wq2) ?_ hSw⟩, ?_⟩
                    rotate_left
                    · go_simp
                      rfl
                    simp only [Act.put, List.getElem_toArray, List.getElem_cons_zero, List.getElem_cons_succ, List.setIfInBounds_toArray, List.set_cons_zero, List.set_cons_succ]
                    refine ⟨_, undef, rfl, Or.inr ⟨by rfl, rfl⟩, ?_⟩
                    simp only [Act.put, List.getElem_toArray, List.getElem_cons_zero, List.getElem_cons_succ, List.setIfInBounds_toArray, List.set_cons_zero, List.set_cons_succ]
                    refine ⟨_, undef, rfl, Or.inr ⟨by rfl, rfl⟩, ?_⟩
                    simp only [Act.put, List.getElem_toArray, List.getElem_cons_zero, List.getElem_cons_succ, List.setIfInBounds_toArray, List.set_cons_zero, List.set_cons_succ]
                    refine ⟨_, undef, rfl, Or.inr ⟨by rfl, rfl⟩, ?_⟩
                    simp only [Act.put, List.getElem_toArray, List.getElem_cons_zero, List.getElem_cons_succ, List.setIfInBounds_toArray, List.set_cons_zero, List.set_cons_succ]
                    refine ⟨_, undef, rfl, Or.inr ⟨by rfl, rfl⟩, ?_⟩
                    simp only [Act.put, List.getElem_toArray, List.getElem_cons_zero, List.getElem_cons_succ, List.setIfInBounds_toArray, List.set_cons_zero, List.set_cons_succ]
                    refine ⟨_, undef, rfl, Or.inr ⟨by rfl, rfl⟩, ?_⟩
                    simp only [Act.put, List.getElem_toArray, List.getElem_cons_zero, List.getElem_cons_succ, List.setIfInBounds_toArray, List.set_cons_zero, List.set_cons_succ]
                    refine ⟨_, undef, rfl, Or.inr ⟨by rfl, rfl⟩, ?_⟩
                    simp only [Act.put, List.getElem_toArray, List.getElem_cons_zero, List.getElem_cons_succ, List.setIfInBounds_toArray, List.set_cons_zero, List.set_cons_succ]
                    refine ⟨_, ?_, rfl, Or.inl ⟨by rfl, fun wq2 hSw => Uniform.UStep.value (w' := wq2) ?_ hSw⟩, ?_⟩
                    rotate_left
                    · go_simp
                      rfl
                    simp only [Act.put, List.getElem_toArray, List.getElem_cons_zero, List.getElem_cons_succ, List.setIfInBounds_toArray, List.set_cons_zero, List.set_cons_succ]
                    refine ⟨_, ?_, rfl, Or.inl ⟨by rfl, fun wq2 hSw => Uniform.UStep.value (w' := wq2) ?_ hSw⟩, ?_⟩
                    rotate_left
                    · go_simp
                      rfl
                    simp only [Act.put, List.getElem_toArray, List.getElem_cons_zero, List.getElem_cons_succ, List.setIfInBounds_toArray, List.set_cons_zero, List.set_cons_succ]
                    intro wz hSz
                    obtain ⟨mz, rfl⟩ := hSz
                    go_wp2
                    go_roundw
                    case rel => exact ⟨i + 1, m, by go_num, rfl, by omega, Lib.hid (by rw [Hsn.out]; exact Hm.out.out), by rw [Hun.out]; exact HO8.out, HE8.out.drewN mz⟩
                    case measure => simp [intOf]; omega
                · have hn : dueB g nw x = true := HQ.out.symm
                  have hmd := hmD rfl
                  have Hsn := Lib.hid (dues_take_yes Hx.out hn)
                  have Hun := Lib.hid (show updT g nw T1 (L1.take (i + 1)) = (updT g nw T1 (L1.take i)).set d nw by rw [upd_succ T1 Hx.out]; unfold oneT; rw [hn, hxid]; rfl)
                  obtain ⟨y, hyx⟩ : ∃ y, y = x := ⟨_, rfl⟩
                  have hy : (dues g nw L1)[m]? = some y := by rw [hmE, hyx]; exact dues_at Hx.out hn
                  have HE := Lib.hid (show y.id = (d : Int) ∧ y.to = x.to ∧ y.text = x.text by rw [hyx]; exact ⟨hxid, rfl, rfl⟩)
                  obtain ⟨db, do', rfl, hdb, hdc⟩ := row_cells (l := dues g nw L1) mcF (by omega) (by rw [← HDD.out]; exact HV7.out.sl) hy
                  have hdB : wc.heap.size ≤ db := (HV7.out.lt db rfl).1
                  have hdw : ∀ mm, ∀ (j : Nat) (u : Value), (mA y).toList[j]? = some u → (w8.drewN mm).cell? ⟨db, do' + m * 3 + j, none⟩ = some u := fun mm j u hu => (HE8.out.cell (p := ⟨db, do' + m * 3 + j, none⟩) hdb (fun e => by have e : db = tg := e; omega)).trans (hdc j u hu)
                  have HD := Lib.hid hdw
                  clear hdw hdc hy
                  have d4 : decide ((m : Int) < (D : Int)) = true := decide_eq_true (by omega)
                  have j5 : (m : Int) < (D : Int) := by omega
                  clear hmE hxid hn hyx
                  refine Uniform.region_chain (S := (fun W => ∃ m, W = w8.drewN m)) (List.range 14) (by kernel_rfl) (by kernel_rfl) ⟨1, rfl⟩ ?_
                  refine ⟨_, ?_, rfl, Or.inl ⟨by rfl, fun wq2 hSw => Uniform.UStep.value (w' := wq2) ?_ hSw⟩, ?_⟩
                  rotate_left
                  · go_simp
                    rfl
                  simp only [Act.put, List.getElem_toArray, List.getElem_cons_zero, List.getElem_cons_succ, List.setIfInBounds_toArray, List.set_cons_zero, List.set_cons_succ]
                  refine ⟨_, ?_, rfl, Or.inl ⟨by rfl, fun wq2 hSw => Uniform.UStep.value (w' := wq2) ?_ hSw⟩, ?_⟩
                  rotate_left
                  · go_simp
                    rfl
                  simp only [Act.put, List.getElem_toArray, List.getElem_cons_zero, List.getElem_cons_succ, List.setIfInBounds_toArray, List.set_cons_zero, List.set_cons_succ]
                  refine ⟨_, ?_, rfl, Or.inl ⟨by rfl, fun wq2 hSw => Uniform.UStep.value (w' := wq2) ?_ hSw⟩, ?_⟩
                  rotate_left
                  · go_simp
                    rfl
                  simp only [Act.put, List.getElem_toArray, List.getElem_cons_zero, List.getElem_cons_succ, List.setIfInBounds_toArray, List.set_cons_zero, List.set_cons_succ]
                  refine ⟨_, ?_, rfl, Or.inl ⟨by rfl, fun wq2 hSw => Uniform.UStep.value (w' := wq2) ?_ hSw⟩, ?_⟩
                  rotate_left
                  · go_simp
                    rfl
                  simp only [Act.put, List.getElem_toArray, List.getElem_cons_zero, List.getElem_cons_succ, List.setIfInBounds_toArray, List.set_cons_zero, List.set_cons_succ]
                  refine ⟨_, ?_, rfl, Or.inl ⟨by rfl, fun wq2 hSw => Uniform.UStep.value (w' := wq2) ?_ hSw⟩, ?_⟩
                  rotate_left
                  · go_simp
                    rfl
                  simp only [Act.put, List.getElem_toArray, List.getElem_cons_zero, List.getElem_cons_succ, List.setIfInBounds_toArray, List.set_cons_zero, List.set_cons_succ]
                  refine ⟨_, ?_, rfl, Or.inl ⟨by rfl, fun wq2 hSw => Uniform.UStep.value (w' := wq2) ?_ hSw⟩, ?_⟩
                  rotate_left
                  · go_simp
                    rfl
                  simp only [Act.put, List.getElem_toArray, List.getElem_cons_zero, List.getElem_cons_succ, List.setIfInBounds_toArray, List.set_cons_zero, List.set_cons_succ]
                  refine ⟨_, ?_, rfl, Or.inl ⟨by rfl, fun wq2 hSw => Uniform.UStep.value (w' := wq2) ?_ hSw⟩, ?_⟩
                  rotate_left
                  · go_simp
                    rfl
                  simp only [Act.put, List.getElem_toArray, List.getElem_cons_zero, List.getElem_cons_succ, List.setIfInBounds_toArray, List.set_cons_zero, List.set_cons_succ]
                  refine ⟨_, ?_, rfl, Or.inl ⟨by rfl, fun wq2 hSw => Uniform.UStep.value (w' := wq2) ?_ hSw⟩, ?_⟩
                  rotate_left
                  · go_simp
                    rfl
                  simp only [Act.put, List.getElem_toArray, List.getElem_cons_zero, List.getElem_cons_succ, List.setIfInBounds_toArray, List.set_cons_zero, List.set_cons_succ]
                  refine ⟨_, ?_, rfl, Or.inl ⟨by rfl, fun wq2 hSw => Uniform.UStep.value (w' := wq2) ?_ hSw⟩, ?_⟩
                  rotate_left
                  · go_simp
                    rfl
                  simp only [Act.put, List.getElem_toArray, List.getElem_cons_zero, List.getElem_cons_succ, List.setIfInBounds_toArray, List.set_cons_zero, List.set_cons_succ]
                  refine ⟨_, _, rfl, Or.inl ⟨by rfl, fun wq2 hSw => Uniform.UStep.value (w' := wq2) (exec_load_rowO 53 _ rfl db (do' + m * 3) rfl (mA y) (by obtain ⟨mm, rfl⟩ := hSw; exact HD.out mm) Try.underlying53 rfl (by kernel_rfl)) hSw⟩, ?_⟩
                  simp only [Act.put, List.getElem_toArray, List.getElem_cons_zero, List.getElem_cons_succ, List.setIfInBounds_toArray, List.set_cons_zero, List.set_cons_succ]
                  refine ⟨_, _, rfl, Or.inl ⟨by rfl, fun wq2 hSw => Uniform.UStep.value (w' := wq2) (exec_load_row 53 _ rfl wq.heap.size rfl (by obtain ⟨mm, rfl⟩ := hSw; exact HX8.out) Try.underlying53 rfl (by kernel_rfl)) hSw⟩, ?_⟩
                  simp only [Act.put, List.getElem_toArray, List.getElem_cons_zero, List.getElem_cons_succ, List.setIfInBounds_toArray, List.set_cons_zero, List.set_cons_succ]
                  refine ⟨_, .bool true, rfl, Or.inl ⟨by rfl, fun wq2 hSw => Uniform.UStep.value (w' := wq2) ?_ hSw⟩, ?_⟩
                  · unfold mA
                    go_simp
                    first | done | simp [Hid.out HE]
                  simp only [Act.put, List.getElem_toArray, List.getElem_cons_zero, List.getElem_cons_succ, List.setIfInBounds_toArray, List.set_cons_zero, List.set_cons_succ]
                  refine ⟨_, ?_, rfl, Or.inl ⟨by rfl, fun wq2 hSw => Uniform.UStep.value (w' := wq2) ?_ hSw⟩, ?_⟩
                  rotate_left
                  · go_simp
                    rfl
                  simp only [Act.put, List.getElem_toArray, List.getElem_cons_zero, List.getElem_cons_succ, List.setIfInBounds_toArray, List.set_cons_zero, List.set_cons_succ]
                  refine ⟨_, ?_, rfl, Or.inl ⟨by rfl, fun wq2 hSw => Uniform.UStep.value (w' := wq2) ?_ hSw⟩, ?_⟩
                  rotate_left
                  · go_simp
                    rfl
                  simp only [Act.put, List.getElem_toArray, List.getElem_cons_zero, List.getElem_cons_succ, List.setIfInBounds_toArray, List.set_cons_zero, List.set_cons_succ]
                  intro wz hSz
                  obtain ⟨mz, rfl⟩ := hSz
                  obtain ⟨tg2, htg2, _, _, hcd8, hfd8, hset⟩ := own_set HO8.out (j := d) (by omega)
                  cases htg2
                  obtain ⟨u0, hu0⟩ : ∃ u0, (tv (updT g nw T1 (L1.take i)))[d]? = some u0 := ⟨_, List.getElem?_eq_getElem (by rw [tv_len, upd_len]; exact hdT)⟩
                  rw [hu0] at hcd8
                  have HST := Lib.hid hset
                  obtain ⟨c8, f8⟩ := row_facts HX8.out
                  have wat : IntKind.i64.wrap ((m : Int) + 1) = (m : Int) + 1 := IntWalk.i64_in _ (by omega)
                  clear hset hu0
                  go_wp2
                  go_roundw
                  case rel => exact ⟨i + 1, m + 1, by go_num, by go_num, by omega, Lib.hid (by rw [Hsn.out, List.length_append, ← Hm.out.out]; rfl), by rw [Hun.out, ← tv_set]; exact HST.out _, (HE8.out.drewN mz).setCell (p := ⟨tg, d, none⟩) (.inl rfl) _⟩
                  case measure => simp [intOf]; omega
              · obtain rfl : i = L1.length := by omega
                have hm' := hm.out
                rw [List.take_length] at hm' hO
                rw [← HDD.out] at hm'
                subst hm'
                have HE := Lib.hid hE
                have HOF := Lib.hid hO
                have HNP := Lib.hid (post_ext HP7.out hE (fun e => by have := H3.out.pB; omega) (fun e => by have := H3.out.cB; omega))
                have HNB := Lib.hid (Bl.ext HB7.out hE (fun q hq e => by have := H3.out.cW; have := H3.out.cB; omega))
                clear hO hE hm
                by_cases hs2 : 200 ≤ s
                · have d2 : decide (200 ≤ s) = true := decide_eq_true hs2
                  have hTpos : (T1.length : Int) ≠ 0 := by have := H3.out.len; have := H3.out.l0; omega
                  have s2 : IntKind.i64.wrap s = s := IntWalk.i64_in _ (by omega)
                  have hm0 : 0 ≤ s % (T1.length : Int) ∧ s % (T1.length : Int) < (T1.length : Int) := ⟨Int.emod_nonneg _ hTpos, Int.emod_lt_of_pos _ (by omega)⟩
                  have hTs : (T1.length : Int) ≤ 1000 := by have := H3.out.len; omega
                  have s3 : IntKind.i64.wrap (s % (T1.length : Int)) = s % (T1.length : Int) := IntWalk.i64_in _ (by omega)
                  go_wp2_with fail
                  refine (Done_q _ HNP.out).mono ?_
                  rintro e w9 ⟨y, rfl, hP9, hE9⟩
                  have HP9 := Lib.hid hP9
                  have HE9 := Lib.hid hE9
                  clear hP9 hE9
                  go_wp2
                  go_roundw
                  case rel => exact ⟨k + 1, nw, last1, lost1, _, updT g nw T1 L1, _, rfl, rfl, by go_num, by omega, ⟨HP9.out, by rw [upd_len]; exact HOF.out.ext HE9.out (fun q hq e => by have := (HOF.out.lt q hq).1; have := H3.out.cB; omega), Bl.ext HNB.out HE9.out (fun q hq e => by have := H3.out.cW; omega), (HI.out.touch hnw0).done _, by rw [upd_len]; exact H3.out.len, H3.out.cW, H3.out.pW, H3.out.cB, H3.out.pB, by have := H3.out.Bw; have := HE9.out.size; omega, H3.out.l0, H3.out.o0, hnw0⟩, by omega, by omega, by omega⟩
                  case measure => simp [intOf]; omega
                · have d2 : decide (200 ≤ s) = false := decide_eq_false hs2
                  go_wp2
                  go_roundw
                  case rel => exact ⟨k + 1, nw, last1, lost1, _, updT g nw T1 L1, _, rfl, rfl, by go_num, by omega, ⟨HNP.out, by rw [upd_len]; exact HOF.out, HNB.out, HI.out.touch hnw0, by rw [upd_len]; exact H3.out.len, H3.out.cW, H3.out.pW, H3.out.cB, H3.out.pB, by have := H3.out.Bw; omega, H3.out.l0, H3.out.o0, hnw0⟩, by omega, by omega, by omega⟩
                  case measure => simp [intOf]; omega
      · obtain rfl : k = S.length := by omega
        have hbe := h2.bel
        have HBE := Lib.hid hbe
        clear h2 hbe
        go_wp2
        go_ret
        exact ⟨rfl, HBE.out⟩

end Go.Proofs.Ytadnldnmefhlcaa.PoV
