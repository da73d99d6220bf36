/-
  WHAT IS PROVED: a box of letters is turned: each one is taken out, in order, and put back, if the function that is handed in says so. Condition: the function keeps the box's blocks, as the theorem names them.
-/
import Derived.Test.YtadnldnmefhlcaaPostA
namespace Go.Proofs.Ytadnldnmefhlcaa.PostT
open Go Go.RowKit Go.Conc Go.Proofs.Ytadnldnmefhlcaa Go.Proofs.Ytadnldnmefhlcaa.PostA
set_option linter.unusedVariables false
set_option linter.unusedSimpArgs false

/-- What the channel holds. -/
def vs (l : List Lt) : Array Value := (l.map Lt.v).toArray
theorem vs_size (l : List Lt) : (vs l).size = l.length := by simp [vs]
theorem vs_cons (x : Lt) (l : List Lt) : vs (x :: l) = #[x.v] ++ vs l := by simp [vs]
theorem vs_push (l : List Lt) (x : Lt) : (vs l).push x.v = vs (l ++ [x]) := by simp [vs]

def InBox (w : World) (c cap : Nat) (l : List Lt) : Prop := l.length ≤ cap ∧ ∃ s r, w.heap[c]? = some (.chan cap (vs l) false s r false)

def TurnPost (L : List Lt) (c cap : Nat) (J : List Lt → List Lt → World → Prop) (e : Ending) (W : World) : Prop :=
  ∃ kept : List Lt, e = .returned (.int .i64 ((L.length : Int) - kept.length)) ∧ InBox W c cap kept ∧ kept.length ≤ L.length ∧ J L kept W

set_option maxRecDepth 100000 in
set_option maxHeartbeats 2000000 in
theorem turn_ok (w : World) (c cap : Nat) (L : List Lt) (hL : InBox w c cap L) (hcap : cap ≤ 256) (gf : Nat) (lb : Array Value) (eg : ∀ args w, (callFunc gf args).run Try.prog w = .ok (.enter gf args) w)
    (J : List Lt → List Lt → World → Prop) (h0 : J [] [] w) (hJ : ∀ pre kept W W', J pre kept W → w.heap.size ≤ W.heap.size → Ext (fun k => k = c) W W' → J pre kept W')
    (hclo : ∀ pre kept x W B, J pre kept W → pre ++ [x] <+: L → w.heap.size < B → w.heap.size < W.heap.size → W.heap[B]? = some (.cells x.cs 64 (0, 0)) →
      Calls Try.prog gf (#[.pointer (some ⟨B, 0, none⟩)] ++ lb) W fun e W' => ∃ (stay : Bool) (x' : Lt), e = .returned (.bool stay) ∧ W'.heap[B]? = some (.cells x'.cs 64 (0, 0)) ∧ W'.heap[c]? = W.heap[c]? ∧ W'.heap[w.heap.size]? = W.heap[w.heap.size]? ∧ W.heap.size ≤ W'.heap.size ∧
        J (pre ++ [x]) (if stay then kept ++ [x'] else kept) W') :
    Calls Try.prog 23 #[.agg #[.chan (some c)], .func (.func gf) #[] lb] w (TurnPost L c cap J) := by
  obtain ⟨hlen, s0, r0, hc⟩ := hL
  have hcl := lt_row hc
  obtain ⟨W0, hW0⟩ : ∃ W0, W0 = w.alloc (.cells #[.chan (some c)] 58) := ⟨_, rfl⟩
  have hc0 : W0.heap[c]? = some (.chan cap (vs L) false s0 r0 false) := by rw [hW0]; exact heap_at hc _
  have hb0 : W0.heap[w.heap.size]? = some (.cells #[.chan (some c)] 58 (0, 0)) := by rw [hW0]; exact heap_new _ _
  have hJ0 : J [] [] W0 := hJ _ _ _ _ h0 (Nat.le_refl _) (by rw [hW0]; exact (Ext.refl _ w).alloc _)
  have hz0 := lt_row hb0
  have hrun := run_len_chan (P := Try.prog) (w := W0) 56 3 Try.underlying56 hc0
  rw [vs_size] at hrun
  rw [hW0] at hrun
  have HW0 := Lib.hid hW0
  have HC0 := Lib.hid hc0
  have HJ0 := Lib.hid hJ0
  have HJ := Lib.hid hJ
  have HCLO := Lib.hid hclo
  have HB0 := Lib.hid hb0
  clear hW0 hc0 hJ0 hc h0 hJ hclo hb0
  go_enter Try.func23, Try.ntmps23
  go_wp2
  go_loopw [12] (fun i wr => ∃ (k : Nat) (kept : List Lt), i = .int .i64 k ∧ k ≤ L.length ∧ kept.length ≤ k ∧ (∃ s r, wr.heap[c]? = some (.chan cap (vs (L.drop k ++ kept)) false s r false)) ∧ wr.heap[w.heap.size]? = some (.cells #[.chan (some c)] 58 (0, 0)) ∧ J (L.take k) kept wr)
    (fun i _ => L.length - (intOf i).toNat)
  case atStart =>
    refine ⟨0, [], rfl, by omega, by simp, ⟨s0, r0, ?_⟩, ?_, ?_⟩
    · rw [← HW0.out]; simpa using HC0.out
    · rw [← HW0.out]; exact HB0.out
    · rw [← HW0.out]; simpa using HJ0.out
  case round =>
    obtain ⟨k, kept, rfl, hk, hkk, ⟨s, r, hc⟩, hb, hj⟩ := hrel
    clear hrun
    have hcl' := lt_row hc
    have hbl := lt_row hb
    have hcne : ¬ c = w.heap.size := by omega
    have Hc := Lib.hid hc
    have Hb := Lib.hid hb
    have Hj := Lib.hid hj
    obtain ⟨hcb, hfb⟩ := row_facts hb
    clear hc hb hj
    by_cases hlt : k < L.length
    · obtain ⟨x, hx⟩ : ∃ x, x = L[k] := ⟨_, rfl⟩
      have hd : L.drop k = x :: L.drop (k + 1) := by rw [hx]; exact List.drop_eq_getElem_cons hlt
      have ht : L.take (k + 1) = L.take k ++ [x] := by rw [hx]; exact List.take_succ_eq_append_getElem hlt
      have hch : wr.heap[c]? = some (.chan cap (#[x.v] ++ vs (L.drop (k + 1) ++ kept)) false s r false) := by
        rw [Hc.out, hd, List.cons_append, vs_cons]
      have hpre : L.take k ++ [x] <+: L := by rw [← ht]; exact List.take_prefix _ _
      have Hch := Lib.hid hch
      have Ht := Lib.hid ht
      have Hpre := Lib.hid hpre
      clear hch ht hpre hd hx
      go_wp2_with fail
      refine (pull_some wr c cap s r _ x Hch.out).mono ?_
      rintro e w1 ⟨rfl, hc1, hE1⟩
      have Hc1 := Lib.hid hc1
      have HE1 := Lib.hid hE1
      have hb1 := hE1.blockOf Hb.out (fun h => by omega)
      have hz1 := hE1.size
      have hcl1 := lt_row hc1
      have hbl1 := lt_row hb1
      have Hb1 := Lib.hid hb1
      clear hc1 hE1 hcb hfb
      obtain ⟨hcb, hfb⟩ := row_facts hb1
      clear hb1
      unfold Lt.v Lt.cs
      go_wp2_with fail
      refine (HCLO.out (L.take k) kept x _ w1.heap.size (HJ.out _ _ _ _ Hj.out (by omega) (HE1.out.alloc _)) Hpre.out (by omega) (by simp; omega) (heap_new _ _)).mono ?_
      rintro e w3 ⟨stay, x', rfl, hB3, hc3, hb3, hz3, hj3⟩
      rw [heap_at Hc1.out _] at hc3
      rw [heap_at Hb1.out _] at hb3
      have Hc3 := Lib.hid hc3
      have Hb3 := Lib.hid hb3
      have Hj3 := Lib.hid hj3
      rw [World.size_alloc] at hz3
      unfold Lt.cs at hB3
      have hBl3 := lt_row hB3
      have hbl3 := lt_row hb3
      clear hcb hfb
      obtain ⟨hcb, hfb⟩ := row_facts hb3
      obtain ⟨hcx, hfx⟩ := row_facts hB3
      clear hc3 hb3 hj3 hB3
      cases stay
      · go_wp2
        go_roundw
        case rel =>
          refine ⟨k + 1, kept, by go_num, by omega, by omega, ⟨s, r + 1, Hc3.out⟩, Hb3.out, ?_⟩
          rw [Ht.out]
          simpa using Hj3.out
        case measure => simp [intOf]; omega
      · go_wp2_with fail
        refine (put_room w3 c cap s (r + 1) _ x' Hc3.out ?_).mono ?_
        · rw [vs_size, List.length_append, List.length_drop]
          omega
        rintro e w4 ⟨rfl, hc4, hE4⟩
        have Hc4 := Lib.hid hc4
        have HE4 := Lib.hid hE4
        clear hc4 hE4 hcb hfb hcx hfx
        go_wp2
        go_roundw
        case rel =>
          refine ⟨k + 1, kept ++ [x'], by go_num, by omega, by simp; omega, ⟨s + 1, r + 1, ?_⟩, HE4.out.blockOf Hb3.out (fun h => by omega), ?_⟩
          · rw [Hc4.out, vs_push, List.append_assoc]
          · rw [Ht.out]
            refine HJ.out _ _ _ _ ?_ (by omega) HE4.out
            simpa using Hj3.out
        case measure => simp [intOf]; omega
    · obtain rfl : k = L.length := by omega
      have hc' : wr.heap[c]? = some (.chan cap (vs kept) false s r false) := by
        rw [Hc.out, List.drop_length, List.nil_append]
      have hrun := run_len_chan (P := Try.prog) (w := wr) 56 3 Try.underlying56 hc'
      rw [vs_size] at hrun
      have Hc' := Lib.hid hc'
      clear hc'
      go_wp2
      go_ret
      refine ⟨kept, rfl, ⟨by omega, s, r, Hc'.out⟩, hkk, ?_⟩
      have := Hj.out
      rwa [List.take_length] at this

end Go.Proofs.Ytadnldnmefhlcaa.PostT
