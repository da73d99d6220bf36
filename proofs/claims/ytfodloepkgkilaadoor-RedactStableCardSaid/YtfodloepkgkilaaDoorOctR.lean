/-
  WHAT IS PROVED: what the program's octet package reads by a loop over an iterator: the texts of a list. No condition beside those that each theorem names.
-/
import Derived.Test.YtfodloepkgkilaaDoorOctQ
import Derived.RangeFuncNested
import Derived.RangeFuncBound
import Derived.RangeFuncCalls
import Derived.RangeFuncLeaves
import Derived.RangeFuncBox
import Derived.Shelf.Abstract
import Derived.Shelf.RegionOpen
import Derived.OwnWalkIn
import Derived.TacticsInMore
import Derived.LoopNIn
import Derived.LoopIn
namespace Go.Proofs.YtfodloepkgkilaaDoor.OctR
open Go Go.RowKit Go.Shelf Go.Proofs.YtfodloepkgkilaaDoor Go.Proofs.YtfodloepkgkilaaDoor.OctetS Go.Proofs.YtfodloepkgkilaaDoor.OctP Go.Proofs.YtfodloepkgkilaaDoor.OctQ
set_option linter.unusedVariables false
set_option linter.unusedSimpArgs false
attribute [local go_sem] Oper.semAt_some

/-- A text that was read, how far it was read by then, and why no farther. -/
abbrev Reading := List UInt8 × Nat × Int
def rds : Nat → Nat → List UInt8 → List Reading
  | 0, _, _ => []
  | m + 1, p, s => ((getText (s.drop p)).1, p + (getText (s.drop p)).2.1, (getText (s.drop p)).2.2) :: if (getText (s.drop p)).2.2 ≠ 0 then [] else rds m (p + (getText (s.drop p)).2.1) s
def encR (x : Reading) : Array Value := #[.string (bsOf x.1), .agg #[.int .i64 x.2.1, .int .i64 x.2.2]]

theorem texts_ok (w : World) (s : ByteArray) (n : Nat) :
    Calls Tryd.prog 116 #[.string s, .int .u64 n] w fun e w' => e = .returned (.func (.func 131) #[] #[.pointer (some ⟨w.heap.size + 1, 0, none⟩), .pointer (some ⟨w.heap.size, 0, none⟩)]) ∧ (w.alloc (.cells #[.string s] 9)).alloc (.cells #[.int .u64 n] 76) = w' := by
  go_enter Tryd.func116, Tryd.ntmps116
  go_wp2
  go_ret
  exact ⟨rfl, rfl⟩

theorem GetText_at (w : World) (s : ByteArray) (hs : s.size ≤ maxLen) {t : List UInt8} {u : Nat} {y : Int} (hg : getText (bl s) = (t, u, y)) :
    Calls Tryd.prog 132 #[.string s] w fun e w' => e = .returned (.tuple #[.string (bsOf t), .int .i64 u, .int .i64 y]) ∧ w = w' := by
  have := GetText_ok w s hs
  rw [hg] at this
  exact this

/-- What the iterator has kept: its two boxes. -/
def KeepB (Bs Bn : Nat) (W W' : World) : Prop := W'.heap[Bs]? = W.heap[Bs]? ∧ W'.heap[Bn]? = W.heap[Bn]?
theorem KeepB.refl (Bs Bn : Nat) (W : World) : KeepB Bs Bn W W := ⟨rfl, rfl⟩
theorem KeepB.trans {Bs Bn : Nat} {A B C : World} (h : KeepB Bs Bn A B) (k : KeepB Bs Bn B C) : KeepB Bs Bn A C := ⟨k.1.trans h.1, k.2.trans h.2⟩
theorem KeepB.boxS {Bs Bn : Nat} {A B : World} {t : TypeId} {v : Value} (h : KeepB Bs Bn A B) (k : Boxed A Bs t v) : Boxed B Bs t v := h.1.trans k
theorem KeepB.boxN {Bs Bn : Nat} {A B : World} {t : TypeId} {v : Value} (h : KeepB Bs Bn A B) (k : Boxed A Bn t v) : Boxed B Bn t v := h.2.trans k

set_option maxRecDepth 100000 in
set_option maxHeartbeats 2000000 in
theorem iter_in (d : Nat) (hd : 1 ≤ d) (l Bs Bn : Nat) (s : ByteArray) (n : Nat) (hs : s.size ≤ maxLen) (hn : n ≤ 256) (J Jx : List Reading → World → Prop)
    (hY : ∀ pre x W, J pre W → pre.length < n → YieldAt Fence.wide (d - 1) Tryd.prog l (encR x) W fun e W' =>
      (e = .returned (.bool true) ∧ J (pre ++ [x]) W' ∧ KeepB Bs Bn W W') ∨ (e = .returned (.bool false) ∧ Jx (pre ++ [x]) W'))
    (W : World) (hBs : Boxed W Bs 9 (.string s)) (hBn : Boxed W Bn 76 (.int .u64 n)) (h0 : J [] W) :
    CallsIn Fence.wide d Tryd.prog 131 #[.func (.yield l) #[] #[], .pointer (some ⟨Bn, 0, none⟩), .pointer (some ⟨Bs, 0, none⟩)] W fun e W' => (∃ v, e = .returned v) ∧
      ((∃ ys, ys = rds n 0 (bl s) ∧ J ys W') ∨ (∃ pre, pre <+: rds n 0 (bl s) ∧ Jx pre W')) := by
  have hs' := hs
  unfold maxLen at hs'
  have hcn := hBn.cell
  refine callsIn_of_wp Tryd.func131 rfl trivial ?_ rfl
  simp only [Tryd.ntmps131, List.size_toArray, List.length_cons, List.length_nil, Nat.reduceAdd, Nat.reduceSub, Array.replicate_succ, Array.replicate_zero, List.push_toArray, List.append_toArray, List.nil_append, List.cons_append]
  gi_wp2
  gi_loopw [4, 9] (fun p i wr => ∃ (k q : Nat) (pre : List Reading), p = .int .i64 q ∧ i = .int .u64 k ∧ k ≤ n ∧ pre.length = k ∧ rds n 0 (bl s) = pre ++ rds (n - k) q (bl s) ∧ q ≤ s.size ∧ Boxed wr Bs 9 (.string s) ∧ Boxed wr Bn 76 (.int .u64 n) ∧ J pre wr)
    (fun _ i _ => n - (intOf i).toNat)
  case atStart => exact ⟨0, 0, [], rfl, rfl, by omega, rfl, rfl, by omega, hBs, hBn, h0⟩
  case round =>
    obtain ⟨k, q, pre, rfl, rfl, hk, hpl, hrd, hq, bS, bN, hJ⟩ := hrel
    clear hBs hBn hcn h0
    have hcs := bS.cell
    have Hrd := Lib.hid hrd
    have Hpl := Lib.hid hpl
    clear hrd
    by_cases hlt : k < n
    · obtain ⟨t, u, y, hg⟩ : ∃ t u y, getText ((bl s).drop q) = (t, u, y) := ⟨_, _, _, rfl⟩
      have hgx : getText (bl (s.extract q s.size)) = (t, u, y) := by
        rw [bl_extract, List.take_of_length_le (by rw [List.length_drop, bl_length]; omega)]
        exact hg
      have hux : (s.extract q s.size).size ≤ maxLen := by rw [ByteArray.size_extract]; unfold maxLen; omega
      have Hux := Lib.hid hux
      have hrd2 : rds (n - k) q (bl s) = (t, q + u, y) :: if y ≠ 0 then [] else rds (n - (k + 1)) (q + u) (bl s) := by
        rw [show n - k = (n - (k + 1)) + 1 by omega, rds, hg]
      have Hrd2 := Lib.hid hrd2
      obtain ⟨fn, tmps, assign, body, hy, hR⟩ := hY pre (t, q + u, y) wr hJ (by omega)
      simp only [encR, Int.natCast_add] at hy
      have HR := Lib.hid hR
      have hw : y = 0 ∧ u ≤ s.size - q ∨ (y = 5 ∨ y = 6 ∨ y = 7) ∧ u = 0 := by
        rcases getText_why ((bl s).drop q) with h | ⟨y', h, hy'⟩
        · rw [hg] at h
          simp only at h
          subst h
          obtain ⟨_, h2, _⟩ := getText_ok hg
          rw [List.length_drop, bl_length] at h2
          exact .inl ⟨rfl, h2⟩
        · rw [hg] at h
          simp only [Prod.mk.injEq] at h
          obtain ⟨_, rfl, rfl⟩ := h
          exact .inr ⟨hy', rfl⟩
      have Hg := Lib.hid hgx
      clear hg hgx hrd2 hR hux hpl
      rcases hw with ⟨rfl, hu⟩ | ⟨hy3, rfl⟩
      · gi_wp2_with (refine ⟨trivial, ?_⟩; gi_at_call 132; refine (callsIn_wide.2 (GetText_at _ _ Hux.out Hg.out)).mono ?_; rintro e w' ⟨rfl, rfl⟩)
        refine HR.out.mono ?_
        rintro e W3 (⟨rfl, hJ3, hk3⟩ | ⟨rfl, hJx3⟩)
        · gi_wp2
          go_roundw
          case rel => exact ⟨k + 1, q + u, pre ++ [(t, q + u, 0)], by go_num, by go_num, by omega, by rw [List.length_append, Hpl.out]; rfl, by rw [Hrd.out, Hrd2.out]; simp, by omega, hk3.boxS bS, hk3.boxN bN, hJ3⟩
          case measure => simp [intOf]; omega
        · gi_wp2
          refine bodyPost_ret (results_none rfl _ _ _) rfl ?_
          exact ⟨⟨_, rfl⟩, .inr ⟨pre ++ [(t, q + u, 0)], ⟨_, by rw [Hrd.out, Hrd2.out, List.append_assoc]; rfl⟩, hJx3⟩⟩
      · have hb : (y != 0) = true := by rw [bne_iff_ne]; omega
        have hy0 : y ≠ 0 := by omega
        rw [if_pos hy0] at Hrd2
        rw [show ((0 : Nat) : Int) = 0 from rfl, Int.add_zero] at hy
        clear hy0
        gi_wp2_with (refine ⟨trivial, ?_⟩; gi_at_call 132; refine (callsIn_wide.2 (GetText_at _ _ Hux.out Hg.out)).mono ?_; rintro e w' ⟨rfl, rfl⟩)
        refine HR.out.mono ?_
        rintro e W3 (⟨rfl, hJ3, hk3⟩ | ⟨rfl, hJx3⟩)
        all_goals
          gi_wp2
          refine bodyPost_ret (results_none rfl _ _ _) rfl ?_
        · exact ⟨⟨_, rfl⟩, .inl ⟨_, by rw [Hrd.out, Hrd2.out], hJ3⟩⟩
        · exact ⟨⟨_, rfl⟩, .inr ⟨_, by rw [Hrd.out, Hrd2.out]; exact List.prefix_refl _, hJx3⟩⟩
    · obtain rfl : k = n := by omega
      gi_wp2
      go_end0
      exact ⟨⟨_, rfl⟩, .inl ⟨pre, by rw [Hrd.out, Nat.sub_self, rds, List.append_nil], hJ⟩⟩

theorem seq_stops (d : Nat) (hd : 1 ≤ d) (Bs Bn : Nat) (s : ByteArray) (n : Nat) (hs : s.size ≤ maxLen) (hn : n ≤ 256) (w : World) (hBs : Boxed w Bs 9 (.string s)) (hBn : Boxed w Bn 76 (.int .u64 n)) :
    SeqStopsK Fence.wide d Tryd.prog 131 #[.pointer (some ⟨Bn, 0, none⟩), .pointer (some ⟨Bs, 0, none⟩)] encR (KeepB Bs Bn) (fun ys => ys = rds n 0 (bl s)) (fun pre => pre <+: rds n 0 (bl s)) n w := fun l J Jx W hW _ _ hY h0 =>
  iter_in d hd l Bs Bn s n hs hn J Jx hY W ((hW.block Bs hBs.lt).trans hBs) ((hW.block Bn hBn.lt).trans hBn) h0

end Go.Proofs.YtfodloepkgkilaaDoor.OctR
