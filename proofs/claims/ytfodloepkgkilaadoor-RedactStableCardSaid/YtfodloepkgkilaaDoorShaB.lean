/-
  WHAT IS PROVED: the program's sums: a sum's bytes. No condition beside those that the theorem names.
-/
import Derived.Test.YtfodloepkgkilaaDoorShaA
import Derived.Test.YtfodloepkgkilaaDoorOctP
namespace Go.Proofs.YtfodloepkgkilaaDoor.ShaB
open Go Go.RowKit Go.Proofs.YtfodloepkgkilaaDoor Go.Proofs.YtfodloepkgkilaaDoor.U32 Go.Proofs.YtfodloepkgkilaaDoor.ShaS Go.Proofs.YtfodloepkgkilaaDoor.ShaW Go.Proofs.YtfodloepkgkilaaDoor.ShaA Go.Proofs.YtfodloepkgkilaaDoor.Steps
set_option linter.unusedVariables false
set_option linter.unusedSimpArgs false

/-- Some bytes, and zeros behind them. -/
def pB (n : Nat) (l : List UInt8) : Array Value := (byV (l ++ List.replicate (n - l.length) 0)).toArray
theorem pB_size {n : Nat} {l : List UInt8} (h : l.length ≤ n) : (pB n l).size = n := by simp [pB, byV]; omega
theorem pB_rest {n : Nat} {l : List UInt8} {i : Nat} (h : l.length ≤ i) (hn : i < n) : (pB n l)[i]? = some (.int .u8 0) := by
  simp only [pB, byV, List.getElem?_toArray, List.getElem?_map]
  rw [List.getElem?_append_right h, List.getElem?_replicate, if_pos (by omega)]
  rfl
theorem pB_set {n : Nat} {l : List UInt8} (h : l.length < n) (x : UInt8) : (pB n l).setIfInBounds l.length (.int .u8 (x.toNat : Int)) = pB n (l ++ [x]) := by
  unfold pB byV
  rw [List.setIfInBounds_toArray]
  congr 1
  have e : n - l.length = (n - (l ++ [x]).length) + 1 := by simp; omega
  rw [e, List.replicate_succ]
  simp only [List.map_append, List.map_cons, List.append_assoc, List.singleton_append]
  rw [List.set_append_right _ _ (by simp)]
  simp
theorem pB_full {n : Nat} {l : List UInt8} (h : l.length = n) : pB n l = (byV l).toArray := by
  unfold pB
  rw [h, Nat.sub_self]
  simp
theorem pB_one (n : Nat) (l : List UInt8) : (pB n l).all (·.oneCell') = true := by simp [pB, byV, Value.oneCell']
theorem byte_of (x : UInt32) (d : Nat) : u x / (d : Int) % 256 = ((UInt8.ofNat (x.toNat / d)).toNat : Int) := by
  have h : (UInt8.ofNat (x.toNat / d)).toNat = x.toNat / d % 256 := rfl
  rw [h, u, Int.natCast_emod, Int.natCast_ediv]
  rfl
theorem flat_be {y : List UInt32} {t : Nat} (ht : t < y.length) : (y.take (t + 1)).flatMap be = (((((y.take t).flatMap be ++ [UInt8.ofNat ((y.getD t 0).toNat / 16777216)]) ++ [UInt8.ofNat ((y.getD t 0).toNat / 65536)]) ++ [UInt8.ofNat ((y.getD t 0).toNat / 256)]) ++ [UInt8.ofNat (y.getD t 0).toNat]) := by
  rw [List.take_succ_eq_append_getElem ht, List.flatMap_append, List.getD_eq_getElem?_getD, List.getElem?_eq_getElem ht]
  simp [be]
theorem len_be : ∀ (l : List UInt32), (l.flatMap be).length = 4 * l.length
  | [] => rfl
  | a :: l => by rw [List.flatMap_cons, List.length_append, len_be l, List.length_cons]; simp only [be, List.length_cons, List.length_nil]; omega

theorem set4 {w : World} {g n m : Nat} {l : List UInt8} {t : TypeId} (h : w.heap[g]? = some (.cells (pB n l) t (0, 0))) (hl : l.length + 4 ≤ n) (hm : l.length = m) (b0 b1 b2 b3 : UInt8) :
    ((((w.setCell ⟨g, m, none⟩ (.int .u8 (b0.toNat : Int))).setCell ⟨g, m + 1, none⟩ (.int .u8 (b1.toNat : Int))).setCell ⟨g, m + 2, none⟩ (.int .u8 (b2.toNat : Int))).setCell ⟨g, m + 3, none⟩ (.int .u8 (b3.toNat : Int))).heap[g]? = some (.cells (pB n ((((l ++ [b0]) ++ [b1]) ++ [b2]) ++ [b3])) t (0, 0)) := by
  subst hm
  rw [← pB_set (l := ((l ++ [b0]) ++ [b1]) ++ [b2]) (by simp; omega), ← pB_set (l := (l ++ [b0]) ++ [b1]) (by simp; omega), ← pB_set (l := l ++ [b0]) (by simp; omega), ← pB_set (l := l) (by omega)]
  have e1 : (l ++ [b0]).length = l.length + 1 := by simp
  have e2 : ((l ++ [b0]) ++ [b1]).length = l.length + 2 := by simp
  have e3 : (((l ++ [b0]) ++ [b1]) ++ [b2]).length = l.length + 3 := by simp
  rw [e1, e2, e3]
  exact heap_setCell_same (heap_setCell_same (heap_setCell_same (heap_setCell_same h _) _) _) _

set_option maxRecDepth 100000 in
set_option maxHeartbeats 4000000 in
theorem bytes_ok (w : World) (vb : Nat) (y : List UInt32) (hy8 : y.length = 8) (hvb : w.heap[vb]? = some (.cells (wV y).toArray 118 (0, 0))) :
    Calls Tryd.prog 97 #[.pointer (some ⟨vb, 0, none⟩)] w fun e w' => e = .returned (.agg (byV (y.flatMap be)).toArray) ∧ Below w.heap.size w w' := by
  have hvl := lt_row hvb
  have Hvb := Lib.hid hvb
  obtain ⟨W0, hW0⟩ : ∃ W0, W0 = (w.alloc (.cells #[.int .u8 0, .int .u8 0, .int .u8 0, .int .u8 0, .int .u8 0, .int .u8 0, .int .u8 0, .int .u8 0, .int .u8 0, .int .u8 0, .int .u8 0, .int .u8 0, .int .u8 0, .int .u8 0, .int .u8 0, .int .u8 0, .int .u8 0, .int .u8 0, .int .u8 0, .int .u8 0, .int .u8 0, .int .u8 0, .int .u8 0, .int .u8 0, .int .u8 0, .int .u8 0, .int .u8 0, .int .u8 0, .int .u8 0, .int .u8 0, .int .u8 0, .int .u8 0] 38)).alloc (.cells #[.int .u8 0, .int .u8 0, .int .u8 0, .int .u8 0, .int .u8 0, .int .u8 0, .int .u8 0, .int .u8 0, .int .u8 0, .int .u8 0, .int .u8 0, .int .u8 0, .int .u8 0, .int .u8 0, .int .u8 0, .int .u8 0, .int .u8 0, .int .u8 0, .int .u8 0, .int .u8 0, .int .u8 0, .int .u8 0, .int .u8 0, .int .u8 0, .int .u8 0, .int .u8 0, .int .u8 0, .int .u8 0, .int .u8 0, .int .u8 0, .int .u8 0, .int .u8 0] 38) := ⟨_, rfl⟩
  have hz : (#[.int .u8 0, .int .u8 0, .int .u8 0, .int .u8 0, .int .u8 0, .int .u8 0, .int .u8 0, .int .u8 0, .int .u8 0, .int .u8 0, .int .u8 0, .int .u8 0, .int .u8 0, .int .u8 0, .int .u8 0, .int .u8 0, .int .u8 0, .int .u8 0, .int .u8 0, .int .u8 0, .int .u8 0, .int .u8 0, .int .u8 0, .int .u8 0, .int .u8 0, .int .u8 0, .int .u8 0, .int .u8 0, .int .u8 0, .int .u8 0, .int .u8 0, .int .u8 0] : Array Value) = pB 32 [] := by kernel_rfl
  have hB0 : Below w.heap.size w W0 := by rw [hW0]; exact ((Below.refl _ w).alloc (Nat.le_refl _) _).alloc (by simp) _
  have hx0 : W0.heap[w.heap.size]? = some (.cells (pB 32 []) 38 (0, 0)) := by rw [hW0, hz]; exact heap_at (heap_new _ _) _
  have hy0 : W0.heap[w.heap.size + 1]? = some (.cells (pB 32 []) 38 (0, 0)) := by rw [hW0, hz]; exact heap_new' _ (by simp)
  have HB0 := Lib.hid hB0
  have HW0 := Lib.hid hW0
  have hi : (Tryd.prog.info? 38).map (·.size) = some 32 := by kernel_rfl
  have Hi := Lib.hid hi
  clear hB0 hW0 hz hvb hi
  go_enter Tryd.func97, Tryd.ntmps97
  go_wp2
  go_loopw [7] (fun i wr => ∃ t : Nat, i = .int .i64 t ∧ t ≤ 8 ∧ wr.heap[w.heap.size]? = some (.cells (pB 32 []) 38 (0, 0)) ∧ wr.heap[w.heap.size + 1]? = some (.cells (pB 32 ((y.take t).flatMap be)) 38 (0, 0)) ∧ Below w.heap.size w wr) (fun i _ => 8 - (intOf i).toNat)
  case atStart =>
    rw [← HW0.out]
    exact ⟨0, rfl, by omega, hx0, hy0, HB0.out⟩
  case round =>
    obtain ⟨t, rfl, ht, hx, hy, hb2⟩ := hrel
    clear hx0 hy0
    have hll : ((y.take t).flatMap be).length = 4 * t := by rw [len_be, List.length_take, hy8]; omega
    have hvv := (hb2.block _ hvl).trans Hvb.out
    have Hx := Lib.hid hx
    have Hy := Lib.hid hy
    have HB := Lib.hid hb2
    have hyl := lt_row hy
    have Hll := Lib.hid hll
    clear hx hb2
    by_cases hlt : t < 8
    · obtain ⟨x, hxx⟩ : ∃ x, x = y.getD t 0 := ⟨_, rfl⟩
      have cv : wr.cell? ⟨vb, t, none⟩ = some (.int .u32 (u x)) := by rw [cell_row hvv, wV_get (by omega), hxx]
      have hflat := flat_be (y := y) (t := t) (by omega)
      rw [← hxx] at hflat
      have Hflat := Lib.hid hflat
      have f0 : wr.frozen? ⟨w.heap.size + 1, 4 * t, none⟩ = false := frozen_row hy
      have f1 : wr.frozen? ⟨w.heap.size + 1, 4 * t + 1, none⟩ = false := frozen_row hy
      have f2 : wr.frozen? ⟨w.heap.size + 1, 4 * t + 2, none⟩ = false := frozen_row hy
      have f3 : wr.frozen? ⟨w.heap.size + 1, 4 * t + 3, none⟩ = false := frozen_row hy
      have c0 : wr.cell? ⟨w.heap.size + 1, 4 * t, none⟩ = some (.int .u8 0) := by rw [cell_row hy]; exact pB_rest (by omega) (by omega)
      have c1 : wr.cell? ⟨w.heap.size + 1, 4 * t + 1, none⟩ = some (.int .u8 0) := by rw [cell_row hy]; exact pB_rest (by omega) (by omega)
      have c2 : wr.cell? ⟨w.heap.size + 1, 4 * t + 2, none⟩ = some (.int .u8 0) := by rw [cell_row hy]; exact pB_rest (by omega) (by omega)
      have c3 : wr.cell? ⟨w.heap.size + 1, 4 * t + 3, none⟩ = some (.int .u8 0) := by rw [cell_row hy]; exact pB_rest (by omega) (by omega)
      have k0 := byte_of x 16777216
      have k1 := byte_of x 65536
      have k2 := byte_of x 256
      have K0 := Lib.hid k0
      have K1 := Lib.hid k1
      have K2 := Lib.hid k2
      have hu0 := u_ge x
      have hu1 := u_lt x
      have K3 : Hid (u x % 256 = ((UInt8.ofNat x.toNat).toNat : Int)) := by
        refine Lib.hid ?_
        have : (UInt8.ofNat x.toNat).toNat = x.toNat % 256 := rfl
        rw [this]
        unfold u
        omega
      have K0' : Hid (u x / 16777216 = ((UInt8.ofNat (x.toNat / 16777216)).toNat : Int)) := by
        refine Lib.hid ?_
        have this : u x / 16777216 % 256 = ((UInt8.ofNat (x.toNat / 16777216)).toNat : Int) := K0.out
        rw [← this]
        omega
      have g2 : 0 ≤ (t : Int) ∧ (t : Int) < 8 := by omega
      have n2 : (t : Int).toNat = t := by omega
      clear hy hvv hxx hflat hll k0 k1 k2
      go_wp2
      go_quiet (fail)
      clear g2 n2
      go_wp2
      go_roundw
      case rel =>
        refine ⟨t + 1, by go_num, by omega, ?_, ?_, ?_⟩
        · exact (heap_setCell_far _ (by omega)).trans ((heap_setCell_far _ (by omega)).trans ((heap_setCell_far _ (by omega)).trans ((heap_setCell_far _ (by omega)).trans Hx.out)))
        · rw [Hflat.out]
          have e1 : u x / 65536 % 256 = ((UInt8.ofNat (x.toNat / 65536)).toNat : Int) := K1.out
          have e2 : u x / 256 % 256 = ((UInt8.ofNat (x.toNat / 256)).toNat : Int) := K2.out
          rw [K0'.out, e1, e2, K3.out]
          exact set4 (w := wr.drewN nq) Hy.out (by rw [Hll.out]; omega) Hll.out _ _ _ _
        · exact ((((Bl.drewN HB.out nq).setCell (p := ⟨w.heap.size + 1, 4 * t, none⟩) (by simp) _).setCell (p := ⟨w.heap.size + 1, 4 * t + 1, none⟩) (by simp) _).setCell (p := ⟨w.heap.size + 1, 4 * t + 2, none⟩) (by simp) _).setCell (p := ⟨w.heap.size + 1, 4 * t + 3, none⟩) (by simp) _
      case measure => simp [intOf]; omega
    · obtain rfl : t = 8 := by omega
      have hfull : pB 32 ((y.take 8).flatMap be) = (byV (y.flatMap be)).toArray := by
        rw [pB_full (by rw [hll]), List.take_of_length_le (by omega)]
      have hsz : (pB 32 ((y.take 8).flatMap be)).size = 32 := pB_size (by omega)
      have hone := pB_one 32 ((y.take 8).flatMap be)
      generalize pB 32 ((y.take 8).flatMap be) = p at Hy hsz hfull hone
      have Hone := Lib.hid hone
      have Hfull := Lib.hid hfull
      clear hy hvv hll Hll hone hfull
      go_wp2_with (first
        | refine wpList_load_row rfl _ _ rfl (w.heap.size + 1) rfl _ p (0, 0) _ Hy.out Tryd.underlying38 rfl (by rw [hsz]; exact Hi.out) ?_
        | refine wpList_store_row rfl _ _ _ rfl w.heap.size p rfl rfl _ _ Hx.out (by rw [hsz]; exact Hi.out) (by rw [hsz]; exact pB_size (by simp)) Hone.out ?_)
      go_wp2
      refine bodyPost_ret (v := .agg p) (results_cell_row rfl _ _ w.heap.size _ p (0, 0) _ rfl (setRow_at Hx.out) Tryd.underlying38 rfl (by rw [hsz]; exact Hi.out)) rfl ⟨by rw [Hfull.out], below_row HB.out (Nat.le_refl _) _⟩

end Go.Proofs.YtfodloepkgkilaaDoor.ShaB
