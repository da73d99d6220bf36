/-
  WHAT IS PROVED: the program's sums: the words of a block. Condition: the block has 64 bytes.
-/
import Derived.Test.YtfodloepkgkilaaDoorShaT
import Derived.Test.YtfodloepkgkilaaDoorUniform
import Derived.StillTailTactics
namespace Go.Proofs.YtfodloepkgkilaaDoor.ShaW
open Go Go.RowKit Go.Proofs.YtfodloepkgkilaaDoor Go.Proofs.YtfodloepkgkilaaDoor.U32 Go.Proofs.YtfodloepkgkilaaDoor.ShaS Go.Proofs.YtfodloepkgkilaaDoor.ShaT Go.Proofs.YtfodloepkgkilaaDoor.Steps
set_option linter.unusedVariables false
set_option linter.unusedSimpArgs false
attribute [local go_sem high] b_add b_xor b_or b_and un_not b_shr3 b_shr10

/-- Words as cells. -/
def wV (l : List UInt32) : List Value := l.map V
theorem wV_length (l : List UInt32) : (wV l).length = l.length := by simp [wV]
/-- Some words, and zeros behind them. -/
def part (n : Nat) (l : List UInt32) : Array Value := (wV (l ++ List.replicate (n - l.length) 0)).toArray
theorem part_size {n : Nat} {l : List UInt32} (h : l.length ≤ n) : (part n l).size = n := by simp [part, wV]; omega
theorem part_get {n : Nat} {l : List UInt32} {i : Nat} (h : i < l.length) : (part n l)[i]? = some (V (l.getD i 0)) := by
  simp only [part, wV, List.getElem?_toArray, List.getElem?_map]
  rw [List.getElem?_append_left h, List.getElem?_eq_getElem h, List.getD_eq_getElem?_getD, List.getElem?_eq_getElem h]
  rfl
theorem part_set {n : Nat} {l : List UInt32} (h : l.length < n) (x : UInt32) : (part n l).setIfInBounds l.length (V x) = part n (l ++ [x]) := by
  unfold part wV
  rw [List.setIfInBounds_toArray]
  congr 1
  have e : n - l.length = (n - (l ++ [x]).length) + 1 := by simp; omega
  rw [e, List.replicate_succ]
  simp only [List.map_append, List.map_cons, List.append_assoc, List.singleton_append]
  rw [List.set_append_right _ _ (by simp)]
  simp
theorem part_full {n : Nat} {l : List UInt32} (h : l.length = n) : part n l = (wV l).toArray := by
  unfold part
  rw [h, Nat.sub_self]
  simp
theorem wV_one (l : List UInt32) : (wV l).toArray.all (·.oneCell') = true := by
  simp [wV, Value.oneCell']
theorem part_rest {n : Nat} {l : List UInt32} {i : Nat} (h : l.length ≤ i) (hn : i < n) : (part n l)[i]? = some (V 0) := by
  simp only [part, wV, List.getElem?_toArray, List.getElem?_map]
  rw [List.getElem?_append_right h, List.getElem?_replicate, if_pos (by omega)]
  rfl
theorem part_zero (n : Nat) : part n [] = Array.replicate n (V 0) := by
  simp [part, wV]

theorem word4_bits {a b c d : Nat} (ha : a < 256) (hb : b < 256) (hc : c < 256) (hd : d < 256) :
    bits .or .u32 (bits .or .u32 (bits .or .u32 ((a : Int) * 16777216) ((b : Int) * 65536)) ((c : Int) * 256)) (d : Int) = ((a * 16777216 + b * 65536 + c * 256 + d : Nat) : Int) := by
  have e1 : a * 16777216 ||| b * 65536 = a * 16777216 + b * 65536 := by
    have := Nat.two_pow_add_eq_or_of_lt (i := 24) (b := b * 65536) (by omega) a
    rw [Nat.mul_comm a]
    exact this.symm
  have e2 : (a * 16777216 + b * 65536) ||| c * 256 = a * 16777216 + b * 65536 + c * 256 := by
    have := Nat.two_pow_add_eq_or_of_lt (i := 16) (b := c * 256) (by omega) (a * 256 + b)
    rw [show a * 16777216 + b * 65536 = 2 ^ 16 * (a * 256 + b) by omega]
    exact this.symm
  have e3 : (a * 16777216 + b * 65536 + c * 256) ||| d = a * 16777216 + b * 65536 + c * 256 + d := by
    have := Nat.two_pow_add_eq_or_of_lt (i := 8) (b := d) (by omega) (a * 65536 + b * 256 + c)
    rw [show a * 16777216 + b * 65536 + c * 256 = 2 ^ 8 * (a * 65536 + b * 256 + c) by omega]
    exact this.symm
  have h1 := u32_or_nat (a * 16777216) (b * 65536) (by omega) (by omega)
  have h2 := u32_or_nat (a * 16777216 + b * 65536) (c * 256) (by omega) (by omega)
  have h3 := u32_or_nat (a * 16777216 + b * 65536 + c * 256) d (by omega) (by omega)
  rw [e1] at h1
  rw [e2] at h2
  rw [e3] at h3
  rw [show (a : Int) * 16777216 = ((a * 16777216 : Nat) : Int) by omega, show (b : Int) * 65536 = ((b * 65536 : Nat) : Int) by omega, show (c : Int) * 256 = ((c * 256 : Nat) : Int) by omega, h1, h2, h3]

set_option maxRecDepth 100000 in
set_option maxHeartbeats 4000000 in
theorem words_ok (w : World) (v : Value) (b : List UInt8) (hb : b.length = 64) (hv : Sl w v 1 64 (byV b)) :
    Calls Tryd.prog 114 #[v] w fun e w' => e = .returned (.agg (wV (ShaS.words b)).toArray) ∧ Below w.heap.size w w' := by
  obtain ⟨a, cap, rfl, hcap, hm⟩ := hv.form
  obtain ⟨B, off, rfl, hBl, hcell⟩ := hv.plain (by rw [byV_length]; omega)
  have hcell' : ∀ j, j < 64 → w.cell? ⟨B, off + j, none⟩ = some (.int .u8 ((b.getD j 0).toNat : Int)) := by
    intro j hj
    refine hcell j _ ?_
    unfold byV
    rw [List.getElem?_map, List.getElem?_eq_getElem (by omega), List.getD_eq_getElem?_getD, List.getElem?_eq_getElem (by omega)]
    rfl
  have Hcell := Lib.hid hcell'
  have hcap' : (64 : Nat) ≤ cap := hcap
  clear hv hcell hcell'
  obtain ⟨W0, hW0⟩ : ∃ W0, W0 = (w.alloc (.cells #[.int .u32 0, .int .u32 0, .int .u32 0, .int .u32 0, .int .u32 0, .int .u32 0, .int .u32 0, .int .u32 0, .int .u32 0, .int .u32 0, .int .u32 0, .int .u32 0, .int .u32 0, .int .u32 0, .int .u32 0, .int .u32 0, .int .u32 0, .int .u32 0, .int .u32 0, .int .u32 0, .int .u32 0, .int .u32 0, .int .u32 0, .int .u32 0, .int .u32 0, .int .u32 0, .int .u32 0, .int .u32 0, .int .u32 0, .int .u32 0, .int .u32 0, .int .u32 0, .int .u32 0, .int .u32 0, .int .u32 0, .int .u32 0, .int .u32 0, .int .u32 0, .int .u32 0, .int .u32 0, .int .u32 0, .int .u32 0, .int .u32 0, .int .u32 0, .int .u32 0, .int .u32 0, .int .u32 0, .int .u32 0, .int .u32 0, .int .u32 0, .int .u32 0, .int .u32 0, .int .u32 0, .int .u32 0, .int .u32 0, .int .u32 0, .int .u32 0, .int .u32 0, .int .u32 0, .int .u32 0, .int .u32 0, .int .u32 0, .int .u32 0, .int .u32 0] 89)).alloc (.cells #[.int .u32 0, .int .u32 0, .int .u32 0, .int .u32 0, .int .u32 0, .int .u32 0, .int .u32 0, .int .u32 0, .int .u32 0, .int .u32 0, .int .u32 0, .int .u32 0, .int .u32 0, .int .u32 0, .int .u32 0, .int .u32 0, .int .u32 0, .int .u32 0, .int .u32 0, .int .u32 0, .int .u32 0, .int .u32 0, .int .u32 0, .int .u32 0, .int .u32 0, .int .u32 0, .int .u32 0, .int .u32 0, .int .u32 0, .int .u32 0, .int .u32 0, .int .u32 0, .int .u32 0, .int .u32 0, .int .u32 0, .int .u32 0, .int .u32 0, .int .u32 0, .int .u32 0, .int .u32 0, .int .u32 0, .int .u32 0, .int .u32 0, .int .u32 0, .int .u32 0, .int .u32 0, .int .u32 0, .int .u32 0, .int .u32 0, .int .u32 0, .int .u32 0, .int .u32 0, .int .u32 0, .int .u32 0, .int .u32 0, .int .u32 0, .int .u32 0, .int .u32 0, .int .u32 0, .int .u32 0, .int .u32 0, .int .u32 0, .int .u32 0, .int .u32 0] 89) := ⟨_, rfl⟩
  have hz : (#[.int .u32 0, .int .u32 0, .int .u32 0, .int .u32 0, .int .u32 0, .int .u32 0, .int .u32 0, .int .u32 0, .int .u32 0, .int .u32 0, .int .u32 0, .int .u32 0, .int .u32 0, .int .u32 0, .int .u32 0, .int .u32 0, .int .u32 0, .int .u32 0, .int .u32 0, .int .u32 0, .int .u32 0, .int .u32 0, .int .u32 0, .int .u32 0, .int .u32 0, .int .u32 0, .int .u32 0, .int .u32 0, .int .u32 0, .int .u32 0, .int .u32 0, .int .u32 0, .int .u32 0, .int .u32 0, .int .u32 0, .int .u32 0, .int .u32 0, .int .u32 0, .int .u32 0, .int .u32 0, .int .u32 0, .int .u32 0, .int .u32 0, .int .u32 0, .int .u32 0, .int .u32 0, .int .u32 0, .int .u32 0, .int .u32 0, .int .u32 0, .int .u32 0, .int .u32 0, .int .u32 0, .int .u32 0, .int .u32 0, .int .u32 0, .int .u32 0, .int .u32 0, .int .u32 0, .int .u32 0, .int .u32 0, .int .u32 0, .int .u32 0, .int .u32 0] : Array Value) = part 64 [] := by kernel_rfl
  have hB0 : Below w.heap.size w W0 := by rw [hW0]; exact ((Below.refl _ w).alloc (Nat.le_refl _) _).alloc (by simp) _
  have hx0 : W0.heap[w.heap.size]? = some (.cells (part 64 []) 89 (0, 0)) := by rw [hW0, hz]; exact heap_at (heap_new _ _) _
  have hy0 : W0.heap[w.heap.size + 1]? = some (.cells (part 64 []) 89 (0, 0)) := by rw [hW0, hz]; exact heap_new' _ (by simp)
  have HB0 := Lib.hid hB0
  have HW0 := Lib.hid hW0
  clear hB0 hW0 hz
  go_enter Tryd.func114, Tryd.ntmps114
  go_wp2
  go_loopw [10] (fun i wr => ∃ t : Nat, i = .int .i64 t ∧ t ≤ 16 ∧ wr.heap[w.heap.size]? = some (.cells (part 64 []) 89 (0, 0)) ∧ wr.heap[w.heap.size + 1]? = some (.cells (part 64 (wN b t)) 89 (0, 0)) ∧ Below w.heap.size w wr) (fun i _ => 16 - (intOf i).toNat)
  case atStart =>
    rw [← HW0.out]
    exact ⟨0, rfl, by omega, hx0, hy0, HB0.out⟩
  case round =>
    obtain ⟨t, rfl, ht, hx, hy, hb2⟩ := hrel
    clear hx0 hy0
    have hwl := wN_length b t
    have Hx := Lib.hid hx
    have Hy := Lib.hid hy
    have HB := Lib.hid hb2
    have hyl := lt_row hy
    clear hx hb2
    by_cases hlt : t < 16
    · obtain ⟨y0, h0⟩ : ∃ y, y = (b.getD (4 * t) 0).toNat := ⟨_, rfl⟩
      obtain ⟨y1, h1⟩ : ∃ y, y = (b.getD (4 * t + 1) 0).toNat := ⟨_, rfl⟩
      obtain ⟨y2, h2⟩ : ∃ y, y = (b.getD (4 * t + 2) 0).toNat := ⟨_, rfl⟩
      obtain ⟨y3, h3⟩ : ∃ y, y = (b.getD (4 * t + 3) 0).toNat := ⟨_, rfl⟩
      have z0 : y0 < 256 := by rw [h0]; exact UInt8.toNat_lt _
      have z1 : y1 < 256 := by rw [h1]; exact UInt8.toNat_lt _
      have z2 : y2 < 256 := by rw [h2]; exact UInt8.toNat_lt _
      have z3 : y3 < 256 := by rw [h3]; exact UInt8.toNat_lt _
      have c0 : wr.cell? ⟨B, off + 4 * t, none⟩ = some (.int .u8 (y0 : Int)) := by rw [HB.out.cell (p := ⟨B, off + 4 * t, none⟩) hBl, Hcell.out (4 * t) (by omega), h0]
      have c1 : wr.cell? ⟨B, off + (4 * t + 1), none⟩ = some (.int .u8 (y1 : Int)) := by rw [HB.out.cell (p := ⟨B, off + (4 * t + 1), none⟩) hBl, Hcell.out (4 * t + 1) (by omega), h1]
      have c2 : wr.cell? ⟨B, off + (4 * t + 2), none⟩ = some (.int .u8 (y2 : Int)) := by rw [HB.out.cell (p := ⟨B, off + (4 * t + 2), none⟩) hBl, Hcell.out (4 * t + 2) (by omega), h2]
      have c3 : wr.cell? ⟨B, off + (4 * t + 3), none⟩ = some (.int .u8 (y3 : Int)) := by rw [HB.out.cell (p := ⟨B, off + (4 * t + 3), none⟩) hBl, Hcell.out (4 * t + 3) (by omega), h3]
      have cs : wr.cell? ⟨w.heap.size + 1, t, none⟩ = some (.int .u32 (u 0)) := by rw [cell_row hy]; exact part_rest (by omega) (by omega)
      have cf : wr.frozen? ⟨w.heap.size + 1, t, none⟩ = false := frozen_row hy
      have hval : V (word4 (b.getD (4 * t) 0) (b.getD (4 * t + 1) 0) (b.getD (4 * t + 2) 0) (b.getD (4 * t + 3) 0)) = .int .u32 (bits .or .u32 (bits .or .u32 (bits .or .u32 ((y0 : Int) * 16777216) ((y1 : Int) * 65536)) ((y2 : Int) * 256)) (y3 : Int)) := by
        rw [word4_bits z0 z1 z2 z3]
        unfold V u word4
        rw [← h0, ← h1, ← h2, ← h3, UInt32.toNat_ofNat', Nat.mod_eq_of_lt (by omega)]
      have Hval := Lib.hid hval
      clear hy hval h0 h1 h2 h3 hwl
      have v0 : IntKind.i64.wrap (4 * (t : Int)) = 4 * (t : Int) := IntWalk.i64_in _ (by omega)
      have v1 : IntKind.i64.wrap (4 * (t : Int) + 1) = 4 * (t : Int) + 1 := IntWalk.i64_in _ (by omega)
      have v2 : IntKind.i64.wrap (4 * (t : Int) + 2) = 4 * (t : Int) + 2 := IntWalk.i64_in _ (by omega)
      have v3 : IntKind.i64.wrap (4 * (t : Int) + 3) = 4 * (t : Int) + 3 := IntWalk.i64_in _ (by omega)
      have n0 : (4 * (t : Int)).toNat = 4 * t := by omega
      have n1 : (4 * (t : Int) + 1).toNat = 4 * t + 1 := by omega
      have n2 : (4 * (t : Int) + 2).toNat = 4 * t + 2 := by omega
      have n3 : (4 * (t : Int) + 3).toNat = 4 * t + 3 := by omega
      have x0 : IntKind.u32.wrap (y0 : Int) = (y0 : Int) := IntWalk.u32_in _ (by omega)
      have x1 : IntKind.u32.wrap (y1 : Int) = (y1 : Int) := IntWalk.u32_in _ (by omega)
      have x2 : IntKind.u32.wrap (y2 : Int) = (y2 : Int) := IntWalk.u32_in _ (by omega)
      have x3 : IntKind.u32.wrap (y3 : Int) = (y3 : Int) := IntWalk.u32_in _ (by omega)
      have s0 : IntKind.u32.wrap ((y0 : Int) * 16777216) = (y0 : Int) * 16777216 := IntWalk.u32_in _ (by omega)
      have s1 : IntKind.u32.wrap ((y1 : Int) * 65536) = (y1 : Int) * 65536 := IntWalk.u32_in _ (by omega)
      have s2 : IntKind.u32.wrap ((y2 : Int) * 256) = (y2 : Int) * 256 := IntWalk.u32_in _ (by omega)
      have g0 : 0 ≤ 4 * (t : Int) ∧ 4 * (t : Int) < 64 := by omega
      have g1 : 0 ≤ 4 * (t : Int) + 1 ∧ 4 * (t : Int) + 1 < 64 := by omega
      have g2 : 0 ≤ 4 * (t : Int) + 2 ∧ 4 * (t : Int) + 2 < 64 := by omega
      have g3 : 0 ≤ 4 * (t : Int) + 3 ∧ 4 * (t : Int) + 3 < 64 := by omega
      have gt : 0 ≤ (t : Int) ∧ (t : Int) < 64 := by omega
      go_wp2
      go_still_tail 35, (by kernel_rfl)
      clear v0 v1 v2 v3 n0 n1 n2 n3 x0 x1 x2 x3 s0 s1 s2 g0 g1 g2 g3 gt
      go_wp2
      go_roundw
      case rel =>
        refine ⟨t + 1, by go_num, by omega, (heap_setCell_far (w := wr) (b := w.heap.size + 1) (j := t) _ (by omega)).trans Hx.out, ?_, (HB.out.setCell (p := ⟨w.heap.size + 1, t, none⟩) (by simp) _).drew⟩
        rw [wN, if_pos hlt, ← part_set (by rw [wN_length]; omega), Hval.out, wN_length]
        exact heap_setCell_same Hy.out _
      case measure => simp [intOf]; omega
    · obtain rfl : t = 16 := by omega
      clear hlt hwl hy
      go_wp2
      obtain ⟨wo, rfl⟩ : ∃ wo : World, wo = wr := ⟨_, rfl⟩
      rw [show ((16 : Nat) : Int) = 16 from rfl]
      go_loopw [5] (fun i wq => ∃ r : Nat, i = .int .i64 ((r : Int) + 16) ∧ r ≤ 48 ∧ wq.heap[w.heap.size]? = some (.cells (part 64 []) 89 (0, 0)) ∧ wq.heap[w.heap.size + 1]? = some (.cells (part 64 (wN b (r + 16))) 89 (0, 0)) ∧ Below w.heap.size w wq) (fun i _ => 64 - (intOf i).toNat)
      case atStart => exact ⟨0, rfl, by omega, Hx.out, Hy.out, HB.out⟩
      case round =>
        obtain ⟨r, rfl, hr, hx, hy, hb2⟩ := hrel
        have hwl := wN_length b (r + 16)
        have Hx2 := Lib.hid hx
        have Hy2 := Lib.hid hy
        have HB2 := Lib.hid hb2
        have hyl2 := lt_row hy
        clear hx hb2
        by_cases hlt : r < 48
        · obtain ⟨X, hX⟩ : ∃ X, X = (wN b (r + 16)).getD (r + 1) 0 := ⟨_, rfl⟩
          obtain ⟨Y, hY⟩ : ∃ Y, Y = (wN b (r + 16)).getD (r + 14) 0 := ⟨_, rfl⟩
          obtain ⟨A, hA⟩ : ∃ A, A = (wN b (r + 16)).getD r 0 := ⟨_, rfl⟩
          obtain ⟨C, hC⟩ : ∃ C, C = (wN b (r + 16)).getD (r + 9) 0 := ⟨_, rfl⟩
          have c0 : wr.cell? ⟨w.heap.size + 1, r + 1, none⟩ = some (.int .u32 (u X)) := by rw [cell_row hy, part_get (by omega), hX]
          have c1 : wr.cell? ⟨w.heap.size + 1, r + 14, none⟩ = some (.int .u32 (u Y)) := by rw [cell_row hy, part_get (by omega), hY]
          have c2 : wr.cell? ⟨w.heap.size + 1, r, none⟩ = some (.int .u32 (u A)) := by rw [cell_row hy, part_get (by omega), hA]
          have c3 : wr.cell? ⟨w.heap.size + 1, r + 9, none⟩ = some (.int .u32 (u C)) := by rw [cell_row hy, part_get (by omega), hC]
          have cs : wr.cell? ⟨w.heap.size + 1, r + 16, none⟩ = some (.int .u32 (u 0)) := by rw [cell_row hy]; exact part_rest (by omega) (by omega)
          have cf : wr.frozen? ⟨w.heap.size + 1, r + 16, none⟩ = false := frozen_row hy
          have hval : nextW (wN b (r + 16)) (r + 16) = A + (rotr X 7 ^^^ rotr X 18 ^^^ X >>> 3) + C + (rotr Y 17 ^^^ rotr Y 19 ^^^ Y >>> 10) := by
            unfold nextW
            rw [show r + 16 - 15 = r + 1 by omega, show r + 16 - 2 = r + 14 by omega, show r + 16 - 16 = r by omega, show r + 16 - 7 = r + 9 by omega, ← hX, ← hY, ← hA, ← hC]
          have Hval := Lib.hid hval
          clear hy hval hX hY hA hC hwl
          have v0 : IntKind.i64.wrap ((r : Int) + 16 - 15) = (r : Int) + 1 := (IntWalk.i64_in _ (by omega)).trans (by omega)
          have v1 : IntKind.i64.wrap ((r : Int) + 16 - 2) = (r : Int) + 14 := (IntWalk.i64_in _ (by omega)).trans (by omega)
          have v2 : IntKind.i64.wrap ((r : Int) + 16 - 16) = (r : Int) := (IntWalk.i64_in _ (by omega)).trans (by omega)
          have v3 : IntKind.i64.wrap ((r : Int) + 16 - 7) = (r : Int) + 9 := (IntWalk.i64_in _ (by omega)).trans (by omega)
          have v4 : IntKind.i64.wrap (r : Int) = (r : Int) := IntWalk.i64_in _ (by omega)
          have n0 : ((r : Int) + 1).toNat = r + 1 := by omega
          have n2 : ((r : Int)).toNat = r := by omega
          have n1 : ((r : Int) + 14).toNat = r + 14 := by omega
          have n3 : ((r : Int) + 9).toNat = r + 9 := by omega
          have n4 : ((r : Int) + 16).toNat = r + 16 := by omega
          have g0 : 0 ≤ (r : Int) + 1 ∧ (r : Int) + 1 < 64 := by omega
          have g1 : 0 ≤ (r : Int) + 14 ∧ (r : Int) + 14 < 64 := by omega
          have g2 : 0 ≤ (r : Int) ∧ (r : Int) < 64 := by omega
          have g3 : 0 ≤ (r : Int) + 9 ∧ (r : Int) + 9 < 64 := by omega
          have g4 : 0 ≤ (r : Int) + 16 ∧ (r : Int) + 16 < 64 := by omega
          go_wp2
          go_quiet (fail)
          go_wp2_with fail
          refine (turn_7 _ X).mono ?_
          rintro e w' ⟨rfl, rfl⟩
          go_wp2_with fail
          refine (turn_18 _ X).mono ?_
          rintro e w' ⟨rfl, rfl⟩
          go_wp2_with fail
          refine (turn_17 _ Y).mono ?_
          rintro e w' ⟨rfl, rfl⟩
          go_wp2_with fail
          refine (turn_19 _ Y).mono ?_
          rintro e w' ⟨rfl, rfl⟩
          go_wp2
          obtain ⟨wq, hwq⟩ : ∃ wq, wq = wr.drewN nq := ⟨_, rfl⟩
          have d2 : wq.cell? ⟨w.heap.size + 1, r, none⟩ = some (.int .u32 (u A)) := by rw [hwq]; exact c2
          have d3 : wq.cell? ⟨w.heap.size + 1, r + 9, none⟩ = some (.int .u32 (u C)) := by rw [hwq]; exact c3
          have ds : wq.cell? ⟨w.heap.size + 1, r + 16, none⟩ = some (.int .u32 (u 0)) := by rw [hwq]; exact cs
          have df : wq.frozen? ⟨w.heap.size + 1, r + 16, none⟩ = false := by rw [hwq]; exact cf
          have Hx3 : Hid (wq.heap[w.heap.size]? = some (.cells (part 64 []) 89 (0, 0))) := by rw [hwq]; exact Hx2
          have Hy3 : Hid (wq.heap[w.heap.size + 1]? = some (.cells (part 64 (wN b (r + 16))) 89 (0, 0))) := by rw [hwq]; exact Hy2
          have HB3 : Hid (Below w.heap.size w wq) := by rw [hwq]; exact Lib.hid (Bl.drewN HB2.out _)
          rw [← hwq]
          clear hwq c0 c1 c2 c3 cs cf Hx2 Hy2 HB2
          go_still_tail 15, (by kernel_rfl)
          clear v0 v1 v2 v3 v4 n0 n1 n2 n3 g0 g1 g2 g3
          go_wp2
          go_roundw
          case rel =>
            refine ⟨r + 1, by go_num, by omega, (heap_setCell_far (w := wq) (b := w.heap.size + 1) (j := r + 16) _ (by omega)).trans Hx3.out, ?_, (HB3.out.setCell (p := ⟨w.heap.size + 1, r + 16, none⟩) (by simp) _).drew⟩
            rw [show r + 1 + 16 = r + 16 + 1 by omega, wN, if_neg (by omega), Hval.out, ← part_set (by rw [wN_length]; omega), wN_length]
            exact heap_setCell_same Hy3.out _
          case measure => simp [intOf]; omega
        · obtain rfl : r = 48 := by omega
          have hsz : (part 64 (ShaS.words b)).size = 64 := part_size (by rw [words_length]; omega)
          have hy' : wr.heap[w.heap.size + 1]? = some (.cells (part 64 (ShaS.words b)) 89 (0, 0)) := hy
          have hfull : part 64 (ShaS.words b) = (wV (ShaS.words b)).toArray := part_full (words_length b)
          have Hy3 := Lib.hid hy'
          have hi : (Tryd.prog.info? 89).map (·.size) = some 64 := by kernel_rfl
          clear hlt hwl hy hy' Hy2
          generalize hP : part 64 (ShaS.words b) = p at Hy3 hsz hfull
          have hone : p.all (·.oneCell') = true := by rw [hfull]; exact wV_one _
          clear hP
          have Hone := Lib.hid hone
          have Hfull := Lib.hid hfull
          clear hone hfull
          go_wp2_with (first
            | refine wpList_load_row rfl _ _ rfl (w.heap.size + 1) rfl _ p (0, 0) _ Hy3.out Tryd.underlying89 rfl (by rw [hsz]; exact hi) ?_
            | refine wpList_store_row rfl _ _ _ rfl w.heap.size p rfl rfl _ _ Hx2.out (by rw [hsz]; exact hi) (by rw [hsz]; exact part_size (by simp)) Hone.out ?_)
          go_wp2
          refine bodyPost_ret (v := .agg p) (results_cell_row rfl _ _ w.heap.size _ p (0, 0) _ rfl (setRow_at Hx2.out) Tryd.underlying89 rfl (by rw [hsz]; exact hi)) rfl ⟨by rw [Hfull.out], below_row HB2.out (Nat.le_refl _) _⟩

end Go.Proofs.YtfodloepkgkilaaDoor.ShaW
