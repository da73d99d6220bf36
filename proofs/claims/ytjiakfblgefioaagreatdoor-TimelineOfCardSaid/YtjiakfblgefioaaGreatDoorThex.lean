/-
  WHAT IS PROVED: what the program's digits of a sum are. Condition: the sum has 32 bytes.
-/
import Derived.Test.YtjiakfblgefioaaGreatDoorTline
namespace Go.Proofs.YtjiakfblgefioaaGreatDoor.Thex
open Go Go.RowKit Go.Proofs.YtjiakfblgefioaaGreatDoor Go.Proofs.YtjiakfblgefioaaGreatDoor.OctetS Go.Proofs.YtjiakfblgefioaaGreatDoor.OctP Go.Proofs.YtjiakfblgefioaaGreatDoor.IdentP Go.Proofs.YtjiakfblgefioaaGreatDoor.EventP Go.Proofs.YtjiakfblgefioaaGreatDoor.ShaS Go.Proofs.YtjiakfblgefioaaGreatDoor.ShaA Go.Proofs.YtjiakfblgefioaaGreatDoor.ShaB Go.Proofs.YtjiakfblgefioaaGreatDoor.Steps Go.Proofs.YtjiakfblgefioaaGreatDoor.RedA Go.Proofs.YtjiakfblgefioaaGreatDoor.Tline
set_option linter.unusedVariables false
set_option linter.unusedSimpArgs false

theorem pB_get {l : List UInt8} (h : l.length = 32) {k : Nat} (hk : k < 32) : (pB 32 l)[k]? = some (.int .u8 ((l.getD k 0).toNat : Int)) := by
  rw [pB_full h]
  unfold byV
  rw [List.getElem?_toArray, List.getElem?_map, List.getD_eq_getElem?_getD, List.getElem?_eq_getElem (by omega)]
  rfl
theorem idx_hash (w : World) {l : List UInt8} (h : l.length = 32) {k : Nat} (hk : k < 32) : (Instr.index 60 (.agg (pB 32 l)) (.int .i64 k)).run Tryz.prog w = .ok (.int .u8 ((l.getD k 0).toNat : Int)) w := by
  have hu : Tryz.prog.underlying 60 = some (.array 32 5) := by kernel_rfl
  have hp : Tryz.prog.plainKey 5 = true := by kernel_rfl
  have hs : ∀ w, (sizeOf 5).run Tryz.prog w = .ok 1 w := fun w => by kernel_rfl
  have h1 := run_part_plain w hp (off := k * 1) (by rw [Nat.mul_one]; exact pB_get h hk)
  have hb : (0 : Int) ≤ (k : Int) ∧ (k : Int) < 32 := by omega
  simp only [Nat.mul_one] at h1
  have g := pB_get h hk
  simp only [List.getD_eq_getElem?_getD] at g
  simp [Instr.index, asIntOf, run_underlying hu, hb, hs, h1, go_sem, hk, g]
def hexS : ByteArray := ⟨#[48, 49, 50, 51, 52, 53, 54, 55, 56, 57, 97, 98, 99, 100, 101, 102]⟩
theorem hexS_at : ∀ n : Fin 16, hexS[n.val]'(n.isLt) = digitU n.val := by decide
theorem idx_dig (w : World) {n : Nat} (h : n < 16) : (Instr.index 9 (.string ⟨#[48, 49, 50, 51, 52, 53, 54, 55, 56, 57, 97, 98, 99, 100, 101, 102]⟩) (.int .u8 (n : Int))).run Tryz.prog w = .ok (.int .u8 ((digitU n).toNat : Int)) w := by
  have hb : (0 : Int) ≤ (n : Int) ∧ (n : Int) < ((hexS.size : Nat) : Int) := ⟨by omega, by show (n : Int) < 16; omega⟩
  have := run_index_string (P := Tryz.prog) w 9 hexS .u8 (n : Int) Tryz.underlying9
  rw [dif_pos hb] at this
  have e : hexS[(n : Int).toNat]'(by have := hb.2; omega) = digitU n := hexS_at ⟨n, h⟩
  rw [e] at this
  exact this

theorem hex_take (l : List UInt8) (k : Nat) (h : k < l.length) : hex (l.take (k + 1)) = hex (l.take k) ++ [digitU ((l.getD k 0).toNat / 16), digitU ((l.getD k 0).toNat % 16)] := by
  rw [List.take_succ_eq_append_getElem h, List.getD_eq_getElem?_getD, List.getElem?_eq_getElem h]
  unfold hex
  rw [List.flatMap_append]
  simp
theorem hex_len (l : List UInt8) : (hex l).length = 2 * l.length := by
  unfold hex
  induction l with
  | nil => rfl
  | cons a r ih => rw [List.flatMap_cons, List.length_append, ih]; simp; omega

theorem src2 {B : Nat} {w : World} {x y : Value} (h : w.heap[B]? = some (.cells #[x, y] 5 (0, 0))) (hx : x.oneCell' = true := by rfl) (hy : y.oneCell' = true := by rfl) : Src Tryz.prog 1 91 (.slice (some ⟨B, 0, none⟩) 2 2) 2 [x, y] w :=
  Src.ofSlice _ Tryz.underlying91 _ _ _ _ rfl (fun j u hu => by rw [Addr.add_mid, Nat.zero_add, cell_row h, ← hu]; simp) (by intro u hu; simp at hu; rcases hu with rfl | rfl; exact hx; exact hy)

theorem and15 : ∀ a : Fin 256, (a.val &&& 15) = a.val % 16 := by decide +kernel
theorem bits_and15 (c : UInt8) : bits .and .u8 ((c.toNat : Int)) 15 = (c.toNat : Int) % 16 := by
  have h := u8_and_nat c.toNat 15 c.toNat_lt (by omega)
  show bits .and .u8 ((c.toNat : Nat) : Int) ((15 : Nat) : Int) = _
  rw [h]
  have h2 := and15 ⟨c.toNat, c.toNat_lt⟩
  simp only at h2
  rw [h2]
  omega

attribute [-go_sem] Builtin.append_
set_option maxRecDepth 100000 in
set_option maxHeartbeats 2000000 in
theorem Hex_ok (w : World) (l : List UInt8) (hl : l.length = 32) :
    Calls Tryz.prog 33 #[.agg (pB 32 l)] w (RB (.string (bsOf (hex l))) w) := by
  have hi : (Tryz.prog.info? 60).map (·.size) = some 32 := by kernel_rfl
  obtain ⟨p, hp⟩ : ∃ p, p = pB 32 l := ⟨_, rfl⟩
  have hps : p.size = 32 := by rw [hp]; exact pB_size (by omega)
  have hix := fun w (k : Nat) (hk : k < 32) => idx_hash w hl hk
  rw [← hp] at hix ⊢
  have Hi := Lib.hid hi
  have Hix := Lib.hid hix
  have Hps := Lib.hid hps
  have HL := Lib.hid hl
  have hb0 := heap_new w (.cells p 60)
  have HB0 := Lib.hid hb0
  have hl1 := lt_row hb0
  clear hi hix hps hp hb0
  go_enter Tryz.func33, Tryz.ntmps33
  go_wp2_with (refine wpList_load_row rfl _ _ rfl w.heap.size rfl _ p (0, 0) _ HB0.out Tryz.underlying60 rfl (by rw [Hps.out]; exact Hi.out) ?_)
  go_loopw [3, 7] (fun b i wr => ∃ (v : Value) (k : Nat), b = v ∧ i = .int .i64 k ∧ k ≤ 32 ∧ Acc w wr v (hex (l.take k))) (fun _ i _ => 32 - (intOf i).toNat)
  case atStart => exact ⟨_, 0, rfl, rfl, by omega, ⟨Ow.nil _ _ _ _, (Below.refl _ _).alloc (Nat.le_refl _) _⟩⟩
  case round =>
    obtain ⟨v, k, rfl, rfl, hk, hA⟩ := hrel
    by_cases hlt : k < 32
    · have hx := Hix.out wr k hlt
      have hst := hex_take l k (by rw [HL.out]; exact hlt)
      have hln : (hex (l.take k)).length ≤ 64 := by rw [hex_len, List.length_take]; omega
      obtain ⟨c, hc⟩ : ∃ c, c = l.getD k 0 := ⟨_, rfl⟩
      rw [← hc] at hx hst
      obtain ⟨T, hT⟩ : ∃ T, T = hex (l.take k) := ⟨_, rfl⟩
      rw [← hT] at hA hst hln
      have HA := Lib.hid hA
      have Hst := Lib.hid hst
      have b15 := bits_and15 c
      have c1 : (c.toNat : Int) < 256 := by have := c.toNat_lt; omega
      have d1 := fun w => idx_dig w (n := c.toNat / 16) (by have := c.toNat_lt; omega)
      have d2 := fun w => idx_dig w (n := c.toNat % 16) (by omega)
      rw [Int.natCast_ediv] at d1
      rw [Int.natCast_emod] at d2
      simp only [Int.cast_ofNat_Int] at d1 d2
      clear hA hst hc hT
      go_wp2
      refine wp_region_noPanic ?_
      refine wp_region_held (S := (fun W => True)) (by kernel_rfl) ?_
      change wpAnyH _ _ _ _ _ _ _ _ (World.drew wr)
      have hS0 : True := trivial
      refine wpAnyH_take (i := 0) (v := ?_) rfl (by kernel_rfl) (by kernel_rfl) (by kernel_rfl) (fun _ _ _ h => h) (Or.inl ⟨by rfl, ?_⟩) hS0 ?_
      rotate_left
      · intro wq hSw
        go_simp
        rfl
      simp only [Act.put, List.getElem_toArray, List.getElem_cons_zero, List.getElem_cons_succ, List.setIfInBounds_toArray, List.set_cons_zero, List.set_cons_succ]
      refine wpAnyH_take (i := 1) (v := ?_) rfl (by kernel_rfl) (by kernel_rfl) (by kernel_rfl) (fun _ _ _ h => h) (Or.inl ⟨by rfl, ?_⟩) hS0 ?_
      rotate_left
      · intro wq hSw
        go_simp
        rfl
      simp only [Act.put, List.getElem_toArray, List.getElem_cons_zero, List.getElem_cons_succ, List.setIfInBounds_toArray, List.set_cons_zero, List.set_cons_succ]
      refine wpAnyH_take (i := 2) (v := ?_) rfl (by kernel_rfl) (by kernel_rfl) (by kernel_rfl) (fun _ _ _ h => h) (Or.inl ⟨by rfl, ?_⟩) hS0 ?_
      rotate_left
      · intro wq hSw
        go_simp
        rfl
      simp only [Act.put, List.getElem_toArray, List.getElem_cons_zero, List.getElem_cons_succ, List.setIfInBounds_toArray, List.set_cons_zero, List.set_cons_succ]
      refine wpAnyH_take (i := 3) (v := ?_) rfl (by kernel_rfl) (by kernel_rfl) (by kernel_rfl) (fun _ _ _ h => h) (Or.inl ⟨by rfl, ?_⟩) hS0 ?_
      rotate_left
      · intro wq hSw
        go_simp
        rfl
      simp only [Act.put, List.getElem_toArray, List.getElem_cons_zero, List.getElem_cons_succ, List.setIfInBounds_toArray, List.set_cons_zero, List.set_cons_succ]
      refine wpAnyH_take (i := 4) (v := ?_) rfl (by kernel_rfl) (by kernel_rfl) (by kernel_rfl) (fun _ _ _ h => h) (Or.inl ⟨by rfl, ?_⟩) hS0 ?_
      rotate_left
      · intro wq hSw
        go_simp
        rfl
      simp only [Act.put, List.getElem_toArray, List.getElem_cons_zero, List.getElem_cons_succ, List.setIfInBounds_toArray, List.set_cons_zero, List.set_cons_succ]
      refine wpAnyH_take (i := 5) (v := ?_) rfl (by kernel_rfl) (by kernel_rfl) (by kernel_rfl) (fun _ _ _ h => h) (Or.inl ⟨by rfl, ?_⟩) hS0 ?_
      rotate_left
      · intro wq hSw
        go_simp
        rfl
      simp only [Act.put, List.getElem_toArray, List.getElem_cons_zero, List.getElem_cons_succ, List.setIfInBounds_toArray, List.set_cons_zero, List.set_cons_succ]
      refine wpAnyH_take (i := 6) (v := ?_) rfl (by kernel_rfl) (by kernel_rfl) (by kernel_rfl) (fun _ _ _ h => h) (Or.inl ⟨by rfl, ?_⟩) hS0 ?_
      rotate_left
      · intro wq hSw
        go_simp
        rfl
      simp only [Act.put, List.getElem_toArray, List.getElem_cons_zero, List.getElem_cons_succ, List.setIfInBounds_toArray, List.set_cons_zero, List.set_cons_succ]
      refine wpAnyH_all (rs := [7]) (by kernel_rfl) (by simp) ?_
      intro i hi
      simp only [List.mem_cons, List.not_mem_nil, or_false] at hi
      subst hi
      refine wpOp_run rfl (by rfl) (w' := wr.drew.alloc (.cells #[.int .u8 ((digitU (c.toNat / 16)).toNat : Int), .int .u8 ((digitU (c.toNat % 16)).toNat : Int)] 5)) (v := .slice (some ⟨wr.heap.size, 0, none⟩) 2 2) (by go_simp; first | done | rfl) ?_
      obtain ⟨w1, hw_w1⟩ : ∃ w1, w1 = wr.drew.alloc (.cells #[.int .u8 ((digitU (c.toNat / 16)).toNat : Int), .int .u8 ((digitU (c.toNat % 16)).toNat : Int)] 5) := ⟨_, rfl⟩
      rw [← hw_w1]
      have hb_w1 : Below wr.drew.heap.size wr.drew w1 := by rw [hw_w1]; exact (Below.refl _ _).alloc (Nat.le_refl _) _
      have HB_w1 := Lib.hid (((HA.out.bel).drew).trans (hb_w1.mono ((HA.out.bel).drew).size))
      have hn_w1 : w1.heap[wr.heap.size]? = some (.cells #[.int .u8 ((digitU (c.toNat / 16)).toNat : Int), .int .u8 ((digitU (c.toNat % 16)).toNat : Int)] 5 (0, 0)) := by rw [hw_w1]; exact heap_new' _ rfl
      have hS1 : True := trivial
      have hb_keep : Below wr.heap.size wr w1 := (Bl.drew (Below.refl _ _)).trans hb_w1
      clear hb_w1 hw_w1
      refine ⟨hS1, ?_⟩
      simp only [Act.put, List.getElem_toArray, List.getElem_cons_zero, List.getElem_cons_succ, List.setIfInBounds_toArray, List.set_cons_zero, List.set_cons_succ]
      have hA1 : Acc w w1 _ T := HA.out.below hb_keep
      obtain ⟨v4, W4, hrun4, hown4, hgr4, hat4⟩ := run_appF (P := Tryz.prog) w1 91 91 tyBytes w.heap.size _ T.length (byV T) hA1.own (.slice (some ⟨wr.heap.size, 0, none⟩) 2 2) 2 [.int .u8 ((digitU (c.toNat / 16)).toNat : Int), .int .u8 ((digitU (c.toNat % 16)).toNat : Int)] (src2 hn_w1) (by unfold maxLen; omega) (by omega) hA1.bel.size
      have hA4 : Acc w W4 v4 (T ++ [digitU (c.toNat / 16), digitU (c.toNat % 16)]) := ⟨by
        have := hown4
        rw [show byV T ++ [Value.int .u8 ((digitU (c.toNat / 16)).toNat : Int), .int .u8 ((digitU (c.toNat % 16)).toNat : Int)] = byV (T ++ [digitU (c.toNat / 16), digitU (c.toNat % 16)]) by rw [byV_append]; rfl] at this
        exact this.bytes, Bl.grown hA1.bel hgr4 (fun k hk => (hA1.own.lt k hk).1)⟩
      have HA4 := Lib.hid hA4
      clear hown4 hgr4 hat4 hA1 hA4
      refine wpAnyH_all (rs := [8]) (by kernel_rfl) (by simp) ?_
      intro i hi
      simp only [List.mem_cons, List.not_mem_nil, or_false] at hi
      subst hi
      refine wpOp_run rfl (by rfl) (by go_simp; first | rfl | exact ⟨rfl, rfl⟩) ⟨?_, ?_⟩
      · trivial
      simp only [Act.put, List.getElem_toArray, List.getElem_cons_zero, List.getElem_cons_succ, List.setIfInBounds_toArray, List.set_cons_zero, List.set_cons_succ]
      refine wpAnyH_take (i := 9) (v := ?_) rfl (by kernel_rfl) (by kernel_rfl) (by kernel_rfl) (fun _ _ _ h => h) (Or.inl ⟨by rfl, ?_⟩) hS1 ?_
      rotate_left
      · intro wq hSw
        go_simp
        rfl
      simp only [Act.put, List.getElem_toArray, List.getElem_cons_zero, List.getElem_cons_succ, List.setIfInBounds_toArray, List.set_cons_zero, List.set_cons_succ]
      refine wpAnyH_done (by kernel_rfl) (NoPanic.normal ?_) _
      go_wp2
      go_roundw
      case rel => exact ⟨_, k + 1, rfl, by go_num, by omega, by rw [Hst.out]; exact HA4.out⟩
      case measure => simp [intOf]; omega
    · obtain rfl : k = 32 := by omega
      rw [List.take_of_length_le (by rw [HL.out]; omega)] at hA
      have hcv := run_text' wr 91 9 5 Tryz.underlying91 Tryz.underlying5 Tryz.underlying9 _ _ hA.own.sl
      have HA := Lib.hid hA
      clear hA
      go_wp2
      go_ret
      exact ⟨rfl, HA.out.bel⟩

end Go.Proofs.YtjiakfblgefioaaGreatDoor.Thex
