/-
  WHAT IS PROVED: what the document's digits of a sum are. Condition: the sum has 32 bytes.
-/
import Derived.Test.YtjiakfblgefioaaGreatDoorThex
namespace Go.Proofs.YtjiakfblgefioaaGreatDoor.T38H
open Go Go.RowKit Go.Proofs.YtjiakfblgefioaaGreatDoor Go.Proofs.YtjiakfblgefioaaGreatDoor.OctetS Go.Proofs.YtjiakfblgefioaaGreatDoor.OctP Go.Proofs.YtjiakfblgefioaaGreatDoor.IdentP Go.Proofs.YtjiakfblgefioaaGreatDoor.EventP Go.Proofs.YtjiakfblgefioaaGreatDoor.ShaS Go.Proofs.YtjiakfblgefioaaGreatDoor.ShaA Go.Proofs.YtjiakfblgefioaaGreatDoor.ShaB Go.Proofs.YtjiakfblgefioaaGreatDoor.Steps Go.Proofs.YtjiakfblgefioaaGreatDoor.Thex
set_option linter.unusedVariables false
set_option linter.unusedSimpArgs false

def digS (n : Nat) : ByteArray := bsOf [digitU n]
theorem hexS_cut : ∀ n : Fin 16, hexS.extract n.val (n.val + 1) = digS n.val := by decide
theorem cut_dig {n : Nat} (h : n < 16) : (⟨#[48, 49, 50, 51, 52, 53, 54, 55, 56, 57, 97, 98, 99, 100, 101, 102]⟩ : ByteArray).extract n (n + 1) = digS n := hexS_cut ⟨n, h⟩

set_option maxRecDepth 100000 in
set_option maxHeartbeats 4000000 in
theorem refHex_ok (w : World) (l : List UInt8) (hl : l.length = 32) :
    Calls Tryz.prog 64 #[.agg (pB 32 l)] w (RB (.string (bsOf (hex l))) w) := by
  obtain ⟨p, hp⟩ : ∃ p, p = pB 32 l := ⟨_, rfl⟩
  have hps : p.size = 32 := by rw [hp]; exact pB_size (by omega)
  have hix : ∀ k : Nat, k < 32 → p[k]? = some (.int .u8 ((l.getD k 0).toNat : Int)) := fun k hk => by rw [hp]; exact pB_get hl hk
  rw [← hp]
  have hb0 := heap_new w (.cells p 60)
  have hbel : Below w.heap.size w (w.alloc (.cells p 60)) := (Below.refl _ w).alloc (Nat.le_refl _) _
  have hi : (Tryz.prog.info? 60).map (·.size) = some 32 := by kernel_rfl
  obtain ⟨w0, hw0⟩ : ∃ w0, w0 = w.alloc (.cells p 60) := ⟨_, rfl⟩
  rw [← hw0] at hb0 hbel
  have Hi := Lib.hid hi
  have Hix := Lib.hid hix
  have Hps := Lib.hid hps
  have HL := Lib.hid hl
  have HW := Lib.hid hw0
  have HB0 := Lib.hid hb0
  have HBel := Lib.hid hbel
  clear hi hix hps hp hw0 hb0 hbel
  go_enter Tryz.func64, Tryz.ntmps64
  go_wp2
  rw [← HW.out]
  go_loopw [3, 4] (fun s i wr => ∃ (k : Nat) (S : ByteArray), s = .string S ∧ i = .int .i64 k ∧ k ≤ 32 ∧ S = bsOf (hex (l.take k)) ∧ wr.heap[w.heap.size]? = some (.cells p 60 (0, 0)) ∧ Below w.heap.size w wr) (fun _ i _ => 32 - (intOf i).toNat)
  case atStart => exact ⟨0, _, rfl, rfl, by omega, rfl, HB0.out, HBel.out⟩
  case round =>
    obtain ⟨k, S, rfl, rfl, hk, hS, hh, hbr⟩ := hrel
    by_cases hlt : k < 32
    · have hst := hex_take l k (by rw [HL.out]; exact hlt)
      have hx := Hix.out k hlt
      obtain ⟨c, hc⟩ : ∃ c, c = l.getD k 0 := ⟨_, rfl⟩
      rw [← hc] at hx hst
      obtain ⟨x, hxd⟩ : ∃ x, x = c.toNat / 16 := ⟨_, rfl⟩
      obtain ⟨y, hyd⟩ : ∃ y, y = c.toNat % 16 := ⟨_, rfl⟩
      have hcl := c.toNat_lt
      have hx16 : x < 16 := by omega
      have hy16 : y < 16 := by omega
      have q1 : (c.toNat : Int) / 16 = (x : Int) := by omega
      have q2 : (c.toNat : Int) % 16 = (y : Int) := by omega
      have c1 := cut_dig hx16
      have c2 := cut_dig hy16
      have hcell : wr.cell? ⟨w.heap.size, k, none⟩ = some (.int .u8 (c.toNat : Int)) := by rw [cell_row hh]; exact hx
      have hfz := fun j => frozen_row (j := j) hh
      have hln : S.size ≤ 64 := by rw [hS, size_bsOf, hex_len, List.length_take]; omega
      have hd1 : (digS x).size = 1 := by unfold digS; rw [size_bsOf]; rfl
      have hd2 : (digS y).size = 1 := by unfold digS; rw [size_bsOf]; rfl
      have hn1 : ¬ 9223372036854775807 < (digS x).size + (digS y).size := by omega
      have hn2 : ¬ 9223372036854775807 < S.size + (digS x ++ digS y).size := by rw [ByteArray.size_append]; omega
      have hstep : S ++ (digS x ++ digS y) = bsOf (hex (l.take (k + 1))) := by
        rw [hst, hS, ← hxd, ← hyd]
        unfold digS
        apply bl_inj
        rw [bl_append, bl_append, bl_bsOf, bl_bsOf, bl_bsOf, bl_bsOf]
        rfl
      have z1 : 0 ≤ (c.toNat : Int) := by omega
      have z2 : (c.toNat : Int) ≤ 255 := by omega
      have HStep := Lib.hid hstep
      have Hh := Lib.hid hh
      have HBr := Lib.hid hbr
      clear hh hbr hst hx hc hS hstep hxd hyd hcl
      go_wp2_with fail
      go_quiet (fail)
      go_wp2
      go_roundw
      case rel => exact ⟨k + 1, _, rfl, by go_num, by omega, HStep.out, Hh.out, Bl.drewN HBr.out _⟩
      case measure => simp [intOf]; omega
    · obtain rfl : k = 32 := by omega
      rw [← HL.out, List.take_length] at hS
      have HS := Lib.hid hS
      have HBr := Lib.hid hbr
      clear hS hh hbr
      go_wp2
      go_ret
      exact ⟨by rw [HS.out]; rfl, HBr.out⟩

end Go.Proofs.YtjiakfblgefioaaGreatDoor.T38H
