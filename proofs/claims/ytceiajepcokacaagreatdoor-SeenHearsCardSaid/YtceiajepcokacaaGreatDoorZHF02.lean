/-
  WHAT IS PROVED: contracts and plain laws. Condition: each names its own.
-/
import Derived.Test.YtceiajepcokacaaGreatDoorS0
import Derived.Test.YtceiajepcokacaaGreatDoorZHF00
import Derived.Test.YtceiajepcokacaaGreatDoorZHF01
import Derived.BigRegionIn
import Derived.Handy
import Derived.LoopIn
import Derived.LoopNIn
import Derived.RangeFuncBound
import Derived.RangeFuncBox
import Derived.RangeFuncLeaves
import Derived.Shelf.Abstract
import Derived.Shelf.RegionOpen
import Derived.TacticsInMore
import Derived.Test.YtceiajepcokacaaGreatDoorRows
set_option linter.unusedVariables false
set_option linter.unusedSimpArgs false
set_option maxRecDepth 100000
set_option maxHeartbeats 4000000
namespace Go.Proofs.YtceiajepcokacaaGreatDoor
open Go.Proofs.Tryz
namespace OctP
open Go Go.RowKit OctetS
theorem A8 : BN Tryz.prog 100 5 1 1 (.int .u8 0) :=
 BN.mk' (by kernel_rfl) (by kernel_rfl) rfl (by omega)
abbrev OwB (w : World) (base : Nat) (v : Value) (l : List UInt8) : Prop := Ow w base 5 1 v l.length (byV l)
abbrev aI (base : Nat) (w : World) (v : Value) (w' : World) (v' : Value) (l : List UInt8) : Prop := Gr base 5 1 w v w' v' l.length (byV l)
theorem QW (w : World) (base : Nat) (v : Value) (l : List UInt8) (n : Nat) (h : OwB w base v l) (hn : n < 18446744073709551616) (hl : l.length ≤ 70000000000000) (hb : base ≤ w.heap.size) :
 Calls Tryz.prog 65 #[v, .int .u64 n] w fun e w' => ∃ v', e = .returned v' ∧ aI base w v w' v' (l ++ num n) := by
 obtain ⟨a, cap, rfl, hcap, hm⟩ := h.form
 have H := lh h
 clear h
 go_enter func65, ntmps65
 go_wp2
 go_loopw [0, 1] (fun b m wr => ∃ (vb : Value) (lb : List UInt8) (mb f : Nat), b = vb ∧ m = .int .u64 mb ∧ aI base w (.slice a l.length cap) wr vb lb ∧ lb ++ numF f mb = l ++ num n ∧ mb < 128 ^ (f + 1) ∧ mb < 18446744073709551616 ∧ lb.length + f ≤ l.length + 9) (fun _ m _ => (intOf m).toNat)
 case atStart => exact ⟨_, l, n, 9, rfl, rfl, Gr.refl H.out, rfl, by omega, hn, by omega⟩
 case round =>
  obtain ⟨vb, lb, mb, f, rfl, rfl, hG, heq, hm1, hm2, hlen⟩ := hrel
  obtain ⟨a1, Y7, rfl, hcap1, fK⟩ := hG.own.form
  obtain ⟨HG, Heq, Hm1⟩ := l3h hG heq hm1
  have hba := hG.ext.size
  clear hG heq hm1
  by_cases hgt : 127 < mb
  ·obtain ⟨bb, hbb⟩ := nXe (UInt8.ofNat (mb % 128 + 128))
   have Hbb := lh hbb
   clear hbb
   go_wp2_with (at_builtin; go_must (refine Al _ rfl _ _ _ _ rfl A8 base (.slice a1 lb.length Y7) lb.length (byV lb) rfl ?own (.slice (some ⟨wr.heap.size, 0, none⟩) 1 1) 1 [.int .u8 (bits BinOp.or .u8 ((mb : Int) % 256) 128)] rfl ?src (lb.length + 1) rfl (byV (lb ++ [bb])) ?hz ?h63 ?hby ?hba ?go))
   case own => exact HG.out.own.ext (((Ext.refl (fun _ => False) _).alloc _)) (fun _ _ h => h)
   case src => exact Src.ofSlice _ underlying100 _ _ _ _ rfl (by simpa using cell_one_new wr (.int .u8 (bits BinOp.or .u8 ((mb : Int) % 256) 128)) 5) (by simp [Value.oneCell'])
   case hz => rw [Ql, Ao, Hbb.out]; rfl
   case h63 => unfold maxLen; omega
   case hby => omega
   case hba => simp; omega
   case go =>
        intro a' c' w1 hown1 hgrow hat1
        have HG1 := lh (HG.out.app ((Ext.refl (fun _ => False) _).alloc _) hown1.bytes hgrow hat1 (by omega))
        go_wp2
        go_roundw
        case rel =>
         have hf := Hm1.out
         cases f with
         | zero => omega
         | succ f =>
           refine ⟨_, lb ++ [bb], mb / 128, f, rfl, by go_num, HG1.out, ?_, ?_, by omega, by simp; omega⟩
           ·rw [← Heq.out, numF, if_neg (by omega), Hbb.out]
            simp
           ·rw [Nat.pow_succ] at hf
            exact Nat.div_lt_of_lt_mul (by rw [Nat.mul_comm]; exact hf)
        case measure => simp [intOf]; omega
  ·obtain ⟨bb, hbb⟩ := nXe (UInt8.ofNat mb)
   have Hbb := lh hbb
   clear hbb
   go_wp2_with (at_builtin; go_must (refine Al _ rfl _ _ _ _ rfl A8 base (.slice a1 lb.length Y7) lb.length (byV lb) rfl ?own (.slice (some ⟨wr.heap.size, 0, none⟩) 1 1) 1 [.int .u8 (mb : Int)] rfl ?src (lb.length + 1) rfl (byV (lb ++ [bb])) ?hz ?h63 ?hby ?hba ?go))
   case own => exact HG.out.own.ext (((Ext.refl (fun _ => False) _).alloc _)) (fun _ _ h => h)
   case src => exact Src.ofSlice _ underlying100 _ _ _ _ rfl (by simpa using cell_one_new wr (.int .u8 (mb : Int)) 5) (by simp [Value.oneCell'])
   case hz => rw [Sw (m := mb) (by omega), Ao, Hbb.out]; rfl
   case h63 => unfold maxLen; omega
   case hby => omega
   case hba => simp; omega
   case go =>
        intro a' c' w1 hown1 hgrow hat1
        have HG1 := lh (HG.out.app ((Ext.refl (fun _ => False) _).alloc _) hown1.bytes hgrow hat1 (by omega))
        have Hnum : Hid (l ++ num n = lb ++ [bb]) := by
         refine lh ?_
         rw [← Heq.out, Hbb.out]
         cases f with
         | zero => rfl
         | succ f => rw [numF, if_pos (by omega)]
        go_wp2
        go_ret
        exact ⟨_, rfl, by rw [Hnum.out]; exact HG1.out⟩
theorem Er (w : World) (n : Nat) (hn : n ≤ BC) :
 Calls Tryz.prog 36 #[.int .u64 n] w fun e w' => e = .returned (.tuple #[.string (bsOf (num n)), .int .i64 0]) ∧ Below w.heap.size w w' := by
 unfold BC at hn
 go_enter func36, ntmps36
 go_wp2_with fail
 refine (QW w w.heap.size (.slice none 0 0) [] n (Ow.nil _ _ _ _) (by omega) (by simp) nR).mono ?_
 rintro e w' ⟨v', rfl, hG⟩
 have hcv := BX w' 100 9 5 underlying100 underlying5 underlying9 v' (num n) hG.own.sl
 obtain ⟨s, hs⟩ := nXe (bsOf (num n))
 rw [← hs] at hcv
 obtain ⟨Hs, HB⟩ := l2h hs hG.ofNil
 clear hs hG
 go_wp2
 go_ret2
 exact ⟨by rw [Hs.out]; rfl, HB.out⟩
theorem Wu (k : Nat) : (2 : Int) ^ (7 * k) = ((128 ^ k : Nat) : Int) := by
 rw [Int.natCast_pow, Int.pow_mul]
 rfl
theorem bits_join (nn k c : Nat) (hn : nn < 128 ^ k) (hk : k < 7) (hc : c < 256) :
 bits .or .u64 (nn : Int) (IntKind.u64.wrap (IntKind.u64.wrap (bits .and .u8 (c : Int) 127) * 2 ^ (7 * k))) = ((nn + c % 128 * 128 ^ k : Nat) : Int) := by
 have h1 : bits .and .u8 (c : Int) 127 = ((c % 128 : Nat) : Int) := by
  have := u8_and_nat c 127 hc (by omega)
  rw [show (c &&& 127) = c % 128 from Nat.and_two_pow_sub_one_eq_mod c 7] at this
  exact this
 have hp : 128 ^ k ≤ 128 ^ 6 := Nat.pow_le_pow_right (by omega) (by omega)
 have hp' : 128 ^ k ≤ 4398046511104 := hp
 have hm : c % 128 * 128 ^ k ≤ 127 * 4398046511104 := Nat.mul_le_mul (by omega) hp'
 have e1 : IntKind.u64.wrap ((c % 128 : Nat) : Int) = ((c % 128 : Nat) : Int) := IntWalk.u64_in _ (by omega)
 have e2 : IntKind.u64.wrap ((c % 128 * 128 ^ k : Nat) : Int) = ((c % 128 * 128 ^ k : Nat) : Int) := IntWalk.u64_in _ (by omega)
 rw [h1, e1, Wu, ← Int.natCast_mul, e2, u64_or_nat _ _ (by omega) (by omega)]
 rw [Nat.or_comm, nat_join (7 * k) _ _ (by rw [Nat.pow_mul]; exact Nat.mul_mod_left _ _) (by rw [Nat.pow_mul]; exact hn), Nat.add_comm]
theorem FC (w : World) (s : ByteArray) (hs : s.size ≤ maxLen) :
 Calls Tryz.prog 82 #[.string s] w fun e w' => e = .returned (.tuple #[.int .u64 (Ae (bl s)).1, .int .i64 (Ae (bl s)).2.1, .int .i64 (Ae (bl s)).2.2]) ∧ w = w' := by
 unfold maxLen at hs
 have h7 : s.size ≤ 7 ∨ 7 < s.size := by omega
 rcases h7 with h7 | h7
 all_goals
  go_enter func82, ntmps82
  go_wp2
  go_loop [11, 5] (fun i n => ∃ k nn : Nat, i = .int .i64 k ∧ n = .int .u64 nn ∧ k ≤ s.size ∧ k ≤ 7 ∧ getF (7 - k) k nn ((bl s).drop k) = Ae (bl s) ∧ nn < 128 ^ k) (fun i _ => 7 - (intOf i).toNat)
  case atStart => exact ⟨0, 0, rfl, rfl, by omega, by omega, rfl, by omega⟩
  case round =>
   obtain ⟨k, nn, rfl, rfl, hk1, hk2, hg, hn⟩ := hrel
   by_cases hlt : k < s.size ∧ k < 7
   ·obtain ⟨hlt1, hlt2⟩ := hlt
    obtain ⟨b, hb⟩ : ∃ b, s[k] = b := ⟨_, rfl⟩
    have hbj := bits_join nn k b.toNat hn hlt2 b.toNat_lt
    rw [Dv s k hlt1, hb, show 7 - k = (7 - (k + 1)) + 1 by omega, getF] at hg
    obtain ⟨m, hm⟩ : ∃ m, nn + b.toNat % 128 * 128 ^ k = m := ⟨_, rfl⟩
    rw [hm] at hbj hg
    have hm2 : m < 128 ^ (k + 1) := by
     have : b.toNat % 128 * 128 ^ k ≤ 127 * 128 ^ k := Nat.mul_le_mul_right _ (by omega)
     rw [Nat.pow_succ]
     omega
    have Hm2 := lh hm2
    have hb8 := b.toNat_lt
    clear hm hm2 hn
    have hc : 128 ≤ b.toNat ∨ (b.toNat < 128 ∧ ((b.toNat : Int) == 0) = true ∧ 0 < k) ∨ (b.toNat < 128 ∧ ((b.toNat : Int) == 0) = false) ∨ (b.toNat < 128 ∧ k = 0) := by
     simp only [beq_iff_eq, beq_eq_false_iff_ne]
     omega
    rcases hc with hc | ⟨hc, h0, hk0⟩ | ⟨hc, h0⟩ | ⟨hc, hk0⟩
    ·rw [if_pos hc] at hg
     have Hg := lh hg
     clear hg
     go_wp2
     go_round
     case rel => exact ⟨k + 1, m, by go_num, rfl, by omega, by omega, Hg.out, Hm2.out⟩
     case measure => simp [intOf]; omega
    ·rw [if_neg (by omega), if_pos (.inl ⟨by simpa using h0, hk0⟩)] at hg
     have Hg := lh hg
     clear hg
     go_wp2
     go_ret3
     exact ⟨by rw [← Hg.out]; rfl, rfl⟩
    ·rw [if_neg (by omega)] at hg
     have h0' : ¬ (b.toNat : Int) = 0 := by simpa using h0
     by_cases hM : 281474976710656 < m
     ·rw [if_pos (.inr hM)] at hg
      have Hg := lh hg
      clear hg h0'
      go_wp2
      go_ret3
      exact ⟨by rw [← Hg.out]; rfl, rfl⟩
     ·rw [if_neg (by unfold BC; omega)] at hg
      have Hg := lh hg
      clear hg h0'
      go_wp2
      go_ret3
      exact ⟨by rw [← Hg.out]; rfl, rfl⟩
    ·rw [if_neg (by omega)] at hg
     have hM : m ≤ 281474976710656 := by
      have := Hm2.out
      rw [hk0] at this
      omega
     rw [if_neg (by unfold BC; omega)] at hg
     have Hg := lh hg
     clear hg
     have hk0' : ¬ 0 < k := by omega
     clear hk0
     cases h0 : ((b.toNat : Int) == 0)
     all_goals
      go_wp2
      go_ret3
      exact ⟨by rw [← Hg.out]; rfl, rfl⟩
   ·clear hn
    by_cases h9 : 7 ≤ s.size
    ·have hk : k = 7 := by omega
     rw [hk] at hg
     have Hg := lh hg
     have hk7 : 7 ≤ k := by omega
     clear hg hk
     go_wp2
     all_goals (go_ret3; exact ⟨by rw [← Hg.out]; rfl, rfl⟩)
    ·have hk : k = s.size := by omega
     rw [hk, List.drop_of_length_le (by rw [AP]; omega), show 7 - s.size = (6 - s.size) + 1 by omega] at hg
     have Hg := lh hg
     have hk7 : s.size ≤ k := by omega
     clear hg hk
     go_wp2
     all_goals (go_ret3; exact ⟨by rw [← Hg.out]; rfl, rfl⟩)
end OctP
namespace OctQ
open Go Go.RowKit OctetS OctP
theorem Bu (w : World) (s : ByteArray) (hs : s.size ≤ maxLen) {n u : Nat} {y : Int} (hg : Ae (bl s) = (n, u, y)) :
 Calls Tryz.prog 82 #[.string s] w fun e w' => e = .returned (.tuple #[.int .u64 n, .int .i64 u, .int .i64 y]) ∧ w = w' := by
 have := FC w s hs
 rw [hg] at this
 exact this
def textV (t : List UInt8 × Nat × Int) : Value := .tuple #[.string (bsOf t.1), .int .i64 t.2.1, .int .i64 t.2.2]
theorem Gs (w : World) (s : ByteArray) (hs : s.size ≤ maxLen) :
 Calls Tryz.prog 124 #[.string s] w fun e w' => e = .returned (textV (Af (bl s))) ∧ w = w' := by
 have hs' := hs
 unfold maxLen at hs
 rcases D9 (bl s) with h0 | hg | hg
 ·obtain ⟨n, u, y, hg⟩ : ∃ n u y, Ae (bl s) = (n, u, y) := ⟨_, _, _, rfl⟩
  rw [hg] at h0
  simp only at h0
  subst h0
  obtain ⟨hu1, hu7, hul, _, hmax⟩ := Co hg
  rw [AP] at hul
  unfold BC at hmax
  have Hg := lh hg
  clear hg
  by_cases h1 : 8192 < n
  ·have hfin : Af (bl s) = ([], 0, 7) := by
        unfold Af
        rw [Hg.out]
        simp [h1]
   have Hfin := lh hfin
   clear hfin
   go_enter func124, ntmps124
   go_wp2_with fail
   refine (Bu w s hs' Hg.out).mono ?_
   rintro e w' ⟨rfl, rfl⟩
   go_wp2
   go_ret3
   exact ⟨by rw [Hfin.out]; rfl, rfl⟩
  ·by_cases h2 : s.size - u < n
   ·have hfin : Af (bl s) = ([], 0, 5) := by
     unfold Af
     rw [Hg.out]
     simp only [ne_eq, not_true_eq_false, if_false]
     rw [if_neg h1, if_pos (by rw [AP]; exact h2)]
    have Hfin := lh hfin
    clear hfin
    go_enter func124, ntmps124
    go_wp2_with fail
    refine (Bu w s hs' Hg.out).mono ?_
    rintro e w' ⟨rfl, rfl⟩
    go_wp2
    go_ret3
    exact ⟨by rw [Hfin.out]; rfl, rfl⟩
   ·have hfin : Af (bl s) = (bl (s.extract u (u + n)), u + n, 0) := by
     unfold Af
     rw [Hg.out]
     simp only [ne_eq, not_true_eq_false, if_false]
     rw [if_neg h1, if_neg (by rw [AP]; exact h2), Aj, Nat.add_sub_cancel_left]
    have Hfin := lh hfin
    clear hfin
    go_enter func124, ntmps124
    go_wp2_with fail
    refine (Bu w s hs' Hg.out).mono ?_
    rintro e w' ⟨rfl, rfl⟩
    have h3 : u + n ≤ s.size := by omega
    go_wp2
    go_ret3
    exact ⟨by rw [Hfin.out, textV, CG]; rfl, rfl⟩
 all_goals
  have hfin : Af (bl s) = ([], 0, (Ae (bl s)).2.2) := by
   unfold Af
   rw [hg]
   simp
  rw [hg] at hfin
  obtain ⟨Hfin, Hg⟩ := l2h hfin hg
  clear hg hfin
  go_enter func124, ntmps124
  go_wp2_with fail
  refine (Bu w s hs' Hg.out).mono ?_
  rintro e w' ⟨rfl, rfl⟩
  go_wp2
  go_ret3
  exact ⟨by rw [Hfin.out]; rfl, rfl⟩
theorem tyStrs : BN Tryz.prog 106 9 1 16 (.string ByteArray.empty) :=
 BN.mk' (by kernel_rfl) (by kernel_rfl) rfl (by omega)
abbrev Rd (w : World) (v : Value) (l : List ByteArray) : Prop := Sl w v 1 l.length (strV l)
theorem List_ok (w : World) (v : Value) (l : List ByteArray) (h : Rd w v l) (hf : fits (l.map bl) = true) :
 Calls Tryz.prog 37 #[v] w fun e w' => e = .returned (.tuple #[.string (bsOf (list (l.map bl))), .int .i64 0]) ∧ Below w.heap.size w w' := by
 obtain ⟨hf1, hf2⟩ := Cq.1 hf
 rw [List.length_map] at hf1
 obtain ⟨a, cap, rfl, hcap, hm⟩ := h.form
 obtain ⟨Hf2, H⟩ := l2h hf2 h
 clear h hf hf2
 go_enter func37, ntmps37
 go_wp2_with fail
 refine (QW w w.heap.size (.slice none 0 0) [] l.length (Ow.nil _ _ _ _) (by omega) (by simp) nR).mono ?_
 rintro e w1 ⟨v1, rfl, hG⟩
 have HG := lh hG
 clear hG
 go_wp2
 go_loopw [4, 16] (fun b i wr => ∃ (vb : Value) (lb : List UInt8) (k : Nat), b = vb ∧ i = .int .i64 k ∧ k ≤ l.length ∧ aI w.heap.size w (.slice none 0 0) wr vb lb ∧ lb = num l.length ++ ((l.map bl).take k).flatMap text ∧ lb.length ≤ 7 + k * 8200) (fun _ i _ => l.length - (intOf i).toNat)
 case atStart => exact ⟨v1, num l.length, 0, rfl, rfl, by omega, HG.out, by simp, by have := Dj (n := l.length) (by unfold BC; omega); omega⟩
 case round =>
  obtain ⟨vb, lb, k, rfl, rfl, hk, hG, hlb, hlen⟩ := hrel
  obtain ⟨a4, c4, rfl, _, _⟩ := hG.own.form
  obtain ⟨HG2, Hlb⟩ := l2h hG hlb
  have hsz := hG.ext.size
  clear hG hlb
  by_cases hlt : k < l.length
  ·obtain ⟨b, off, rfl, hbl, hcell⟩ := H.out.plain (by rw [strV_length]; omega)
   have hc : wr.cell? ⟨b, off + k, none⟩ = some (.string l[k]) := by
        rw [HG2.out.ofNil.cell (p := ⟨b, off + k, none⟩) hbl]
        exact hcell k _ (by simp [strV, hlt])
   have hl8 : l[k].size ≤ 8192 := by
        have := Hf2.out (bl l[k]) (List.mem_map.2 ⟨l[k], List.getElem_mem hlt, rfl⟩)
        rwa [AP] at this
   have Hcell := lh hcell
   clear hcell
   have hn1 : (num l[k].size).length ≤ 2 := CV hl8
   go_wp2_with fail
   refine (QW wr w.heap.size (.slice a4 lb.length c4) lb l[k].size HG2.out.own (by omega) (by omega) hsz).mono ?_
   rintro e w2 ⟨v2, rfl, hG3⟩
   have HG3 := lh (HG2.out.trans hG3)
   clear hG3
   obtain ⟨L3, hL3⟩ := nXe ((lb ++ num l[k].size) ++ bl l[k])
   have hL4 : L3.length ≤ lb.length + 8194 := by rw [hL3]; simp only [List.length_append, AP]; omega
   have HL3 := lh hL3
   clear hL3
   go_wp2_with (at_builtin; go_must (refine DT rfl _ _ _ _ rfl A8 HG3.out rfl (.string l[k]) l[k].size (byV (bl l[k])) rfl (Ext.refl _ _) ?src L3.length ?hN (byV L3) ?hz ?h63 ?hby nR ?go))
   case src => exact Src.ofString _ underlying9 _
   case hN => rw [HL3.out, @List.length_append _ (lb ++ num l[k].size), AP]
   case hz => rw [HL3.out, Ao (lb ++ num l[k].size)]
   case h63 => unfold maxLen; omega
   case hby => omega
   case go =>
        intro a' c' w3 hG4 _
        have HG4 := lh hG4
        clear hG4
        go_wp2
        go_roundw
        case rel =>
         refine ⟨_, L3, k + 1, rfl, by go_num, by omega, HG4.out, ?_, by omega⟩
         rw [HL3.out, Hlb.out, List.take_succ_eq_append_getElem (by simpa using hlt)]
         simp [text, AP, List.append_assoc]
        case measure => simp [intOf]; omega
  ·obtain rfl : k = l.length := by omega
   have hcv := BX wr 100 9 5 underlying100 underlying5 underlying9 (.slice a4 lb.length c4) lb HG2.out.own.sl
   obtain ⟨s, hs⟩ := nXe (bsOf lb)
   rw [← hs] at hcv
   have Hs := lh hs
   clear hs
   go_wp2
   go_ret2
   refine ⟨?_, HG2.out.ofNil⟩
   rw [Hs.out, Hlb.out, list, List.length_map, List.take_of_length_le (by simp)]
   rfl
end OctQ
namespace OctR
open Go Go.RowKit Go.Shelf OctetS OctP OctQ
attribute [local go_sem] Oper.semAt_some
abbrev Reading := List UInt8 × Nat × Int
def NC : Nat → Nat → List UInt8 → List Reading
 | 0, _, _ => []
 | m + 1, p, s => ((Af (s.drop p)).1, p + (Af (s.drop p)).2.1, (Af (s.drop p)).2.2) :: if (Af (s.drop p)).2.2 ≠ 0 then [] else NC m (p + (Af (s.drop p)).2.1) s
def encR (x : Reading) : Array Value := #[.string (bsOf x.1), .agg #[.int .i64 x.2.1, .int .i64 x.2.2]]
theorem Sy (w : World) (s : ByteArray) (n : Nat) :
 Calls Tryz.prog 104 #[.string s, .int .u64 n] w fun e w' => e = .returned (.func (.func 123) #[] #[.pointer (some ⟨w.heap.size + 1, 0, none⟩), .pointer (some ⟨w.heap.size, 0, none⟩)]) ∧ (w.alloc (.cells #[.string s] 9)).alloc (.cells #[.int .u64 n] 98) = w' := by
 go_enter func104, ntmps104
 go_wp2
 go_ret
 exact ⟨rfl, rfl⟩
theorem OA (w : World) (s : ByteArray) (hs : s.size ≤ maxLen) {t : List UInt8} {u : Nat} {y : Int} (hg : Af (bl s) = (t, u, y)) :
 Calls Tryz.prog 124 #[.string s] w fun e w' => e = .returned (.tuple #[.string (bsOf t), .int .i64 u, .int .i64 y]) ∧ w = w' := by
 have := Gs w s hs
 rw [hg] at this
 exact this
def Eg (Bs Bn : Nat) (W W' : World) : Prop := W'.heap[Bs]? = W.heap[Bs]? ∧ W'.heap[Bn]? = W.heap[Bn]?
theorem Eg.refl (Bs Bn : Nat) (W : World) : Eg Bs Bn W W := ⟨rfl, rfl⟩
theorem Eg.trans {Bs Bn : Nat} {A B C : World} (h : Eg Bs Bn A B) (k : Eg Bs Bn B C) : Eg Bs Bn A C := ⟨k.1.trans h.1, k.2.trans h.2⟩
theorem Eg.ae {Bs Bn : Nat} {A B : World} {t : TypeId} {v : Value} (h : Eg Bs Bn A B) (k : Boxed A Bs t v) : Boxed B Bs t v := h.1.trans k
theorem Eg.af {Bs Bn : Nat} {A B : World} {t : TypeId} {v : Value} (h : Eg Bs Bn A B) (k : Boxed A Bn t v) : Boxed B Bn t v := h.2.trans k
theorem FP (d : Nat) (hd : 1 ≤ d) (l Bs Bn : Nat) (s : ByteArray) (n : Nat) (hs : s.size ≤ maxLen) (hn : n ≤ 256) (J Jx : List Reading → World → Prop)
 (hY : ∀ pre x W, J pre W → pre.length < n → YieldAt Fence.wide (d - 1) Tryz.prog l (encR x) W fun e W' =>
  (e = .returned (.bool true) ∧ J (pre ++ [x]) W' ∧ Eg Bs Bn W W') ∨ (e = .returned (.bool false) ∧ Jx (pre ++ [x]) W'))
 (W : World) (hBs : Boxed W Bs 9 (.string s)) (hBn : Boxed W Bn 98 (.int .u64 n)) (h0 : J [] W) :
 CallsIn Fence.wide d Tryz.prog 123 #[.func (.yield l) #[] #[], .pointer (some ⟨Bn, 0, none⟩), .pointer (some ⟨Bs, 0, none⟩)] W fun e W' => (∃ v, e = .returned v) ∧
  ((∃ ys, ys = NC n 0 (bl s) ∧ J ys W') ∨ (∃ pre, pre <+: NC n 0 (bl s) ∧ Jx pre W')) := by
 have hs' := hs
 unfold maxLen at hs'
 have hcn := hBn.cell
 refine callsIn_of_wp func123 rfl trivial ?_ rfl
 simp only [ntmps123, List.size_toArray, List.length_cons, List.length_nil, Nat.reduceAdd, Nat.reduceSub, Array.replicate_succ, Array.replicate_zero, List.push_toArray, List.append_toArray, List.nil_append, List.cons_append]
 gi_wp2
 gi_loopw [4, 9] (fun p i wr => ∃ (k q : Nat) (pre : List Reading), p = .int .i64 q ∧ i = .int .u64 k ∧ k ≤ n ∧ pre.length = k ∧ NC n 0 (bl s) = pre ++ NC (n - k) q (bl s) ∧ q ≤ s.size ∧ Boxed wr Bs 9 (.string s) ∧ Boxed wr Bn 98 (.int .u64 n) ∧ J pre wr)
  (fun _ i _ => n - (intOf i).toNat)
 case atStart => exact ⟨0, 0, [], rfl, rfl, by omega, rfl, rfl, by omega, hBs, hBn, h0⟩
 case round =>
  obtain ⟨k, q, pre, rfl, rfl, hk, hpl, hrd, hq, bS, bN, hJ⟩ := hrel
  clear hBs hBn hcn h0
  have hcs := bS.cell
  obtain ⟨Hrd, Hpl⟩ := l2h hrd hpl
  clear hrd
  by_cases hlt : k < n
  ·obtain ⟨t, u, y, hg⟩ : ∃ t u y, Af ((bl s).drop q) = (t, u, y) := ⟨_, _, _, rfl⟩
   have hgx : Af (bl (s.extract q s.size)) = (t, u, y) := by
        rw [Aj, List.take_of_length_le (by rw [List.length_drop, AP]; omega)]
        exact hg
   have hux : (s.extract q s.size).size ≤ maxLen := by rw [ByteArray.size_extract]; unfold maxLen; omega
   have Hux := lh hux
   have Yl : NC (n - k) q (bl s) = (t, q + u, y) :: if y ≠ 0 then [] else NC (n - (k + 1)) (q + u) (bl s) := by
        rw [show n - k = (n - (k + 1)) + 1 by omega, NC, hg]
   have UX := lh Yl
   obtain ⟨fn, tmps, assign, body, hy, hR⟩ := hY pre (t, q + u, y) wr hJ (by omega)
   simp only [encR, Int.natCast_add] at hy
   have HR := lh hR
   have hw : y = 0 ∧ u ≤ s.size - q ∨ (y = 5 ∨ y = 6 ∨ y = 7) ∧ u = 0 := by
        rcases getText_why ((bl s).drop q) with h | ⟨y', h, hy'⟩
        ·rw [hg] at h
         simp only at h
         subst h
         obtain ⟨_, h2, _⟩ := Gj hg
         rw [List.length_drop, AP] at h2
         exact .inl ⟨rfl, h2⟩
        ·rw [hg] at h
         simp only [Prod.mk.injEq] at h
         obtain ⟨_, rfl, rfl⟩ := h
         exact .inr ⟨hy', rfl⟩
   have Hg := lh hgx
   clear hg hgx Yl hR hux hpl
   rcases hw with ⟨rfl, hu⟩ | ⟨hy3, rfl⟩
   ·gi_wp2_with (refine ⟨trivial, ?_⟩; gi_at_call 124; refine (callsIn_wide.2 (OA _ _ Hux.out Hg.out)).mono ?_; rintro e w' ⟨rfl, rfl⟩)
    refine HR.out.mono ?_
    rintro e W3 (⟨rfl, hJ3, hk3⟩ | ⟨rfl, hJx3⟩)
    ·gi_wp2
     go_roundw
     case rel => exact ⟨k + 1, q + u, pre ++ [(t, q + u, 0)], by go_num, by go_num, by omega, by rw [List.length_append, Hpl.out]; rfl, by rw [Hrd.out, UX.out]; simp, by omega, hk3.ae bS, hk3.af bN, hJ3⟩
     case measure => simp [intOf]; omega
    ·gi_wp2
     refine bodyPost_ret (results_none rfl _ _ _) rfl ?_
     exact ⟨⟨_, rfl⟩, .inr ⟨pre ++ [(t, q + u, 0)], ⟨_, by rw [Hrd.out, UX.out, List.append_assoc]; rfl⟩, hJx3⟩⟩
   ·have hb : (y != 0) = true := by rw [bne_iff_ne]; omega
    have hy0 : y ≠ 0 := by omega
    rw [if_pos hy0] at UX
    rw [show ((0 : Nat) : Int) = 0 from rfl, Int.add_zero] at hy
    clear hy0
    gi_wp2_with (refine ⟨trivial, ?_⟩; gi_at_call 124; refine (callsIn_wide.2 (OA _ _ Hux.out Hg.out)).mono ?_; rintro e w' ⟨rfl, rfl⟩)
    refine HR.out.mono ?_
    rintro e W3 (⟨rfl, hJ3, hk3⟩ | ⟨rfl, hJx3⟩)
    all_goals
     gi_wp2
     refine bodyPost_ret (results_none rfl _ _ _) rfl ?_
    ·exact ⟨⟨_, rfl⟩, .inl ⟨_, by rw [Hrd.out, UX.out], hJ3⟩⟩
    ·exact ⟨⟨_, rfl⟩, .inr ⟨_, by rw [Hrd.out, UX.out]; exact List.prefix_refl _, hJx3⟩⟩
  ·obtain rfl : k = n := by omega
   gi_wp2
   go_end0
   exact ⟨⟨_, rfl⟩, .inl ⟨pre, by rw [Hrd.out, Nat.sub_self, NC, List.append_nil], hJ⟩⟩
theorem ER (d : Nat) (hd : 1 ≤ d) (Bs Bn : Nat) (s : ByteArray) (n : Nat) (hs : s.size ≤ maxLen) (hn : n ≤ 256) (w : World) (hBs : Boxed w Bs 9 (.string s)) (hBn : Boxed w Bn 98 (.int .u64 n)) :
 SeqStopsK Fence.wide d Tryz.prog 123 #[.pointer (some ⟨Bn, 0, none⟩), .pointer (some ⟨Bs, 0, none⟩)] encR (Eg Bs Bn) (fun ys => ys = NC n 0 (bl s)) (fun pre => pre <+: NC n 0 (bl s)) n w := fun l J Jx W hW _ _ hY h0 =>
 FP d hd l Bs Bn s n hs hn J Jx hY W ((hW.block Bs hBs.lt).trans hBs) ((hW.block Bn hBn.lt).trans hBn) h0
end OctR
namespace OctG
open Go Go.RowKit Go.Shelf OctetS OctP OctQ OctR
attribute [local go_sem] Oper.semAt_some
attribute [-go_sem] Builtin.append_
/-! ### The readings and the list -/
def Cy (ys : List Reading) : Nat := (ys.getLast?.map (·.2.1)).getD 0
theorem Ps (ys : List Reading) (x : Reading) : Cy (ys ++ [x]) = x.2.1 := by simp [Cy]
theorem TS : ∀ (n p : Nat) (s : List UInt8) (ys : List Reading), NC n p s = ys → (∀ x ∈ ys, x.2.2 = 0) → Bf n (s.drop p) = (ys.map (·.1), (if ys = [] then p else Cy ys) - p, 0) ∧ (ys ≠ [] → p ≤ Cy ys)
 | 0, p, s, ys, h, _ => by
   simp only [NC] at h
   subst h
   simp [Bf]
 | n + 1, p, s, ys, h, hz => by
   rw [NC] at h
   have h0 : (Af (s.drop p)).2.2 = 0 := by
     have := hz (((Af (s.drop p)).1, p + (Af (s.drop p)).2.1, (Af (s.drop p)).2.2)) (by rw [← h]; exact List.mem_cons_self ..)
     exact this
   rw [if_neg (by simpa using h0)] at h
   have ih := TS n (p + (Af (s.drop p)).2.1) s _ rfl (fun x hx => hz x (by rw [← h]; exact List.mem_cons_of_mem _ hx))
   generalize hr : NC n (p + (Af (s.drop p)).2.1) s = r at h ih
   subst h
   rw [Bf, if_neg (by simpa using h0), List.drop_drop, ih.1]
   simp only [ne_eq, not_true_eq_false, if_false, List.map_cons, reduceCtorEq, not_false_eq_true, forall_const, Prod.mk.injEq, and_true, true_and]
   have hl : Cy ((((Af (s.drop p)).1, p + (Af (s.drop p)).2.1, (Af (s.drop p)).2.2)) :: r) = if r = [] then p + (Af (s.drop p)).2.1 else Cy r := by
     cases r with
     | nil => rfl
     | cons y r => simp [Cy, List.getLast?_cons_cons]
   rw [hl]
   by_cases hrn : r = []
   ·simp [hrn]
   ·have := ih.2 hrn
    simp only [hrn, if_false]
    omega
theorem RD : ∀ (n p : Nat) (s : List UInt8) (pre : List Reading) (x : Reading), pre ++ [x] <+: NC n p s → (∀ y ∈ pre, y.2.2 = 0) → x.2.2 ≠ 0 → Bf n (s.drop p) = ([], 0, x.2.2)
 | 0, p, s, pre, x, h, _, _ => by
   simp [NC] at h
 | n + 1, p, s, pre, x, h, hz, hx => by
   rw [NC] at h
   cases pre with
   | nil =>
     simp only [List.nil_append, List.cons_prefix_cons] at h
     obtain ⟨rfl, _⟩ := h
     rw [Bf, if_pos hx]
   | cons y pre =>
     simp only [List.cons_append, List.cons_prefix_cons] at h
     obtain ⟨rfl, h⟩ := h
     have h0 : (Af (s.drop p)).2.2 = 0 := hz ((Af (s.drop p)).1, p + (Af (s.drop p)).2.1, (Af (s.drop p)).2.2) (List.mem_cons_self ..)
     rw [if_neg (by simpa using h0)] at h
     have ih := RD n _ s pre x h (fun y hy => hz y (List.mem_cons_of_mem _ hy)) hx
     rw [Bf, if_neg (by simpa using h0), List.drop_drop, ih, if_pos hx]
def CU (w0 w : World) (v : Value) (l : List (List UInt8)) : Prop := w.ownsRow w0.heap.size 9 1 v l.length (strV (l.map bsOf))
theorem CU.nil (w0 w : World) : CU w0 w (.slice none 0 0) [] := World.ownsRow_nil _ _ _ _
def EK (w : World) (g : List (List UInt8) × Nat × Int) (e : Ending) (w' : World) : Prop :=
 ∃ v, e = .returned (.tuple #[v, .int .i64 g.2.1, .int .i64 g.2.2]) ∧ CU w w' v g.1 ∧ Below w.heap.size w w'
theorem Cf (w : World) (s : ByteArray) (hs : s.size ≤ maxLen) (h : Ae (bl s) = (0, 0, 5) ∨ Ae (bl s) = (0, 0, 6) ∨ ∃ n u, Ae (bl s) = (n, u, 0) ∧ 256 < n) :
 Calls Tryz.prog 81 #[.string s] w (EK w (Aw (bl s))) := by
 rcases h with hg | hg | ⟨n, u, hg, hn⟩
 ·have hfin : Aw (bl s) = ([], 0, 5) := by
   unfold Aw
   rw [hg]
   simp
  rw [hfin]
  have Hg := lh hg
  clear hg hfin
  go_enter func81, ntmps81
  go_wp2_with fail
  refine (Bu _ s hs Hg.out).mono ?_
  rintro e w' ⟨rfl, rfl⟩
  go_wp2
  refine bodyPost_ret (v := .tuple #[.slice none 0 0, .int .i64 0, .int .i64 5]) (by simp [results, Tryz.results81, go_sem]) rfl ⟨_, rfl, CU.nil _ _, ?_⟩
  go_grown
 ·have hfin : Aw (bl s) = ([], 0, 6) := by
   unfold Aw
   rw [hg]
   simp
  rw [hfin]
  have Hg := lh hg
  clear hg hfin
  go_enter func81, ntmps81
  go_wp2_with fail
  refine (Bu _ s hs Hg.out).mono ?_
  rintro e w' ⟨rfl, rfl⟩
  go_wp2
  refine bodyPost_ret (v := .tuple #[.slice none 0 0, .int .i64 0, .int .i64 6]) (by simp [results, Tryz.results81, go_sem]) rfl ⟨_, rfl, CU.nil _ _, ?_⟩
  go_grown
 ·have hfin : Aw (bl s) = ([], 0, 7) := by
   unfold Aw
   rw [hg]
   simp [hn]
  rw [hfin]
  have Hg := lh hg
  clear hg hfin
  go_enter func81, ntmps81
  go_wp2_with fail
  refine (Bu _ s hs Hg.out).mono ?_
  rintro e w' ⟨rfl, rfl⟩
  go_wp2
  refine bodyPost_ret (v := .tuple #[.slice none 0 0, .int .i64 0, .int .i64 7]) (by simp [results, Tryz.results81, go_sem]) rfl ⟨_, rfl, CU.nil _ _, ?_⟩
  go_grown
theorem DX {W : World} {B : Nat} {t : TypeId} {v : Value} (h : B = W.heap.size) : Boxed (W.alloc (.cells #[v] t)) B t v := by
 subst h
 exact Boxed.new W t v
structure Inv (w : World) (u : Nat) (pre : List Reading) (W : World) : Prop where
 out : ∃ v, Boxed W (w.heap.size + 4) 106 v ∧ W.ownsRow (w.heap.size + 8) 9 1 v pre.length (strV (pre.map fun x => bsOf x.1))
 at' : Boxed W (w.heap.size + 5) 3 (.int .i64 (IntKind.i64.wrap ((u : Int) + (Cy pre : Nat))))
 used : Boxed W (w.heap.size + 3) 3 (.int .i64 u)
 r0 : Boxed W w.heap.size 106 (.slice none 0 0)
 r1 : Boxed W (w.heap.size + 1) 3 (.int .i64 0)
 r2 : Boxed W (w.heap.size + 2) 26 (.int .i64 0)
 ok : ∀ x ∈ pre, x.2.2 = 0
 below : Below w.heap.size w W
 sz : w.heap.size + 8 ≤ W.heap.size
def Left (w : World) (c : Code) (pre : List Reading) (W : World) : Prop :=
 c = .ret ∧ (∃ p x, pre = p ++ [x] ∧ (∀ y ∈ p, y.2.2 = 0) ∧ x.2.2 ≠ 0 ∧ Boxed W w.heap.size 106 (.slice none 0 0) ∧ Boxed W (w.heap.size + 1) 3 (.int .i64 0) ∧ Boxed W (w.heap.size + 2) 26 (.int .i64 x.2.2)) ∧ Below w.heap.size w W
theorem Bc {X Y : World} {row : Option Nat} {B : Nat} {t : TypeId} {v : Value} (h : Boxed X B t v) (hg : X.grownBy Y row) (hr : ∀ r, row = some r → ∃ o : Obj, X.heap[r]? = some o ∧ o.isCells = false) : Boxed Y B t v :=
 boxed_own B t (fun (_ : Unit) => v) () X Y row h hg hr
theorem Gn {B0 N : Nat} {w X Y : World} {row : Option Nat} (h : Below B0 w X) (hN : B0 ≤ N) (hg : X.grownBy Y row) (hr : ∀ r, row = some r → N ≤ r ∧ ∃ o : Obj, X.heap[r]? = some o ∧ o.isCells = false) (hs : B0 ≤ X.heap.size) : Below B0 w Y :=
 h.grown hg hs (fun k hk => Nat.le_trans hN (hr k hk).1)
theorem RL (w : World) (u N : Nat) (hN : w.heap.size ≤ N) : OwnFrom N (Inv w u) := by
 intro s X Y row h hg hr
 have hr' := fun r e => (hr r e).2
 obtain ⟨v, hv, ho⟩ := h.out
 obtain ⟨v', hv', ho', _⟩ := holdsRow_own (w.heap.size + 8) (w.heap.size + 4) 106 9 1 (fun pre : List Reading => pre.length) (fun pre => strV (pre.map fun x => bsOf x.1)) (fun _ _ => True) s X Y row ⟨v, hv, ho, trivial⟩ hg hr'
 exact ⟨⟨v', hv', ho'⟩, Bc h.at' hg hr', Bc h.used hg hr', Bc h.r0 hg hr', Bc h.r1 hg hr', Bc h.r2 hg hr', h.ok, Gn h.below hN hg hr h.below.size, Nat.le_trans h.sz hg.size⟩
theorem Tm (w : World) (c : Code) (N : Nat) (hN : w.heap.size ≤ N) : OwnFrom N (Left w c) := by
 intro s X Y row h hg hr
 have hr' := fun r e => (hr r e).2
 obtain ⟨hc, ⟨p, x, h1, h2, h3, h4, h5, h6⟩, hb⟩ := h
 exact ⟨hc, ⟨p, x, h1, h2, h3, Bc h4 hg hr', Bc h5 hg hr', Bc h6 hg hr'⟩, Gn hb hN hg hr hb.size⟩
theorem Wq {W : World} {B : Nat} {t e : TypeId} {cs : Array Value} {fr : Nat × Nat} (h : W.heap[B]? = some (.cells cs t fr)) (hte : t ≠ e) {base size k : Nat} {v : Value} {xs : List Value} (hr : W.ownsRow base e size v k xs) : some B ≠ v.ownBlock := by
 rcases hr.2 with ⟨rfl, _⟩ | ⟨g, cap, cur, rfl, _, hgb, _⟩
 ·simp [Value.ownBlock]
 ·intro e'
  obtain rfl : B = g := by simpa [Value.ownBlock] using e'
  rw [h] at hgb
  simp at hgb
  exact hte hgb.2.1
def QG (W : World) (B : Nat) (t : TypeId) : Prop := ∃ v, Boxed W B t v
theorem QG.drew {W : World} {B : Nat} {t : TypeId} (h : QG W B t) : QG W.drew B t := h
theorem QG.set {W : World} {B : Nat} {t : TypeId} (h : QG W B t) (u : Value) : Boxed (W.setCell ⟨B, 0, none⟩ u) B t u := by
 obtain ⟨v, hv⟩ := h
 exact hv.set u
theorem Boxed.drew' {W : World} {B : Nat} {t : TypeId} {v : Value} (h : Boxed W B t v) : Boxed W.drew B t v := h
theorem IP {w W w1 : World} {u q : Nat} {pre : List Reading} {t : List UInt8} {a0 a1 : Option Addr} {c0 c1 : Nat} (HI : Inv w u pre W) (bV : Boxed W (w.heap.size + 4) 106 (.slice a0 pre.length c0)) (hV : W.ownsRow (w.heap.size + 8) 9 1 (.slice a0 pre.length c0) pre.length (strV (pre.map fun x => bsOf x.1)))
 (hgrow : ((W.alloc (.cells #[.string (bsOf t)] 9)).drew).grownBy w1 (Value.slice a0 pre.length c0).ownBlock) (hown1 : w1.ownsRow (w.heap.size + 8) 9 1 (.slice a1 (pre.length + 1) c1) (pre.length + 1) (strV (pre.map fun x => bsOf x.1) ++ [.string (bsOf t)]))
 (hk : ∀ k, k < w.heap.size + 8 → w1.heap[k]? = W.heap[k]?) :
 KeepsFrom (w.heap.size + 8) W ((w1.setCell ⟨w.heap.size + 4, 0, none⟩ (.slice a1 (pre.length + 1) c1)).setCell ⟨w.heap.size + 5, 0, none⟩ (.int .i64 (IntKind.i64.wrap ((u : Int) + q)))) ∧
 Eg (w.heap.size + 6) (w.heap.size + 7) W ((w1.setCell ⟨w.heap.size + 4, 0, none⟩ (.slice a1 (pre.length + 1) c1)).setCell ⟨w.heap.size + 5, 0, none⟩ (.int .i64 (IntKind.i64.wrap ((u : Int) + q)))) ∧
 Inv w u (pre ++ [(t, q, 0)]) ((w1.setCell ⟨w.heap.size + 4, 0, none⟩ (.slice a1 (pre.length + 1) c1)).setCell ⟨w.heap.size + 5, 0, none⟩ (.int .i64 (IntKind.i64.wrap ((u : Int) + q)))) := by
 have hsz := HI.sz
 have hsz1 := hgrow.size
 simp at hsz1
 have hB1 : Below w.heap.size w w1 := by
  refine ((HI.below.alloc HI.below.size _).drew).grown hgrow (by simp; omega) (fun k hk => ?_)
  have := (hV.lt k hk).1
  omega
 refine ⟨KeepsOthers.from ?_ _, ⟨?_, ?_⟩, ⟨⟨.slice a1 (pre.length + 1) c1, ?_, ?_⟩, ?_, ?_, ?_, ?_, ?_, ?_, ?_, ?_⟩⟩
 ·refine ((((KeepsOthers.alloc W _).trans (KeepsOthers.drew _)).trans (KeepsOthers.of_grownBy hgrow fun j o ej hj => ?_)).trans (KeepsOthers.setCell _ _ _)).trans (KeepsOthers.setCell _ _ _)
  have h2 := GI hV (((Ext.refl (fun _ => False) W).alloc (.cells #[.string (bsOf t)] 9)).drew) (fun _ _ h => h)
  rcases h2.2 with ⟨h0, _⟩ | ⟨g, cap, cur, h0, _, hgb, _⟩
  ·rw [h0] at ej
   simp [Value.ownBlock] at ej
  ·rw [h0] at ej
   obtain rfl : g = j := by simpa [Value.ownBlock] using ej
   rw [hgb] at hj
   cases hj
   rfl
 ·rw [AX _ (by omega), AX _ (by omega), hk _ (by omega)]
 ·rw [AX _ (by omega), AX _ (by omega), hk _ (by omega)]
 ·exact Boxed.other (Boxed.set _ ((hk _ (by omega)).trans bV)) (by omega) _
 ·have := GI hown1 (((Ext.refl (fun k => k < w.heap.size + 8) w1).setCell (p := ⟨w.heap.size + 4, 0, none⟩) (.inl (by simp)) (.slice a1 (pre.length + 1) c1)).setCell (p := ⟨w.heap.size + 5, 0, none⟩) (.inl (by simp)) (.int .i64 (IntKind.i64.wrap ((u : Int) + q)))) (fun k hk' hlt => by have := (hown1.lt k hk').1; omega)
  simpa [strV] using this
 ·rw [Ps]
  exact Boxed.set _ (Boxed.other ((hk _ (by omega)).trans HI.at') (by omega) _)
 ·exact Boxed.other (Boxed.other ((hk _ (by omega)).trans HI.used) (by omega) _) (by omega) _
 ·exact Boxed.other (Boxed.other ((hk _ (by omega)).trans HI.r0) (by omega) _) (by omega) _
 ·exact Boxed.other (Boxed.other ((hk _ (by omega)).trans HI.r1) (by omega) _) (by omega) _
 ·exact Boxed.other (Boxed.other ((hk _ (by omega)).trans HI.r2) (by omega) _) (by omega) _
 ·intro x hx
  rcases List.mem_append.1 hx with hx | hx
  ·exact HI.ok x hx
  ·simp at hx; rw [hx]
 ·exact (hB1.setCell (p := ⟨w.heap.size + 4, 0, none⟩) (by simp) _).setCell (p := ⟨w.heap.size + 5, 0, none⟩) (by simp) _
 ·simp [World.setCell]; omega
theorem Po {s : List UInt8} {n u : Nat} (hg : Ae s = (n, u, 0)) (hn : n ≤ 256) (ok : ∀ x ∈ NC n 0 (s.drop u), x.2.2 = 0) :
 Aw s = ((NC n 0 (s.drop u)).map (·.1), u + Cy (NC n 0 (s.drop u)), 0) ∧ u + Cy (NC n 0 (s.drop u)) ≤ s.length := by
 obtain ⟨h, _⟩ := TS n 0 (s.drop u) _ rfl ok
 rw [List.drop_zero] at h
 have hl : (if NC n 0 (s.drop u) = [] then 0 else Cy (NC n 0 (s.drop u))) - 0 = Cy (NC n 0 (s.drop u)) := by
  split
  ·rename_i e
   rw [e]
   rfl
  ·omega
 rw [hl] at h
 obtain ⟨_, hb, _⟩ := Ns n (s.drop u) _ _ h
 obtain ⟨_, _, hu, _⟩ := Co hg
 rw [List.length_drop] at hb
 refine ⟨?_, by omega⟩
 unfold Aw
 rw [hg]
 simp only [ne_eq, not_true_eq_false, if_false]
 rw [if_neg (by omega), h]
 simp
theorem Pp {s : List UInt8} {n u : Nat} (hg : Ae s = (n, u, 0)) (hn : n ≤ 256) {p : List Reading} {x : Reading} (hp : p ++ [x] <+: NC n 0 (s.drop u)) (ok : ∀ y ∈ p, y.2.2 = 0) (hx : x.2.2 ≠ 0) : Aw s = ([], 0, x.2.2) := by
 have h := RD n 0 (s.drop u) p x hp ok hx
 rw [List.drop_zero] at h
 unfold Aw
 rw [hg]
 simp only [ne_eq, not_true_eq_false, if_false]
 rw [if_neg (by omega), h, if_pos hx]
theorem UH {w W : World} {u D : Nat} {ys : List Reading} {a0 : Option Addr} {c0 : Nat} {v1 : Value} (HI : Inv w u ys W) (hV : W.ownsRow (w.heap.size + 8) 9 1 (.slice a0 ys.length c0) ys.length (strV (ys.map fun x => bsOf x.1)))
 (hK : W.heap[D]? = some (.deferred (some []))) (hD : w.heap.size + 8 ≤ D) (W' : World) (hW' : W' = (((W.setCell ⟨w.heap.size, 0, none⟩ (.slice a0 ys.length c0)).setCell ⟨w.heap.size + 1, 0, none⟩ v1).setCell ⟨w.heap.size + 1 + 1, 0, none⟩ (.int .i64 0)).drew) :
 W'.heap[D]? = some (.deferred (some [])) ∧ (W'.putObj D (.deferred none)).cell? ⟨w.heap.size, 0, none⟩ = some (.slice a0 ys.length c0) ∧ (W'.putObj D (.deferred none)).cell? ⟨w.heap.size + 1, 0, none⟩ = some v1 ∧ (W'.putObj D (.deferred none)).cell? ⟨w.heap.size + 1 + 1, 0, none⟩ = some (.int .i64 0) ∧
  CU w (W'.putObj D (.deferred none)) (.slice a0 ys.length c0) (ys.map (·.1)) ∧ Below w.heap.size w (W'.putObj D (.deferred none)) := by
 have hKD : W'.heap[D]? = some (.deferred (some [])) := by
  rw [hW']
  show ((((W.setCell ⟨w.heap.size, 0, none⟩ (.slice a0 ys.length c0)).setCell ⟨w.heap.size + 1, 0, none⟩ v1).setCell ⟨w.heap.size + 1 + 1, 0, none⟩ (.int .i64 0))).heap[D]? = _
  rw [AX _ (by omega), AX _ (by omega), AX _ (by omega)]
  exact hK
 have hg := grownBy_putObj' W' D (.deferred none)
 have hr : ∀ r, some D = some r → ∃ o : Obj, W'.heap[r]? = some o ∧ o.isCells = false := fun r e => by cases e; exact ⟨_, hKD, rfl⟩
 have b0 : Boxed W' w.heap.size 106 (.slice a0 ys.length c0) := by
  rw [hW']
  exact Boxed.drew' (Boxed.other (Boxed.other (Boxed.set _ HI.r0) (by omega) _) (by omega) _)
 have b1 : Boxed W' (w.heap.size + 1) 3 v1 := by
  rw [hW']
  exact Boxed.drew' (Boxed.other (Boxed.set _ (Boxed.other HI.r1 (by omega) _)) (by omega) _)
 have b2 : Boxed W' (w.heap.size + 1 + 1) 26 (.int .i64 0) := by
  rw [hW']
  exact Boxed.drew' (Boxed.set _ (Boxed.other (Boxed.other HI.r2 (by omega) _) (by omega) _))
 have hE : Ext (fun k => k < w.heap.size + 8) W W' := by
  rw [hW']
  exact ((((Ext.refl (fun k => k < w.heap.size + 8) W).setCell (p := ⟨w.heap.size, 0, none⟩) (.inl (by simp)) _).setCell (p := ⟨w.heap.size + 1, 0, none⟩) (.inl (by simp)) _).setCell (p := ⟨w.heap.size + 1 + 1, 0, none⟩) (.inl (by simp)) _).drew
 have hO : W'.ownsRow (w.heap.size + 8) 9 1 (.slice a0 ys.length c0) ys.length (strV (ys.map fun x => bsOf x.1)) := GI hV hE (fun k hk hlt => by have := (hV.lt k hk).1; omega)
 have hO2 := ownsRow_putObj hO (.deferred none) hKD rfl
 have hB : Below w.heap.size w W' := by
  rw [hW']
  exact (((HI.below.setCell (p := ⟨w.heap.size, 0, none⟩) (by simp) _).setCell (p := ⟨w.heap.size + 1, 0, none⟩) (by simp) _).setCell (p := ⟨w.heap.size + 1 + 1, 0, none⟩) (by simp; omega) _).drew
 refine ⟨hKD, (Bc b0 hg hr).cell, (Bc b1 hg hr).cell, (Bc b2 hg hr).cell, ?_, hB.grown hg hB.size (fun k e => by cases e; omega)⟩
 have hO3 := TV (base' := w.heap.size) hO2 (fun k hk => by have := (hO2.lt k hk).1; omega)
 unfold CU
 rw [List.length_map, List.map_map]
 exact hO3
theorem FX (w : World) (s : ByteArray) (hs : s.size ≤ maxLen) (n u : Nat) (hg : Ae (bl s) = (n, u, 0)) (hn : n ≤ 256) :
 Calls Tryz.prog 81 #[.string s] w (EK w (Aw (bl s))) := by
 obtain ⟨hu1, hu7, hul, _, hmax⟩ := Co hg
 rw [AP] at hul
 have hx : bl (s.extract u s.size) = (bl s).drop u := by
  rw [Aj, List.take_of_length_le (by rw [List.length_drop, AP]; omega)]
 have hxs : (s.extract u s.size).size ≤ maxLen := by rw [ByteArray.size_extract]; unfold maxLen at hs ⊢; omega
 have hs' : s.size ≤ 9223372036854775807 := hs
 refine callsIn_wide (n := 3) |>.1 ?_
 refine callsIn_of_wp_marks func81 rfl trivial ?_ rfl
 simp only [ntmps81, List.size_toArray, List.length_cons, List.length_nil, Nat.reduceAdd, Nat.reduceSub, Array.replicate_succ, Array.replicate_zero, List.push_toArray, List.append_toArray, List.nil_append, List.cons_append]
 obtain ⟨Hg, Hx⟩ := l2h hg hx
 clear hg hx
 gi_wp2_with (refine ⟨trivial, ?_⟩; first | (gi_at_call 82; refine (callsIn_wide.2 (Bu _ s hs Hg.out)).mono ?_; rintro e w' ⟨rfl, rfl⟩) | (gi_at_call 104; refine (callsIn_wide.2 (Sy _ _ _)).mono ?_; rintro e w' ⟨rfl, rfl⟩))
 obtain ⟨W0, hW0⟩ : ∃ W0, ((((((((w.alloc (Obj.cells #[.slice none 0 0] 106)).alloc (Obj.cells #[.int .i64 0] 3)).alloc (Obj.cells #[.int .i64 0] 26)).alloc (Obj.cells #[.int .i64 ↑u] 3)).alloc (Obj.cells #[.slice none 0 0] 106)).alloc (Obj.cells #[.int .i64 ↑u] 3)).alloc (Obj.cells #[.string (s.extract u s.size)] 9)).alloc (Obj.cells #[.int .u64 ↑n] 98)) = W0 := ⟨_, rfl⟩
 have hI0 : Inv w u [] W0 := by
  rw [← hW0]
  refine ⟨⟨.slice none 0 0, (by repeat (first | (refine DX ?_; (first | (simp only [World.size_alloc]; done) | (simp only [World.size_alloc]; omega) | omega)) | refine Boxed.alloc ?_ _)), World.ownsRow_nil _ _ _ _⟩, ?_, (by repeat (first | (refine DX ?_; (first | (simp only [World.size_alloc]; done) | (simp only [World.size_alloc]; omega) | omega)) | refine Boxed.alloc ?_ _)), (by repeat (first | (refine DX ?_; (first | (simp only [World.size_alloc]; done) | (simp only [World.size_alloc]; omega) | omega)) | refine Boxed.alloc ?_ _)), (by repeat (first | (refine DX ?_; (first | (simp only [World.size_alloc]; done) | (simp only [World.size_alloc]; omega) | omega)) | refine Boxed.alloc ?_ _)), (by repeat (first | (refine DX ?_; (first | (simp only [World.size_alloc]; done) | (simp only [World.size_alloc]; omega) | omega)) | refine Boxed.alloc ?_ _)), fun x hx => by simp at hx, by go_grown, by simp⟩
  have : IntKind.i64.wrap ((u : Int) + (Cy [] : Nat)) = u := by
   show IntKind.i64.wrap ((u : Int) + ((0 : Nat) : Int)) = u
   rw [show ((u : Int) + ((0 : Nat) : Int)) = u by omega, IntWalk.i64_in _ (by omega)]
  rw [this]
  exact (by repeat (first | (refine DX ?_; (first | (simp only [World.size_alloc]; done) | (simp only [World.size_alloc]; omega) | omega)) | refine Boxed.alloc ?_ _))
 have bS : Boxed W0 (w.heap.size + 6) 9 (.string (s.extract u s.size)) := by rw [← hW0]; exact (by repeat (first | (refine DX ?_; (first | (simp only [World.size_alloc]; done) | (simp only [World.size_alloc]; omega) | omega)) | refine Boxed.alloc ?_ _))
 have bN : Boxed W0 (w.heap.size + 7) 98 (.int .u64 n) := by rw [← hW0]; exact (by repeat (first | (refine DX ?_; (first | (simp only [World.size_alloc]; done) | (simp only [World.size_alloc]; omega) | omega)) | refine Boxed.alloc ?_ _))
 have hsz : W0.heap.size = w.heap.size + 8 := by rw [← hW0]; simp
 rw [hW0]
 clear hW0
 refine wpIn_rangeFunc_ownH rfl (by omega) (gf := 123) (lb := #[.pointer (some ⟨w.heap.size + 1 + 1 + 1 + 1 + 1 + 1 + 1, 0, none⟩), .pointer (some ⟨w.heap.size + 1 + 1 + 1 + 1 + 1 + 1, 0, none⟩)]) rfl trivial (enters_of func123 (by kernel_rfl) rfl)
  (ER 2 (by omega) (w.heap.size + 6) (w.heap.size + 7) (s.extract u s.size) n hxs hn W0 bS bN) (fun h k => h.trans k) (fun W l o o' hl _ _ _ => ⟨World.putObj_heap_other (by omega), World.putObj_heap_other (by omega)⟩) (Below.refl _ _) (fun _ => rfl)
  (Inv w u) (Left w) (RL w u _ (by omega)) (fun c => Tm w c _ (by omega)) hI0
  (fun x a' W => ∃ Bx, w.heap.size + 8 ≤ Bx ∧ W.heap[Bx]? = some (.cells #[.int .i64 x.2.1, .int .i64 x.2.2] 162 (0, 0)) ∧ a' = { tmps := #[.string s, undef, .pointer (some ⟨w.heap.size, 0, none⟩), .pointer (some ⟨w.heap.size + 1, 0, none⟩), .pointer (some ⟨w.heap.size + 1 + 1, 0, none⟩), .int .u64 ↑n, .pointer (some ⟨w.heap.size + 1 + 1 + 1, 0, none⟩), .int .i64 0, .pointer (some ⟨w.heap.size + 1 + 1 + 1 + 1, 0, none⟩), .pointer (some ⟨w.heap.size + 1 + 1 + 1 + 1 + 1, 0, none⟩), .string (bsOf x.1), .pointer (some ⟨Bx, 0, none⟩),
   .tuple #[.int .u64 ↑n, .int .i64 ↑u, .int .i64 0], .string s, .tuple #[.int .u64 ↑n, .int .i64 ↑u, .int .i64 0], .int .u64 ↑n, .int .i64 ↑u, .int .i64 0, .bool false, .int .i64 0, .bool false, undef, .bool (decide ((256 : Int) < ↑n)), .int .u64 ↑n, .bool (decide ((256 : Int) < ↑n)), .int .i64 ↑u, .string s, .int .i64 ↑u, .string (s.extract u s.size), .int .u64 ↑n,
   .func (Fn.func 123) #[] #[.pointer (some ⟨w.heap.size + 1 + 1 + 1 + 1 + 1 + 1 + 1, 0, none⟩), .pointer (some ⟨w.heap.size + 1 + 1 + 1 + 1 + 1 + 1, 0, none⟩)], .string (bsOf x.1), .agg #[.int .i64 x.2.1, .int .i64 x.2.2], undef, undef, undef, undef, undef, undef, undef, undef, undef, undef, undef, undef, undef, undef, undef], defers := [] })
  (fun x a' _ X Y row hs hg hr => by
   obtain ⟨Bx, h1, h2, h3⟩ := hs
   refine ⟨Bx, h1, (hg.block Bx (AJ h2) (fun e => ?_)).trans h2, h3⟩
   obtain ⟨_, o, ho, hc⟩ := hr Bx e.symm
   rw [h2] at ho
   cases ho
   cases hc)
  ?assign ?body ?done ?stop
 case assign =>
  rintro l pre ⟨t, q, y⟩ W K hI hK
  dsimp only [encR]
  gi_wp2
  exact hK _ _ ((KeepsOthers.alloc _ _).from _) ⟨Below.heap_alloc W _ _ (by have := hI.sz; omega), Below.heap_alloc W _ _ (by have := hI.sz; omega)⟩ ((RL w u w.heap.size nR).alloc _ hI) ⟨W.heap.size, hI.sz, AL _ _, rfl⟩
 case body =>
  rintro l pre ⟨t, q, y⟩ a' W hl ⟨r, hr⟩ hI ⟨Bx, hBx, bX, rfl⟩ hlt
  have hc0 : W.cell? ⟨Bx, 0, none⟩ = some (.int .i64 q) := AO bX
  have hc1 : W.cell? ⟨Bx, 1, none⟩ = some (.int .i64 y) := AO bX
  have hr0 := hI.r0.cell
  have hr1 := hI.r1.cell
  have hr2 := hI.r2.cell
  have hf0 := hI.r0.frozen
  have hf1 := hI.r1.frozen
  have hf2 := hI.r2.frozen
  by_cases hy : y = 0
  ·subst hy
   obtain ⟨v, bV, hV⟩ := hI.out
   obtain ⟨a0, c0, rfl, _, _⟩ := ED hV
   have hsz2 := hI.sz
   have hcV := bV.cell
   have hfV := bV.frozen
   have hc5 := hI.at'.cell
   have hf5 := hI.at'.frozen
   have hc3 := hI.used.cell
   have hEt : Ext (fun _ => False) W ((W.alloc (.cells #[.string (bsOf t)] 9)).drew) := ((Ext.refl _ _).alloc _).drew
   obtain ⟨v', w1, hrun, hown1, hgrow, hat⟩ := run_app (P := Tryz.prog) ((W.alloc (.cells #[.string (bsOf t)] 9)).drew) 106 106 tyStrs (w.heap.size + 8) (.slice a0 pre.length c0) pre.length _ (GI hV hEt (fun _ _ h => h))
        (.slice (some ⟨W.heap.size, 0, none⟩) 1 1) 1 [.string (bsOf t)] (Src.ofSlice _ underlying106 _ _ _ _ rfl (by simpa using cell_one_new W (.string (bsOf t)) 9) (by simp [Value.oneCell'])) (by unfold maxLen; omega) (by omega) (by simp; omega)
   obtain ⟨a1, c1, rfl, _, _⟩ := ED hown1
   have hk : ∀ k, k < w.heap.size + 8 → w1.heap[k]? = W.heap[k]? := fun k hk => by
        rw [hgrow.block k (by simp; omega) (fun e => by have := (hV.lt k e.symm).1; omega)]
        exact Below.heap_alloc W _ k (by omega)
   have hX1 : w1.heap[Bx]? = some (.cells #[.int .i64 q, .int .i64 0] 162 (0, 0)) := by
        have hbx := AJ bX
        rw [hgrow.block Bx (by simp; omega) (Wq bX (by decide) hV)]
        exact (Below.heap_alloc W _ Bx hbx).trans bX
   have b4 : Boxed w1 (w.heap.size + 4) 106 (.slice a0 pre.length c0) := (hk _ (by omega)).trans bV
   have b5 : Boxed w1 (w.heap.size + 5) 3 _ := (hk _ (by omega)).trans hI.at'
   have b3 : Boxed w1 (w.heap.size + 3) 3 _ := (hk _ (by omega)).trans hI.used
   have d4 := b4.cell
   have d5 := b5.cell
   have d3 := b3.cell
   have e4 := b4.frozen
   have e5 := b5.frozen
   have dX0 : w1.cell? ⟨Bx, 0, none⟩ = some (.int .i64 q) := AO hX1
   have dX1 : w1.cell? ⟨Bx, 1, none⟩ = some (.int .i64 0) := AO hX1
   obtain ⟨HI, Hk, Hown, WP, Hat, HV⟩ := l6h hI hk hown1 hgrow hat hV
   clear hI hk hown1 hgrow hat hV
   clear hr0 hr1 hr2 hf0 hf1 hf2 hI0 bS bN hr hl b4 b5 b3 hX1 hEt
   have n3 : ¬ w.heap.size + 3 = W.heap.size := by omega
   have n4 : ¬ w.heap.size + 4 = W.heap.size := by omega
   have n5 : ¬ w.heap.size + 5 = W.heap.size := by omega
   have nX : ¬ Bx = W.heap.size := by have := AJ bX; omega
   have m3 : w.heap.size + 3 < W.heap.size := by omega
   have m4 : w.heap.size + 4 < W.heap.size := by omega
   have m5 : w.heap.size + 5 < W.heap.size := by omega
   have mX : Bx < W.heap.size := AJ bX
   gi_wp2
   refine IC (by kernel_rfl) (by kernel_rfl) ?_ (fun W' => W'.cell? ⟨w.heap.size + 3, 0, none⟩ = some (.int .i64 u) ∧ W'.cell? ⟨Bx, 0, none⟩ = some (.int .i64 q)) ?_
   ·rintro ⟨a, w, h⟩
    exact h
   have hS0 : W.drew.cell? ⟨w.heap.size + 3, 0, none⟩ = some (.int .i64 u) ∧ W.drew.cell? ⟨Bx, 0, none⟩ = some (.int .i64 q) := ⟨hc3, hc0⟩
   refine tkJ 1 ?_ ?_ hS0 ?_
   rotate_left
   ·intro w hSw
    go_simp
    rfl
   simp only [sq]
   refine tkJ 4 ?_ ?_ hS0 ?_
   rotate_left
   ·intro w hSw
    go_simp
    rfl
   simp only [sq]
   refine tkJ 5 ?_ ?_ hS0 ?_
   rotate_left
   ·intro w hSw
    go_simp
    rfl
   simp only [sq]
   refine tkJ 6 ?_ ?_ hS0 ?_
   rotate_left
   ·intro w hSw
    go_simp
    rfl
   simp only [sq]
   refine tkJ 7 ?_ ?_ hS0 ?_
   rotate_left
   ·intro w hSw
    go_simp
    rfl
   simp only [sq]
   refine wpAnyH_all (rs := [0, 2]) (by kernel_rfl) (by simp) ?_
   intro i hi
   simp only [List.mem_cons, List.not_mem_nil, or_false] at hi
   rcases hi with rfl | rfl
   ·refine Ap rfl (by rfl) (by go_simp; first | rfl | exact ⟨rfl, rfl⟩) ⟨?_, ?_⟩
    ·exact ⟨by go_simp, by go_simp⟩
    simp only [sq]
    refine aOne (r := 2) ?_
    refine Ap rfl (by rfl) (by go_simp; first | rfl | exact ⟨rfl, rfl⟩) ⟨?_, ?_⟩
    ·exact ⟨by go_simp, by go_simp⟩
    simp only [sq]
    refine aOne (r := 3) ?_
    refine Ap rfl (by rfl) (by go_simp; first | rfl | exact ⟨rfl, rfl⟩) ⟨?_, ?_⟩
    ·exact ⟨d3, dX0⟩
    simp only [sq]
    refine aOne (r := 8) ?_
    refine BO rfl (by rfl) (by go_simp; first | rfl | exact ⟨rfl, rfl⟩) ⟨?_, ?_⟩
    ·exact ⟨by go_simp, by go_simp⟩
    simp only [sq]
    refine aOne (r := 9) ?_
    refine BO rfl (by rfl) (by go_simp; first | rfl | exact ⟨rfl, rfl⟩) ⟨?_, ?_⟩
    ·exact ⟨by go_simp, by go_simp⟩
    simp only [sq]
    refine wpAnyH_done (by kernel_rfl) ?_ _
    show KeepsFrom _ W _ ∧ Eg _ _ W _ ∧ Inv w u _ _
    exact IP HI.out bV HV.out WP.out Hown.out Hk.out
   ·refine Ap rfl (by rfl) (by go_simp; first | rfl | exact ⟨rfl, rfl⟩) ⟨?_, ?_⟩
    ·exact ⟨by go_simp, by go_simp⟩
    simp only [sq]
    refine aOne (r := 0) ?_
    refine Ap rfl (by rfl) (by go_simp; first | rfl | exact ⟨rfl, rfl⟩) ⟨?_, ?_⟩
    ·exact ⟨by go_simp, by go_simp⟩
    simp only [sq]
    refine aOne (r := 3) ?_
    refine Ap rfl (by rfl) (by go_simp; first | rfl | exact ⟨rfl, rfl⟩) ⟨?_, ?_⟩
    ·exact ⟨d3, dX0⟩
    simp only [sq]
    refine aOne (r := 8) ?_
    refine BO rfl (by rfl) (by go_simp; first | rfl | exact ⟨rfl, rfl⟩) ⟨?_, ?_⟩
    ·exact ⟨by go_simp, by go_simp⟩
    simp only [sq]
    refine aOne (r := 9) ?_
    refine BO rfl (by rfl) (by go_simp; first | rfl | exact ⟨rfl, rfl⟩) ⟨?_, ?_⟩
    ·exact ⟨by go_simp, by go_simp⟩
    simp only [sq]
    refine wpAnyH_done (by kernel_rfl) ?_ _
    show KeepsFrom _ W _ ∧ Eg _ _ W _ ∧ Inv w u _ _
    exact IP HI.out bV HV.out WP.out Hown.out Hk.out
  ·have hb : (y != 0) = true := by rw [bne_iff_ne]; exact hy
   obtain ⟨Hy, HI⟩ := l2h hy hI
   have hB := hI.below
   have hx0 := hI.r0
   have hx1 := hI.r1
   have hx2 := hI.r2
   have hs8 := hI.sz
   clear hy hI
   clear hl bS bN hI0
   have nX0 : ¬ Bx = w.heap.size := by omega
   have nX1 : ¬ Bx = w.heap.size + 1 := by omega
   have nX2 : ¬ Bx = w.heap.size + 2 := by omega
   gi_wp2
   refine IC (by kernel_rfl) (by kernel_rfl) ?_ (fun W' => W'.cell? ⟨Bx, 1, none⟩ = some (.int .i64 y)) ?_
   ·rintro ⟨a, w, h⟩
    exact h
   have hS0 : W.drew.cell? ⟨Bx, 1, none⟩ = some (.int .i64 y) := hc1
   refine tkJ 0 ?_ ?_ hS0 ?_
   rotate_left
   ·intro w hSw
    go_simp
    rfl
   simp only [sq]
   refine tkJ 1 ?_ ?_ hS0 ?_
   rotate_left
   ·intro w hSw
    go_simp
    rfl
   simp only [sq]
   refine aOne (r := 2) ?_
   refine BO rfl (by rfl) (by go_simp; first | rfl | exact ⟨rfl, rfl⟩) ⟨by go_simp, ?_⟩
   simp only [sq]
   refine aOne (r := 3) ?_
   refine BO rfl (by rfl) (by go_simp; first | rfl | exact ⟨rfl, rfl⟩) ⟨by go_simp, ?_⟩
   simp only [sq]
   refine aOne (r := 4) ?_
   refine BO rfl (by rfl) (by go_simp; first | rfl | exact ⟨rfl, rfl⟩) ⟨by go_simp, ?_⟩
   simp only [sq]
   refine wpAnyH_done (by kernel_rfl) ?_ _
   gi_wp2
   show KeepsFrom _ W _ ∧ Left w .ret _ _
   refine ⟨KeepsOthers.from ?_ _, rfl, ⟨pre, (t, q, y), rfl, HI.out.ok, Hy.out, ?_, ?_, ?_⟩, ?_⟩
   ·exact (((KeepsOthers.drew W).trans (KeepsOthers.setCell _ _ _)).trans (KeepsOthers.setCell _ _ _)).trans (KeepsOthers.setCell _ _ _)
   ·exact Boxed.other (Boxed.other (Boxed.set _ hx0) (by omega) _) (by omega) _
   ·exact Boxed.other (Boxed.set _ (Boxed.other hx1 (by omega) _)) (by omega) _
   ·exact Boxed.set _ (Boxed.other (Boxed.other hx2 (by omega) _) (by omega) _)
   ·exact (((hB.drew).setCell (p := ⟨w.heap.size, 0, none⟩) (by simp) _).setCell (p := ⟨w.heap.size + 1, 0, none⟩) (by simp) _).setCell (p := ⟨w.heap.size + 1 + 1, 0, none⟩) (by simp; omega) _
 case done =>
  rintro D ys W hD rfl hI hK
  obtain ⟨v, bV, hV⟩ := hI.out
  obtain ⟨a0, c0, rfl, _, _⟩ := ED hV
  have hc4 := bV.cell
  have hc5 := hI.at'.cell
  have hr0 := hI.r0.cell
  have hr1 := hI.r1.cell
  have hr2 := hI.r2.cell
  have hf0 := hI.r0.frozen
  have hf1 := hI.r1.frozen
  have hf2 := hI.r2.frozen
  obtain ⟨HI, HV, HK⟩ := l3h hI hV hK
  clear hI hV hK hI0 bS bN
  gi_wp2
  refine wpIn_wide.2 ?_
  refine wp_region_noPanic ?_
  refine wp_region_held (S := fun W' => W'.cell? ⟨w.heap.size + 4, 0, none⟩ = some (.slice a0 (NC n 0 (bl (s.extract u s.size))).length c0) ∧ W'.cell? ⟨w.heap.size + 5, 0, none⟩ = some (.int .i64 (IntKind.i64.wrap ((u : Int) + (Cy (NC n 0 (bl (s.extract u s.size))) : Nat))))) (by kernel_rfl) ?_
  change wpAnyH _ _ _ _ _ _ _ _ W.drew
  have hS0 : W.drew.cell? ⟨w.heap.size + 4, 0, none⟩ = some (.slice a0 (NC n 0 (bl (s.extract u s.size))).length c0) ∧ W.drew.cell? ⟨w.heap.size + 5, 0, none⟩ = some (.int .i64 (IntKind.i64.wrap ((u : Int) + (Cy (NC n 0 (bl (s.extract u s.size))) : Nat)))) := ⟨hc4, hc5⟩
  refine tkJ 0 ?_ ?_ hS0 ?_
  rotate_left
  ·intro w hSw
   go_simp
   rfl
  simp only [sq]
  refine tkJ 1 ?_ ?_ hS0 ?_
  rotate_left
  ·intro w hSw
   go_simp
   rfl
  simp only [sq]
  refine aOne (r := 2) ?_
  refine BO rfl (by rfl) (by go_simp; first | rfl | exact ⟨rfl, rfl⟩) ⟨⟨by go_simp, by go_simp⟩, ?_⟩
  simp only [sq]
  refine aOne (r := 3) ?_
  refine BO rfl (by rfl) (by go_simp; first | rfl | exact ⟨rfl, rfl⟩) ⟨⟨by go_simp, by go_simp⟩, ?_⟩
  simp only [sq]
  refine aOne (r := 4) ?_
  refine BO rfl (by rfl) (by go_simp; first | rfl | exact ⟨rfl, rfl⟩) ⟨⟨by go_simp, by go_simp⟩, ?_⟩
  simp only [sq]
  refine wpAnyH_done (by kernel_rfl) (NoPanic.normal ?_) _
  gi_wp2
  have hD8 : w.heap.size + 8 ≤ D := by omega
  obtain ⟨W', hW'⟩ : ∃ W', W' = (((W.setCell ⟨w.heap.size, 0, none⟩ (.slice a0 (NC n 0 (bl (s.extract u s.size))).length c0)).setCell ⟨w.heap.size + 1, 0, none⟩ (.int .i64 (IntKind.i64.wrap ((u : Int) + (Cy (NC n 0 (bl (s.extract u s.size))) : Nat))))).setCell ⟨w.heap.size + 1 + 1, 0, none⟩ (.int .i64 0)).drew := ⟨_, rfl⟩
  obtain ⟨kD, k0, k1, k2, hL, hB⟩ := UH HI.out HV.out HK.out hD8 W' hW'
  rw [← hW']
  have hok := HI.out.ok
  rw [Hx.out] at hok hL k0 k1 ⊢
  obtain ⟨hgl, hle⟩ := Po Hg.out hn hok
  rw [AP] at hle
  have hwr : IntKind.i64.wrap ((u : Int) + (Cy (NC n 0 ((bl s).drop u)) : Nat)) = ((u + Cy (NC n 0 ((bl s).drop u)) : Nat) : Int) := by
   rw [IntWalk.i64_in _ (by omega)]
   omega
  rw [hwr] at k1
  refine ⟨by simp, .inl ⟨_, _, rfl, run_takeDeferred (b := D) kD, ?_⟩⟩
  refine ⟨.tuple #[.slice a0 (NC n 0 ((bl s).drop u)).length c0, .int .i64 ((u + Cy (NC n 0 ((bl s).drop u)) : Nat) : Int), .int .i64 0], ?_, ?_⟩
  ·simp [results, Tryz.results81, go_sem, k0, k1, k2]
  ·exact ⟨_, by rw [hgl], by rw [hgl]; exact hL, hB⟩
 case stop =>
  rintro D c pre W hD hpre ⟨rfl, ⟨p, x, rfl, h2, h3, h4, h5, h6⟩, hB⟩ hK
  have hr0 := h4.cell
  have hr1 := h5.cell
  have hr2 := h6.cell
  have hD8 : w.heap.size + 8 ≤ D := by omega
  obtain ⟨HK, H2, H3⟩ := l3h hK h2 h3
  clear hK hI0 bS bN h2 h3
  gi_wp2
  have hg := grownBy_putObj' W D (.deferred none)
  have hr : ∀ r, some D = some r → ∃ o : Obj, W.heap[r]? = some o ∧ o.isCells = false := fun r e => by cases e; exact ⟨_, HK.out, rfl⟩
  have k0 := (Bc h4 hg hr).cell
  have k1 := (Bc h5 hg hr).cell
  have k2 := (Bc h6 hg hr).cell
  rw [Hx.out] at hpre
  have hgl := Pp Hg.out hn hpre H2.out H3.out
  refine ⟨by simp, .inl ⟨_, _, rfl, run_takeDeferred (b := D) HK.out, ?_⟩⟩
  refine ⟨.tuple #[.slice none 0 0, .int .i64 0, .int .i64 x.2.2], ?_, ?_⟩
  ·simp [results, Tryz.results81, go_sem, k0, k1, k2]
  ·exact ⟨_, by rw [hgl]; rfl, by rw [hgl]; exact CU.nil _ _, hB.grown hg hB.size (fun k e => by cases e; omega)⟩
theorem Gt (w : World) (s : ByteArray) (hs : s.size ≤ maxLen) : Calls Tryz.prog 81 #[.string s] w (EK w (Aw (bl s))) := by
 rcases D9 (bl s) with h0 | hg | hg
 ·obtain ⟨n, u, y, hg⟩ : ∃ n u y, Ae (bl s) = (n, u, y) := ⟨_, _, _, rfl⟩
  rw [hg] at h0
  simp only at h0
  subst h0
  by_cases hn : n ≤ 256
  ·exact FX w s hs n u hg hn
  ·exact Cf w s hs (.inr (.inr ⟨n, u, hg, by omega⟩))
 ·exact Cf w s hs (.inl hg)
 ·exact Cf w s hs (.inr (.inl hg))
end OctG
namespace OctA
open Go Go.RowKit OctetS OctP OctG
def Bt (w : World) (g : List (List UInt8) × Int) (e : Ending) (w' : World) : Prop :=
 ∃ v, e = .returned (.tuple #[v, .int .i64 g.2]) ∧ CU w w' v g.1 ∧ Below w.heap.size w w'
theorem Ca (w : World) (s : ByteArray) (hs : s.size ≤ maxLen) : Calls Tryz.prog 48 #[.string s] w (Bt w (all (bl s))) := by
 have hg := Gt w s hs
 unfold maxLen at hs
 obtain ⟨l, u, y, hy⟩ : ∃ l u y, Aw (bl s) = (l, u, y) := ⟨_, _, _, rfl⟩
 unfold EK at hg
 rw [hy] at hg
 by_cases h0 : y = 0
 ·subst h0
  have hu := (Gl hy).2.1
  rw [AP] at hu
  by_cases hlt : u < s.size
  ·have hfin : all (bl s) = ([], 6) := by
        unfold all
        rw [hy]
        simp [AP, hlt]
   rw [hfin]
   have Hg := lh hg
   clear hg hfin hy
   go_enter func48, ntmps48
   go_wp2_with fail
   refine Hg.out.mono ?_
   rintro e w' ⟨v, rfl, hl, hb⟩
   obtain ⟨HL, HB⟩ := l2h hl hb
   clear hl hb
   go_wp2
   go_ret2
   exact ⟨_, rfl, CU.nil _ _, HB.out⟩
  ·have hfin : all (bl s) = (l, 0) := by
        unfold all
        rw [hy]
        simp [AP, hlt]
   rw [hfin]
   have Hg := lh hg
   clear hg hfin hy
   go_enter func48, ntmps48
   go_wp2_with fail
   refine Hg.out.mono ?_
   rintro e w' ⟨v, rfl, hl, hb⟩
   obtain ⟨HL, HB⟩ := l2h hl hb
   clear hl hb
   go_wp2
   go_ret2
   exact ⟨_, rfl, HL.out, HB.out⟩
 ·have hfin : all (bl s) = ([], y) := by
   unfold all
   rw [hy]
   simp [h0]
  rw [hfin]
  have hyb : (y != 0) = true := by simp [h0]
  have Hg := lh hg
  clear hg hfin hy
  go_enter func48, ntmps48
  go_wp2_with fail
  refine Hg.out.mono ?_
  rintro e w' ⟨v, rfl, hl, hb⟩
  obtain ⟨HL, HB⟩ := l2h hl hb
  clear hl hb
  go_wp2
  go_ret2
  exact ⟨_, rfl, CU.nil _ _, HB.out⟩
end OctA
end Go.Proofs.YtceiajepcokacaaGreatDoor
