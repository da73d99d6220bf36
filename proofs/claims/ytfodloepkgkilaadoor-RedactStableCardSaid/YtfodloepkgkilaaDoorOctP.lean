/-
  WHAT IS PROVED: what the program's octet package does, function by function: numbers, texts and lists as bytes. No condition beside those that each theorem names.
-/
import Derived.Test.YtfodloepkgkilaaDoorRows
import Derived.Test.YtfodloepkgkilaaDoorBytes
import Derived.Test.YtfodloepkgkilaaDoorOctetS
import Derived.Handy
namespace Go.Proofs.YtfodloepkgkilaaDoor.OctP
open Go Go.RowKit Go.Proofs.YtfodloepkgkilaaDoor Go.Proofs.YtfodloepkgkilaaDoor.OctetS
set_option linter.unusedVariables false
set_option linter.unusedSimpArgs false

theorem tyBytes : SliceTy Tryd.prog 69 5 1 1 (.int .u8 0) :=
  SliceTy.mk' (by kernel_rfl) (by kernel_rfl) rfl (by omega)

/-- A list of bytes of the call's own. -/
abbrev OwB (w : World) (base : Nat) (v : Value) (l : List UInt8) : Prop := Ow w base 5 1 v l.length (byV l)

/-- It grew to these bytes. -/
abbrev GrB (base : Nat) (w : World) (v : Value) (w' : World) (v' : Value) (l : List UInt8) : Prop := Gr base 5 1 w v w' v' l.length (byV l)

set_option maxHeartbeats 400000 in
theorem put_ok (w : World) (base : Nat) (v : Value) (l : List UInt8) (n : Nat) (h : OwB w base v l) (hn : n < 18446744073709551616) (hl : l.length ≤ 70000000000000) (hb : base ≤ w.heap.size) :
    Calls Tryd.prog 100 #[v, .int .u64 n] w fun e w' => ∃ v', e = .returned v' ∧ GrB base w v w' v' (l ++ num n) := by
  obtain ⟨a, cap, rfl, hcap, hm⟩ := h.form
  have H := Lib.hid h
  clear h
  go_enter Tryd.func100, Tryd.ntmps100
  go_wp2
  go_loopw [0, 1] (fun b m wr => ∃ (vb : Value) (lb : List UInt8) (mb f : Nat), b = vb ∧ m = .int .u64 mb ∧ GrB base w (.slice a l.length cap) wr vb lb ∧ lb ++ numF f mb = l ++ num n ∧ mb < 128 ^ (f + 1) ∧ mb < 18446744073709551616 ∧ lb.length + f ≤ l.length + 9) (fun _ m _ => (intOf m).toNat)
  case atStart => exact ⟨_, l, n, 9, rfl, rfl, Gr.refl H.out, rfl, by omega, hn, by omega⟩
  case round =>
    obtain ⟨vb, lb, mb, f, rfl, rfl, hG, heq, hm1, hm2, hlen⟩ := hrel
    obtain ⟨a1, cap1, rfl, hcap1, hmm1⟩ := hG.own.form
    have HG := Lib.hid hG
    have Heq := Lib.hid heq
    have Hm1 := Lib.hid hm1
    have hba := hG.ext.size
    clear hG heq hm1
    by_cases hgt : 127 < mb
    · obtain ⟨bb, hbb⟩ : ∃ bb, bb = UInt8.ofNat (mb % 128 + 128) := ⟨_, rfl⟩
      have Hbb := Lib.hid hbb
      clear hbb
      go_wp2_with (at_builtin; go_must (refine wpList_appF _ rfl _ _ _ _ rfl tyBytes base (.slice a1 lb.length cap1) lb.length (byV lb) rfl ?own (.slice (some ⟨wr.heap.size, 0, none⟩) 1 1) 1 [.int .u8 (bits BinOp.or .u8 ((mb : Int) % 256) 128)] rfl ?src (lb.length + 1) rfl (byV (lb ++ [bb])) ?hz ?h63 ?hby ?hba ?go))
      case own => exact HG.out.own.ext (((Ext.refl (fun _ => False) _).alloc _)) (fun _ _ h => h)
      case src => exact Src.ofSlice _ Tryd.underlying69 _ _ _ _ rfl (by simpa using cell_one_new wr (.int .u8 (bits BinOp.or .u8 ((mb : Int) % 256) 128)) 5) (by simp [Value.oneCell'])
      case hz => rw [bits_or128, byV_append, Hbb.out]; rfl
      case h63 => unfold maxLen; omega
      case hby => omega
      case hba => simp; omega
      case go =>
        intro a' c' w1 hown1 hgrow hat1
        have HG1 := Lib.hid (HG.out.app ((Ext.refl (fun _ => False) _).alloc _) hown1.bytes hgrow hat1 (by omega))
        go_wp2
        go_roundw
        case rel =>
          have hf := Hm1.out
          cases f with
          | zero => omega
          | succ f =>
            refine ⟨_, lb ++ [bb], mb / 128, f, rfl, by go_num, HG1.out, ?_, ?_, by omega, by simp; omega⟩
            · rw [← Heq.out, numF, if_neg (by omega), Hbb.out]
              simp
            · rw [Nat.pow_succ] at hf
              exact Nat.div_lt_of_lt_mul (by rw [Nat.mul_comm]; exact hf)
        case measure => simp [intOf]; omega
    · obtain ⟨bb, hbb⟩ : ∃ bb, bb = UInt8.ofNat mb := ⟨_, rfl⟩
      have Hbb := Lib.hid hbb
      clear hbb
      go_wp2_with (at_builtin; go_must (refine wpList_appF _ rfl _ _ _ _ rfl tyBytes base (.slice a1 lb.length cap1) lb.length (byV lb) rfl ?own (.slice (some ⟨wr.heap.size, 0, none⟩) 1 1) 1 [.int .u8 (mb : Int)] rfl ?src (lb.length + 1) rfl (byV (lb ++ [bb])) ?hz ?h63 ?hby ?hba ?go))
      case own => exact HG.out.own.ext (((Ext.refl (fun _ => False) _).alloc _)) (fun _ _ h => h)
      case src => exact Src.ofSlice _ Tryd.underlying69 _ _ _ _ rfl (by simpa using cell_one_new wr (.int .u8 (mb : Int)) 5) (by simp [Value.oneCell'])
      case hz => rw [u8_small (m := mb) (by omega), byV_append, Hbb.out]; rfl
      case h63 => unfold maxLen; omega
      case hby => omega
      case hba => simp; omega
      case go =>
        intro a' c' w1 hown1 hgrow hat1
        have HG1 := Lib.hid (HG.out.app ((Ext.refl (fun _ => False) _).alloc _) hown1.bytes hgrow hat1 (by omega))
        have Hnum : Hid (l ++ num n = lb ++ [bb]) := by
          refine Lib.hid ?_
          rw [← Heq.out, Hbb.out]
          cases f with
          | zero => rfl
          | succ f => rw [numF, if_pos (by omega)]
        go_wp2
        go_ret
        exact ⟨_, rfl, by rw [Hnum.out]; exact HG1.out⟩


theorem Num_ok (w : World) (n : Nat) (hn : n ≤ maxNum) :
    Calls Tryd.prog 71 #[.int .u64 n] w fun e w' => e = .returned (.tuple #[.string (bsOf (num n)), .int .i64 0]) ∧ Below w.heap.size w w' := by
  unfold maxNum at hn
  go_enter Tryd.func71, Tryd.ntmps71
  go_wp2_with fail
  refine (put_ok w w.heap.size (.slice none 0 0) [] n (Ow.nil _ _ _ _) (by omega) (by simp) (Nat.le_refl _)).mono ?_
  rintro e w' ⟨v', rfl, hG⟩
  have hcv := run_text' w' 69 9 5 Tryd.underlying69 Tryd.underlying5 Tryd.underlying9 v' (num n) hG.own.sl
  obtain ⟨s, hs⟩ : ∃ s, s = bsOf (num n) := ⟨_, rfl⟩
  rw [← hs] at hcv
  have Hs := Lib.hid hs
  have HB := Lib.hid hG.ofNil
  clear hs hG
  go_wp2
  go_ret2
  exact ⟨by rw [Hs.out]; rfl, HB.out⟩

theorem Num_no (w : World) (n : Nat) (hn : maxNum < n) :
    Calls Tryd.prog 71 #[.int .u64 n] w fun e w' => e = .returned (.tuple #[.string ByteArray.empty, .int .i64 1]) ∧ w = w' := by
  unfold maxNum at hn
  go_enter Tryd.func71, Tryd.ntmps71
  go_wp2
  go_ret2
  exact ⟨rfl, rfl⟩

theorem pow128 (k : Nat) : (2 : Int) ^ (7 * k) = ((128 ^ k : Nat) : Int) := by
  rw [Int.natCast_pow, Int.pow_mul]
  rfl
theorem bits_join (nn k c : Nat) (hn : nn < 128 ^ k) (hk : k < 7) (hc : c < 256) :
    bits .or .u64 (nn : Int) (IntKind.u64.wrap (IntKind.u64.wrap (bits .and .u8 (c : Int) 127) * 2 ^ (7 * k))) = ((nn + c % 128 * 128 ^ k : Nat) : Int) := by
  have h1 : bits .and .u8 (c : Int) 127 = ((c % 128 : Nat) : Int) := by
    have := u8_and_nat c 127 hc (by omega)
    rw [show (c &&& 127) = c % 128 from Nat.and_two_pow_sub_one_eq_mod c 7] at this
    exact this
  have hp : 128 ^ k ≤ 128 ^ 6 := Nat.pow_le_pow_right (by omega) (by omega)
  have hp' : 128 ^ k ≤ 4398046511104 := hp
  have hm : c % 128 * 128 ^ k ≤ 127 * 4398046511104 := Nat.mul_le_mul (by omega) hp'
  have e1 : IntKind.u64.wrap ((c % 128 : Nat) : Int) = ((c % 128 : Nat) : Int) := IntWalk.u64_in _ (by omega)
  have e2 : IntKind.u64.wrap ((c % 128 * 128 ^ k : Nat) : Int) = ((c % 128 * 128 ^ k : Nat) : Int) := IntWalk.u64_in _ (by omega)
  rw [h1, e1, pow128, ← Int.natCast_mul, e2, u64_or_nat _ _ (by omega) (by omega)]
  rw [Nat.or_comm, nat_join (7 * k) _ _ (by rw [Nat.pow_mul]; exact Nat.mul_mod_left _ _) (by rw [Nat.pow_mul]; exact hn), Nat.add_comm]

set_option maxRecDepth 100000 in
set_option maxHeartbeats 1000000 in
theorem GetNum_ok (w : World) (s : ByteArray) (hs : s.size ≤ maxLen) :
    Calls Tryd.prog 75 #[.string s] w fun e w' => e = .returned (.tuple #[.int .u64 (getNum (bl s)).1, .int .i64 (getNum (bl s)).2.1, .int .i64 (getNum (bl s)).2.2]) ∧ w = w' := by
  unfold maxLen at hs
  have h7 : s.size ≤ 7 ∨ 7 < s.size := by omega
  rcases h7 with h7 | h7
  all_goals
    go_enter Tryd.func75, Tryd.ntmps75
    go_wp2
    go_loop [11, 5] (fun i n => ∃ k nn : Nat, i = .int .i64 k ∧ n = .int .u64 nn ∧ k ≤ s.size ∧ k ≤ 7 ∧ getF (7 - k) k nn ((bl s).drop k) = getNum (bl s) ∧ nn < 128 ^ k) (fun i _ => 7 - (intOf i).toNat)
    case atStart => exact ⟨0, 0, rfl, rfl, by omega, by omega, rfl, by omega⟩
    case round =>
      obtain ⟨k, nn, rfl, rfl, hk1, hk2, hg, hn⟩ := hrel
      by_cases hlt : k < s.size ∧ k < 7
      · obtain ⟨hlt1, hlt2⟩ := hlt
        obtain ⟨b, hb⟩ : ∃ b, s[k] = b := ⟨_, rfl⟩
        have hbj := bits_join nn k b.toNat hn hlt2 b.toNat_lt
        rw [bl_drop s k hlt1, hb, show 7 - k = (7 - (k + 1)) + 1 by omega, getF] at hg
        obtain ⟨m, hm⟩ : ∃ m, nn + b.toNat % 128 * 128 ^ k = m := ⟨_, rfl⟩
        rw [hm] at hbj hg
        have hm2 : m < 128 ^ (k + 1) := by
          have : b.toNat % 128 * 128 ^ k ≤ 127 * 128 ^ k := Nat.mul_le_mul_right _ (by omega)
          rw [Nat.pow_succ]
          omega
        have Hm2 := Lib.hid hm2
        have hb8 := b.toNat_lt
        clear hm hm2 hn
        have hc : 128 ≤ b.toNat ∨ (b.toNat < 128 ∧ ((b.toNat : Int) == 0) = true ∧ 0 < k) ∨ (b.toNat < 128 ∧ ((b.toNat : Int) == 0) = false) ∨ (b.toNat < 128 ∧ k = 0) := by
          simp only [beq_iff_eq, beq_eq_false_iff_ne]
          omega
        rcases hc with hc | ⟨hc, h0, hk0⟩ | ⟨hc, h0⟩ | ⟨hc, hk0⟩
        · rw [if_pos hc] at hg
          have Hg := Lib.hid hg
          clear hg
          go_wp2
          go_round
          case rel => exact ⟨k + 1, m, by go_num, rfl, by omega, by omega, Hg.out, Hm2.out⟩
          case measure => simp [intOf]; omega
        · rw [if_neg (by omega), if_pos (.inl ⟨by simpa using h0, hk0⟩)] at hg
          have Hg := Lib.hid hg
          clear hg
          go_wp2
          go_ret3
          exact ⟨by rw [← Hg.out]; rfl, rfl⟩
        · rw [if_neg (by omega)] at hg
          have h0' : ¬ (b.toNat : Int) = 0 := by simpa using h0
          by_cases hM : 281474976710656 < m
          · rw [if_pos (.inr hM)] at hg
            have Hg := Lib.hid hg
            clear hg h0'
            go_wp2
            go_ret3
            exact ⟨by rw [← Hg.out]; rfl, rfl⟩
          · rw [if_neg (by unfold maxNum; omega)] at hg
            have Hg := Lib.hid hg
            clear hg h0'
            go_wp2
            go_ret3
            exact ⟨by rw [← Hg.out]; rfl, rfl⟩
        · rw [if_neg (by omega)] at hg
          have hM : m ≤ 281474976710656 := by
            have := Hm2.out
            rw [hk0] at this
            omega
          rw [if_neg (by unfold maxNum; omega)] at hg
          have Hg := Lib.hid hg
          clear hg
          have hk0' : ¬ 0 < k := by omega
          clear hk0
          cases h0 : ((b.toNat : Int) == 0)
          all_goals
            go_wp2
            go_ret3
            exact ⟨by rw [← Hg.out]; rfl, rfl⟩
      · clear hn
        by_cases h9 : 7 ≤ s.size
        · have hk : k = 7 := by omega
          rw [hk] at hg
          have Hg := Lib.hid hg
          have hk7 : 7 ≤ k := by omega
          clear hg hk
          go_wp2
          all_goals (go_ret3; exact ⟨by rw [← Hg.out]; rfl, rfl⟩)
        · have hk : k = s.size := by omega
          rw [hk, List.drop_of_length_le (by rw [bl_length]; omega), show 7 - s.size = (6 - s.size) + 1 by omega] at hg
          have Hg := Lib.hid hg
          have hk7 : s.size ≤ k := by omega
          clear hg hk
          go_wp2
          all_goals (go_ret3; exact ⟨by rw [← Hg.out]; rfl, rfl⟩)

end Go.Proofs.YtfodloepkgkilaaDoor.OctP
