/-
  WHAT IS PROVED: what the document's own answers on lists of octets are. Condition: what each theorem names.
-/
import Derived.Test.YtdmonfimdinkeaaGreatDoorRef1
namespace Go.Proofs.YtdmonfimdinkeaaGreatDoor.Ref1K
open Go Go.RowKit Go.Proofs.YtdmonfimdinkeaaGreatDoor Go.Proofs.YtdmonfimdinkeaaGreatDoor.OctetS Go.Proofs.YtdmonfimdinkeaaGreatDoor.OctP Go.Proofs.YtdmonfimdinkeaaGreatDoor.OctG Go.Proofs.YtdmonfimdinkeaaGreatDoor.Ref1N
open Go.Proofs.YtdmonfimdinkeaaGreatDoor.OctQ (tyStrs)
set_option linter.unusedVariables false
set_option linter.unusedSimpArgs false

/-- Behind some texts that were read: what the rest comes to. -/
def comb (pre : List (List UInt8)) (q : Nat) (g : List (List UInt8) × Nat × Int) : List (List UInt8) × Nat × Int := if g.2.2 = 0 then (pre ++ g.1, q + g.2.1, 0) else g

theorem comb_step (n : Nat) (s : List UInt8) (pre : List (List UInt8)) (q : Nat) (h : (getText (s.drop q)).2.2 = 0) :
    comb pre q (getTs (n + 1) (s.drop q)) = comb (pre ++ [(getText (s.drop q)).1]) (q + (getText (s.drop q)).2.1) (getTs n (s.drop (q + (getText (s.drop q)).2.1))) := by
  rw [getTs, if_neg (by simp [h]), List.drop_drop]
  unfold comb
  by_cases h2 : (getTs n (s.drop (q + (getText (s.drop q)).2.1))).2.2 = 0
  · have h4 : ¬ (getTs n (s.drop (q + (getText (s.drop q)).2.1))).2.2 ≠ 0 := by simp [h2]
    rw [if_neg h4]
    simp only [h2, if_true, List.append_assoc, List.singleton_append]
    rw [Nat.add_assoc]
  · rw [if_pos h2]
    simp only [h2, if_false]
    rcases getTs_why n (s.drop (q + (getText (s.drop q)).2.1)) with h3 | ⟨y, h3, _⟩
    · exact absurd h3 h2
    · rw [h3]
theorem comb_stop (n : Nat) (s : List UInt8) (pre : List (List UInt8)) (q : Nat) (h : (getText (s.drop q)).2.2 ≠ 0) :
    comb pre q (getTs (n + 1) (s.drop q)) = ([], 0, (getText (s.drop q)).2.2) := by
  rw [getTs, if_pos h]
  unfold comb
  exact if_neg h

theorem GetNum_at (w : World) (s : ByteArray) (hs : s.size ≤ maxLen) {n u : Nat} {y : Int} (hg : getNum (bl s) = (n, u, y)) :
    Calls Tryz.prog 73 #[.string s] w fun e w' => e = .returned (.tuple #[.int .u64 n, .int .i64 u, .int .i64 y]) ∧ Below w.heap.size w w' := by
  have := Ref1G.GetNum_ok w s hs
  rw [hg] at this
  exact this

set_option maxRecDepth 100000 in
set_option maxHeartbeats 1000000 in
theorem GetList_early (w : World) (s : ByteArray) (hs : s.size ≤ maxLen) (h : getNum (bl s) = (0, 0, 5) ∨ getNum (bl s) = (0, 0, 6) ∨ ∃ n u, getNum (bl s) = (n, u, 0) ∧ 256 < n) :
    Calls Tryz.prog 71 #[.string s] w (ListPost w (getList (bl s))) := by
  rcases h with hg | hg | ⟨n, u, hg, hn⟩
  · have hfin : getList (bl s) = ([], 0, 5) := by
      unfold getList
      rw [hg]
      simp
    rw [hfin]
    have Hg := Lib.hid hg
    clear hg hfin
    go_enter Tryz.func71, Tryz.ntmps71
    go_wp2_with fail
    refine (GetNum_at _ s hs Hg.out).mono ?_
    rintro e w' ⟨rfl, hb⟩
    have HB := Lib.hid hb
    clear hb
    go_wp2
    go_ret3
    exact ⟨_, rfl, ListAt.nil _ _, HB.out⟩
  · have hfin : getList (bl s) = ([], 0, 6) := by
      unfold getList
      rw [hg]
      simp
    rw [hfin]
    have Hg := Lib.hid hg
    clear hg hfin
    go_enter Tryz.func71, Tryz.ntmps71
    go_wp2_with fail
    refine (GetNum_at _ s hs Hg.out).mono ?_
    rintro e w' ⟨rfl, hb⟩
    have HB := Lib.hid hb
    clear hb
    go_wp2
    go_ret3
    exact ⟨_, rfl, ListAt.nil _ _, HB.out⟩
  · have hfin : getList (bl s) = ([], 0, 7) := by
      unfold getList
      rw [hg]
      simp [hn]
    rw [hfin]
    have Hg := Lib.hid hg
    clear hg hfin
    go_enter Tryz.func71, Tryz.ntmps71
    go_wp2_with fail
    refine (GetNum_at _ s hs Hg.out).mono ?_
    rintro e w' ⟨rfl, hb⟩
    have HB := Lib.hid hb
    clear hb
    go_wp2
    go_ret3
    exact ⟨_, rfl, ListAt.nil _ _, HB.out⟩

set_option maxRecDepth 100000 in
set_option maxHeartbeats 1000000 in
theorem GetList_late (w : World) (s : ByteArray) (hs : s.size ≤ maxLen) (n u : Nat) (hg : getNum (bl s) = (n, u, 0)) (hn : n ≤ 256) :
    Calls Tryz.prog 71 #[.string s] w (ListPost w (getList (bl s))) := by
  have hG := Ref1G.GetNum_ok w s hs
  rw [hg] at hG
  unfold Ref1G.numV at hG
  simp only at hG
  obtain ⟨hu1, hu7, hul, _, hmax⟩ := getNum_ok hg
  rw [bl_length] at hul
  unfold maxLen at hs
  have hfin : getList (bl s) = comb [] u (getTs n ((bl s).drop u)) := by
    unfold getList comb
    rw [hg]
    simp only
    rw [if_neg (by simp), if_neg (by omega)]
    by_cases h : (getTs n ((bl s).drop u)).2.2 = 0
    · simp [h]
    · rw [if_pos h, if_neg h]
      rcases getTs_why n ((bl s).drop u) with h3 | ⟨y, h3, _⟩
      · exact absurd h3 h
      · rw [h3]
  rw [hfin]
  have HG := Lib.hid hG
  have Hfin := Lib.hid hfin
  clear hG hfin hg
  go_enter Tryz.func71, Tryz.ntmps71
  go_wp2_with fail
  refine HG.out.mono ?_
  rintro e w1 ⟨rfl, hb⟩
  have HB := Lib.hid hb
  clear hb
  go_wp2
  go_loopw [6, 8, 9] (fun x y i wr => ∃ (pre : List (List UInt8)) (q k : Nat) (vo : Value), x = .int .i64 q ∧ y = vo ∧ i = .int .u64 k ∧ k ≤ n ∧ q ≤ s.size ∧ pre.length = k ∧ ListAt w wr vo pre ∧ Below w.heap.size w wr ∧ comb [] u (getTs n ((bl s).drop u)) = comb pre q (getTs (n - k) ((bl s).drop q))) (fun _ _ i _ => n - (intOf i).toNat)
  case atStart => exact ⟨[], u, 0, _, rfl, rfl, rfl, by omega, by omega, rfl, ListAt.nil _ _, HB.out, rfl⟩
  case round =>
    obtain ⟨pre, q, k, vo, rfl, rfl, rfl, hk, hq, rfl, hl, hb, heq⟩ := hrel
    obtain ⟨a0, c0, rfl, hn0, hc0⟩ := (Sl.ofOwn hl).form
    have HL := Lib.hid hl
    have HB2 := Lib.hid hb
    have Heq := Lib.hid heq
    clear hl hb heq
    by_cases hlt : pre.length < n
    · have hx : bl (s.extract q s.size) = (bl s).drop q := by
        rw [bl_extract, List.take_of_length_le (by rw [List.length_drop, bl_length]; omega)]
      have hxs : (s.extract q s.size).size = s.size - q := by rw [← bl_length, hx, List.length_drop, bl_length]
      have hT := Ref1T.GetText_ok wr (s.extract q s.size) (by rw [hxs]; unfold maxLen; omega)
      rw [hx] at hT
      obtain ⟨t, m, y, hg⟩ : ∃ t m y, getText ((bl s).drop q) = (t, m, y) := ⟨_, _, _, rfl⟩
      rw [hg] at hT
      unfold Ref1T.textV at hT
      simp only at hT
      obtain ⟨j, hj⟩ : ∃ j, n - pre.length = j + 1 := ⟨n - pre.length - 1, by omega⟩
      by_cases hy : y = 0
      · subst hy
        obtain ⟨u1, u2, _, u4, u5, u6⟩ := getText_ok hg
        rw [List.length_drop, bl_length] at u2
        have hstep := comb_step j (bl s) pre q (by rw [hg])
        rw [hg] at hstep
        simp only at hstep
        rw [← hj] at hstep
        have Hstep := Lib.hid hstep
        have HT := Lib.hid hT
        have Hj := Lib.hid hj
        clear hstep hT hg hx hj
        go_wp2_with fail
        refine HT.out.mono ?_
        rintro e w2 ⟨rfl, hb⟩
        have HL2 := Lib.hid (own_ext (S := fun _ => False) HL.out (Ext.of_below hb) (fun _ _ h => h))
        have HB3 := Lib.hid (HB2.out.trans (hb.mono HB2.out.size))
        clear hb
        obtain ⟨T, hT⟩ : ∃ T, T = bsOf t := ⟨_, rfl⟩
        rw [← hT]
        have HTT := Lib.hid hT
        clear hT
        go_wp2_with (at_builtin; go_must (refine wpList_app _ rfl _ _ _ _ rfl tyStrs w.heap.size (.slice a0 pre.length c0) pre.length (strV (pre.map bsOf)) rfl ?own (.slice (some ⟨w2.heap.size, 0, none⟩) 1 1) 1 [.string T] rfl ?src (pre.length + 1) rfl (strV ((pre ++ [t]).map bsOf)) ?hz ?h63 ?hby ?hba ?go))
        case own => exact own_ext (S := fun _ => False) HL2.out ((Ext.refl _ _).alloc _) (fun _ _ h => h)
        case src => exact Src.ofSlice _ Tryz.underlying67 _ _ _ _ rfl (by simpa using cell_one_new w2 (.string T) 9) (by simp [Value.oneCell'])
        case hz => rw [HTT.out]; simp [strV]
        case h63 => unfold maxLen; omega
        case hby => omega
        case hba => have := HB3.out.size; simp; omega
        case go =>
          intro a' c' w3 hown hgrow hat
          have HO := Lib.hid hown
          have HB4 := Lib.hid ((HB3.out.alloc HB3.out.size _).grown hgrow (by have := HB3.out.size; simp; omega) (fun k hk => by
            rcases HL2.out.2 with ⟨h, _⟩ | ⟨g, cap, cur, h, hb, _⟩ <;> (rw [h] at hk; simp [Value.ownBlock] at hk <;> omega)))
          clear hown hgrow hat
          go_wp2
          go_roundw
          case rel =>
            refine ⟨pre ++ [t], q + m, pre.length + 1, _, by go_num, rfl, by go_num, by omega, by omega, by simp, ?_, HB4.out, ?_⟩
            · unfold ListAt
              rw [List.length_append, List.map_append]
              exact HO.out
            · rw [Heq.out, Hstep.out, show n - (pre.length + 1) = j by have := Hj.out; omega]
          case measure => simp [intOf]; omega
      · have hstop := comb_stop j (bl s) pre q (by rw [hg]; exact hy)
        rw [hg] at hstop
        simp only at hstop
        rw [← hj] at hstop
        have Hstop := Lib.hid hstop
        have hyb : (y != 0) = true := by simp [hy]
        have HT := Lib.hid hT
        have Hj := Lib.hid hj
        clear hstop hT hg hx hj
        go_wp2_with fail
        refine HT.out.mono ?_
        rintro e w2 ⟨rfl, hb⟩
        have HB3 := Lib.hid (HB2.out.trans (hb.mono HB2.out.size))
        clear hb
        go_wp2
        go_ret3
        rw [Heq.out, Hstop.out]
        exact ⟨_, rfl, ListAt.nil _ _, HB3.out⟩
    · obtain rfl : n = pre.length := by omega
      have hc : comb pre q (getTs (pre.length - pre.length) ((bl s).drop q)) = (pre, q, 0) := by
        rw [Nat.sub_self]
        simp [comb, getTs]
      have Hc := Lib.hid hc
      clear hc
      go_wp2
      go_ret3
      rw [Heq.out, Hc.out]
      exact ⟨_, rfl, HL.out, HB2.out⟩

theorem GetList_ok (w : World) (s : ByteArray) (hs : s.size ≤ maxLen) : Calls Tryz.prog 71 #[.string s] w (ListPost w (getList (bl s))) := by
  rcases getNum_why (bl s) with h0 | h | h
  · obtain ⟨n, u, y, hg⟩ : ∃ n u y, getNum (bl s) = (n, u, y) := ⟨_, _, _, rfl⟩
    rw [hg] at h0
    simp only at h0
    subst h0
    by_cases hn : n ≤ 256
    · exact GetList_late w s hs n u hg hn
    · exact GetList_early w s hs (.inr (.inr ⟨n, u, hg, by omega⟩))
  · exact GetList_early w s hs (.inl h)
  · exact GetList_early w s hs (.inr (.inl h))

end Go.Proofs.YtdmonfimdinkeaaGreatDoor.Ref1K

namespace Go.Proofs.YtdmonfimdinkeaaGreatDoor.Ref1A
open Go Go.RowKit Go.Proofs.YtdmonfimdinkeaaGreatDoor Go.Proofs.YtdmonfimdinkeaaGreatDoor.OctetS Go.Proofs.YtdmonfimdinkeaaGreatDoor.OctP Go.Proofs.YtdmonfimdinkeaaGreatDoor.OctG
set_option linter.unusedVariables false
set_option linter.unusedSimpArgs false

set_option maxHeartbeats 1000000 in
theorem All_ok (w : World) (s : ByteArray) (hs : s.size ≤ maxLen) : Calls Tryz.prog 45 #[.string s] w (OctA.AllPost w (all (bl s))) := by
  have hg := Ref1K.GetList_ok w s hs
  unfold maxLen at hs
  obtain ⟨l, u, y, hy⟩ : ∃ l u y, getList (bl s) = (l, u, y) := ⟨_, _, _, rfl⟩
  unfold ListPost at hg
  rw [hy] at hg
  by_cases h0 : y = 0
  · subst h0
    have hu := (getList_ok hy).2.1
    rw [bl_length] at hu
    by_cases hlt : u < s.size
    · have hub : ((u : Int) != (s.size : Int)) = true := by simp; omega
      have hfin : all (bl s) = ([], 6) := by
        unfold all
        rw [hy]
        simp [bl_length, hlt]
      rw [hfin]
      have Hg := Lib.hid hg
      clear hg hfin hy
      go_enter Tryz.func45, Tryz.ntmps45
      go_wp2_with fail
      refine Hg.out.mono ?_
      rintro e w' ⟨v, rfl, hl, hb⟩
      have HL := Lib.hid hl
      have HB := Lib.hid hb
      clear hl hb
      go_wp2
      go_ret2
      exact ⟨_, rfl, ListAt.nil _ _, HB.out⟩
    · have hub : ((u : Int) != (s.size : Int)) = false := by simp; omega
      have hfin : all (bl s) = (l, 0) := by
        unfold all
        rw [hy]
        simp [bl_length, hlt]
      rw [hfin]
      have Hg := Lib.hid hg
      clear hg hfin hy
      go_enter Tryz.func45, Tryz.ntmps45
      go_wp2_with fail
      refine Hg.out.mono ?_
      rintro e w' ⟨v, rfl, hl, hb⟩
      have HL := Lib.hid hl
      have HB := Lib.hid hb
      clear hl hb
      go_wp2
      go_ret2
      exact ⟨_, rfl, HL.out, HB.out⟩
  · have hfin : all (bl s) = ([], y) := by
      unfold all
      rw [hy]
      simp [h0]
    rw [hfin]
    have hyb : (y != 0) = true := by simp [h0]
    have Hg := Lib.hid hg
    clear hg hfin hy
    go_enter Tryz.func45, Tryz.ntmps45
    go_wp2_with fail
    refine Hg.out.mono ?_
    rintro e w' ⟨v, rfl, hl, hb⟩
    have HL := Lib.hid hl
    have HB := Lib.hid hb
    clear hl hb
    go_wp2
    go_ret2
    exact ⟨_, rfl, ListAt.nil _ _, HB.out⟩

end Go.Proofs.YtdmonfimdinkeaaGreatDoor.Ref1A
