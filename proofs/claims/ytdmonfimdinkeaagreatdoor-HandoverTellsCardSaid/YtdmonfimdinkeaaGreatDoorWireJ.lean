/-
  WHAT IS PROVED: the reference's deal of a text, or none. Condition: what each theorem names.
-/
import Derived.Test.YtdmonfimdinkeaaGreatDoorRef1B
import Derived.Test.YtdmonfimdinkeaaGreatDoorWireE
import Derived.Test.YtdmonfimdinkeaaGreatDoorWireG
import Derived.IntWalk
namespace Go.Proofs.YtdmonfimdinkeaaGreatDoor.WireJ
open Go Go.RowKit Go.Shelf Go.Proofs.YtdmonfimdinkeaaGreatDoor Go.Proofs.YtdmonfimdinkeaaGreatDoor.OctetS Go.Proofs.YtdmonfimdinkeaaGreatDoor.IdentS Go.Proofs.YtdmonfimdinkeaaGreatDoor.EntS Go.Proofs.YtdmonfimdinkeaaGreatDoor.WireS Go.Proofs.YtdmonfimdinkeaaGreatDoor.OctG Go.Proofs.YtdmonfimdinkeaaGreatDoor.OctP Go.Proofs.YtdmonfimdinkeaaGreatDoor.OctQ Go.Proofs.YtdmonfimdinkeaaGreatDoor.OctA Go.Proofs.YtdmonfimdinkeaaGreatDoor.EventP Go.Proofs.YtdmonfimdinkeaaGreatDoor.EventC Go.Proofs.YtdmonfimdinkeaaGreatDoor.EntP Go.Proofs.YtdmonfimdinkeaaGreatDoor.WireT Go.Proofs.YtdmonfimdinkeaaGreatDoor.Steps Go.Proofs.YtdmonfimdinkeaaGreatDoor.Wr Go.Proofs.YtdmonfimdinkeaaGreatDoor.WireG
open Go.Proofs.YtdmonfimdinkeaaGreatDoor.WireE (gnI gnI_eq gnI_small)
set_option linter.unusedVariables false
set_option linter.unusedSimpArgs false

theorem exec_load_row {P : Program} {o : Oper} {a : Act} {w : World} (ty : TypeId) (x : Operand) (ho : o.op = .load ty x) (g : Nat) (hx : a.eval x = .pointer (some ⟨g, 0, none⟩)) (t : TypeId) (cs : Array Value) (fr : Nat × Nat) (d : TypeDesc) (hg : w.heap[g]? = some (.cells cs t fr))
    (hu : P.underlying ty = some d) (hd : (match d with | .struct _ | .array _ _ => true | _ => false) = true) (hz : (P.info? ty).map (·.size) = some cs.size) : (execOp a.eval o).run P w = .ok (.value (.agg cs)) w := by
  unfold execOp
  simp only [ho, hx, Instr.loadAt, Instr.sureAddr, Sem.run_bind, Sem.run_pure, Result.andThen_ok, run_loadVar_row w g t ty cs fr d hg hu hd hz]
theorem tyInts : SliceTy Tryz.prog 79 3 1 8 (.int .i64 0) := SliceTy.mk' Tryz.underlying79 (by kernel_rfl) rfl (by decide)
theorem list_cap {w0 w : World} {v : Value} {l : List (List UInt8)} (n : Nat) (h : ListAt w0 w v l) (hl : l.length = n) (h0 : n ≠ 0) :
    ∃ B cap, v = .slice (some ⟨B, 0, none⟩) n cap ∧ w0.heap.size ≤ B ∧ n ≤ cap ∧ cap ≤ maxLen ∧ ∀ j t, l[j]? = some t → w.cell? ⟨B, j, none⟩ = some (.string (bsOf t)) := by
  obtain ⟨B, cap, rfl, hB, hc⟩ := list_n n h hl h0
  obtain ⟨a, c, e, h1, h2⟩ := (Sl.ofOwn h).form
  injection e with e1 e2 e3
  subst e3
  exact ⟨B, _, rfl, hB, by rw [hl] at h1; exact h1, h2, hc⟩
/-- Four numbers: the first that is none, or all. -/
def badAt (L : List ByteArray) (k : Nat) : Prop := ∃ T, L[k]? = some T ∧ small 4096 (bl T) = none
theorem gn_ok {T : ByteArray} {n : Nat} (h : small 4096 (bl T) = some n) : getNum (bl T) = (n, T.size, 0) ∧ n ≤ 4096 := by
  obtain ⟨m, u, q, hg⟩ : ∃ m u q, getNum (bl T) = (m, u, q) := ⟨_, _, _, rfl⟩
  rcases small_cases 4096 hg with ⟨h1, h'⟩ | ⟨h1, h2, h'⟩ | ⟨h1, h2, h3, h4, h'⟩ | ⟨h1, h2, h3, h4, h'⟩
  · rw [h] at h'; cases h'
  · rw [h] at h'; cases h'
  · rw [h] at h'; cases h'
  · rw [h] at h'; cases h'; rw [hg, h1, h2, bl_length]; exact ⟨rfl, h3⟩
theorem gn_bad {T : ByteArray} (h : small 4096 (bl T) = none) : ∃ m u q, getNum (bl T) = (m, u, q) ∧ m ≤ maxNum ∧ ((q != 0) = true ∨ (q = 0 ∧ ((u : Int) != (T.size : Int)) = true) ∨ (q = 0 ∧ u = T.size ∧ 4096 < m)) := by
  obtain ⟨m, u, q, hg⟩ : ∃ m u q, getNum (bl T) = (m, u, q) := ⟨_, _, _, rfl⟩
  refine ⟨m, u, q, hg, getNum_le hg, ?_⟩
  rcases small_cases 4096 hg with ⟨h1, h'⟩ | ⟨h1, h2, h'⟩ | ⟨h1, h2, h3, h4, h'⟩ | ⟨h1, h2, h3, h4, h'⟩
  · exact .inl (by simpa using h1)
  · exact .inr (.inl ⟨h1, by rw [bl_length] at h2; simp; omega⟩)
  · exact .inr (.inr ⟨h1, by rw [← bl_length]; exact h2, h3⟩)
  · rw [h] at h'; cases h'
theorem bad_or (L : List ByteArray) : ∀ n, (∃ k, k < n ∧ badAt L k ∧ ∀ j, j < k → ¬ badAt L j) ∨ ∀ j, j < n → ¬ badAt L j
  | 0 => .inr (fun j h => by omega)
  | n + 1 => by
    rcases bad_or L n with ⟨k, h1, h2⟩ | h
    · exact .inl ⟨k, by omega, h2⟩
    · by_cases hb : badAt L n
      · exact .inl ⟨n, by omega, hb, h⟩
      · exact .inr (fun j hj => by
          by_cases e : j = n
          · rw [e]; exact hb
          · exact h j (by omega))
theorem not_bad {L : List ByteArray} {k : Nat} {T : ByteArray} (h : ¬ badAt L k) (hT : L[k]? = some T) : ∃ n, small 4096 (bl T) = some n := by
  cases hs : small 4096 (bl T) with
  | none => exact absurd ⟨T, hT, hs⟩ h
  | some n => exact ⟨n, rfl⟩
/-- The numbers' cells. -/
def intsV (l : List ByteArray) : List Value := l.map fun t => .int .i64 (gnI (bl t))
set_option maxRecDepth 100000 in
set_option maxHeartbeats 4000000 in
theorem read_bad (w : World) (s : ByteArray) (hs : s.size ≤ 140737488351232) {l : List (List UInt8)} {y : Int} (ha : all (bl s) = (l, y)) (hbad : y ≠ 0 ∨ (y = 0 ∧ l.length ≠ 6)) :
    Calls Tryz.prog 57 #[.string s] w (RB (.tuple #[.agg dlZ, .bool false]) w) := by
  have hA := fun w => Ref1A.All_ok w s (by unfold maxLen; omega)
  unfold AllPost at hA
  rw [ha] at hA
  have HALL := Lib.hid hA
  clear hA
  obtain ⟨Z, hZ⟩ : ∃ Z, Z = dlZ := ⟨_, rfl⟩
  have HLIT : Hid ((#[.int .u8 0, .string ⟨#[]⟩, .int .i64 0, .int .i64 0, .int .i64 0, .int .i64 0, .string ⟨#[]⟩] : Array Value) = Z) := Lib.hid (by rw [hZ]; kernel_rfl)
  have HZN : Hid (Z.size = 7) := Lib.hid (by rw [hZ]; kernel_rfl)
  have HZS : Hid ((Tryz.prog.info? 39).map (·.size) = some Z.size) := Lib.hid (by rw [hZ]; kernel_rfl)
  have HZO : Hid (Z.all (·.oneCell') = true) := Lib.hid (by rw [hZ]; exact by simp [dlZ, pfZ, msZ, dlA, pfA, msA, byV, zero32, Value.oneCell'])
  rw [← hZ]
  obtain ⟨w0, hw0⟩ : ∃ w0, w0 = w.alloc (.cells Z 39) := ⟨_, rfl⟩
  have hb0 : Below w.heap.size w w0 := by rw [hw0]; exact (Below.refl _ _).alloc (Nat.le_refl _) _
  have HX0 : Hid (w0.heap[w.heap.size]? = some (.cells Z 39 (0, 0))) := Lib.hid (by rw [hw0]; exact heap_new _ _)
  have lX0 := lt_row HX0.out
  have HBL0 := Lib.hid hb0
  have HW0 := Lib.hid hw0
  clear hw0 hb0 hZ
  have hcase : (y != 0) = true ∨ (y = 0 ∧ ((l.length : Int) != 6) = true) := by
    rcases hbad with h | ⟨h0, h⟩
    · exact .inl (by simpa using h)
    · exact .inr ⟨h0, by simp; omega⟩
  clear hbad ha
  rcases hcase with hy | ⟨rfl, hy⟩
  all_goals
    go_enter Tryz.func57, Tryz.ntmps57
    go_wp2_with fail
    rw [HLIT.out, ← HW0.out]
    refine (HALL.out w0).mono ?_
    rintro e w1 ⟨v, rfl, hl, hb⟩
    obtain ⟨av, cap, rfl, _, _⟩ := (Sl.ofOwn hl).form
    clear hl
    have HX1 := Lib.hid ((hb.block _ lX0).trans HX0.out)
    have lX1 := lt_row HX1.out
    have HBL1 := Lib.hid (HBL0.out.trans (hb.mono HBL0.out.size))
    clear hb 
    clear lX0
    go_wp2_with (first | (refine wpList_store_rowA rfl _ _ _ rfl w.heap.size Z rfl (by rw [← HLIT.out]; rfl) _ _ HX1.out HZS.out rfl HZO.out ?_) | fail)
    intro wf hwf
    go_wp2
    refine bodyPost_ret (v := .tuple #[.agg Z, .bool false]) (results_cell_slot rfl _ _ w.heap.size 39 Z (0, 0) _ rfl (by rw [hwf.out]; exact setRow_at HX1.out) Tryz.underlying39 rfl HZS.out rfl) rfl ⟨rfl, by rw [hwf.out]; exact below_row HBL1.out (Nat.le_refl _) _⟩

set_option maxRecDepth 100000 in
set_option maxHeartbeats 4000000 in
theorem read_no (w : World) (s : ByteArray) (hs : s.size ≤ 140737488351232) {k r a b h n : List UInt8} (ha : all (bl s) = ([k, r, a, b, h, n], 0)) (hbadk : ∀ L, L = [bsOf a, bsOf b, bsOf h, bsOf n] → ∃ f, f < 4 ∧ badAt L f ∧ ∀ j, j < f → ¬ badAt L j) :
    Calls Tryz.prog 57 #[.string s] w (RB (.tuple #[.agg dlZ, .bool false]) w) := by
  have hA := fun w => Ref1A.All_ok w s (by unfold maxLen; omega)
  unfold AllPost at hA
  rw [ha] at hA
  have HALL := Lib.hid hA
  clear hA
  obtain ⟨K, hK⟩ : ∃ bb, bb = bsOf k := ⟨_, rfl⟩
  have bK : bl K = k := by rw [hK, bl_bsOf]
  have zK : K.size ≤ 8192 := by rw [hK]; exact parts_len ha _ (by simp)
  have HK := Lib.hid hK
  obtain ⟨R, hR⟩ : ∃ bb, bb = bsOf r := ⟨_, rfl⟩
  have bR : bl R = r := by rw [hR, bl_bsOf]
  have zR : R.size ≤ 8192 := by rw [hR]; exact parts_len ha _ (by simp)
  have HR := Lib.hid hR
  obtain ⟨A, hA⟩ : ∃ bb, bb = bsOf a := ⟨_, rfl⟩
  have bA : bl A = a := by rw [hA, bl_bsOf]
  have zA : A.size ≤ 8192 := by rw [hA]; exact parts_len ha _ (by simp)
  have HA := Lib.hid hA
  obtain ⟨D, hD⟩ : ∃ bb, bb = bsOf b := ⟨_, rfl⟩
  have bD : bl D = b := by rw [hD, bl_bsOf]
  have zD : D.size ≤ 8192 := by rw [hD]; exact parts_len ha _ (by simp)
  have HD := Lib.hid hD
  obtain ⟨U, hU⟩ : ∃ bb, bb = bsOf h := ⟨_, rfl⟩
  have bU : bl U = h := by rw [hU, bl_bsOf]
  have zU : U.size ≤ 8192 := by rw [hU]; exact parts_len ha _ (by simp)
  have HU := Lib.hid hU
  obtain ⟨N, hN⟩ : ∃ bb, bb = bsOf n := ⟨_, rfl⟩
  have bN : bl N = n := by rw [hN, bl_bsOf]
  have zN : N.size ≤ 8192 := by rw [hN]; exact parts_len ha _ (by simp)
  have HN := Lib.hid hN
  obtain ⟨L, hL⟩ : ∃ L, L = [A, D, U, N] := ⟨_, rfl⟩
  have hL4 : L.length = 4 := by rw [hL]; rfl
  have hLz : ∀ T ∈ L, T.size ≤ 8192 := by
    intro T hT
    rw [hL] at hT
    simp only [List.mem_cons, List.not_mem_nil, or_false] at hT
    rcases hT with rfl | rfl | rfl | rfl <;> assumption
  obtain ⟨Z, hZ⟩ : ∃ Z, Z = dlZ := ⟨_, rfl⟩
  have HLIT : Hid ((#[.int .u8 0, .string ⟨#[]⟩, .int .i64 0, .int .i64 0, .int .i64 0, .int .i64 0, .string ⟨#[]⟩] : Array Value) = Z) := Lib.hid (by rw [hZ]; kernel_rfl)
  have HZN : Hid (Z.size = 7) := Lib.hid (by rw [hZ]; kernel_rfl)
  have HZS : Hid ((Tryz.prog.info? 39).map (·.size) = some Z.size) := Lib.hid (by rw [hZ]; kernel_rfl)
  have HZO : Hid (Z.all (·.oneCell') = true) := Lib.hid (by rw [hZ]; exact by simp [dlZ, pfZ, msZ, dlA, pfA, msA, byV, zero32, Value.oneCell'])
  rw [← hZ]
  obtain ⟨w0, hw0⟩ : ∃ w0, w0 = w.alloc (.cells Z 39) := ⟨_, rfl⟩
  have hb0 : Below w.heap.size w w0 := by rw [hw0]; exact (Below.refl _ _).alloc (Nat.le_refl _) _
  have HX0 : Hid (w0.heap[w.heap.size]? = some (.cells Z 39 (0, 0))) := Lib.hid (by rw [hw0]; exact heap_new _ _)
  have lX0 := lt_row HX0.out
  have HBL0 := Lib.hid hb0
  have HW0 := Lib.hid hw0
  clear hw0 hb0 hZ
  obtain ⟨f, hf4, ⟨TF, hTF, hTF2⟩, hfirst⟩ := hbadk L (by rw [hL, hA, hD, hU, hN])
  have Hfirst := Lib.hid hfirst
  obtain ⟨m, u, q, hg, hm, hbad⟩ := gn_bad hTF2
  unfold maxNum at hm
  have HTF := Lib.hid hTF
  have hzF := hLz TF (List.mem_of_getElem? hTF)
  have HG := Lib.hid (fun w => Ref1K.GetNum_at w TF (by unfold maxLen; omega) hg)
  have HLZ := Lib.hid hLz
  have HL4 := Lib.hid hL4
  clear hfirst hTF hTF2 hg hLz hL4 ha hbadk hK bK hR bR hA bA hD bD hU bU hN bN
  go_enter Tryz.func57, Tryz.ntmps57
  go_wp2_with fail
  rw [HLIT.out, ← HW0.out]
  refine (HALL.out w0).mono ?_
  rintro e w1 ⟨v, rfl, hl, hb⟩
  obtain ⟨B, cap, rfl, hB, hcap, hcap2, hc⟩ := list_cap 6 hl rfl (by omega)
  clear hl
  unfold maxLen at hcap2
  have hcell : ∀ j T, L[j]? = some T → w1.cell? ⟨B, 2 + j, none⟩ = some (.string T) := by
    intro j T hT
    rw [hL] at hT
    match j, hT with
    | 0, hT =>
      obtain rfl : A = T := by simpa using hT
      rw [HA.out]
      exact hc 2 _ rfl
    | 1, hT =>
      obtain rfl : D = T := by simpa using hT
      rw [HD.out]
      exact hc 3 _ rfl
    | 2, hT =>
      obtain rfl : U = T := by simpa using hT
      rw [HU.out]
      exact hc 4 _ rfl
    | 3, hT =>
      obtain rfl : N = T := by simpa using hT
      rw [HN.out]
      exact hc 5 _ rfl
  have HCELL := Lib.hid hcell
  have hc0_1 : w1.cell? ⟨B, 0, none⟩ = some (.string K) := by rw [HK.out]; exact hc 0 _ rfl
  have hc1_1 : w1.cell? ⟨B, 1, none⟩ = some (.string R) := by rw [HR.out]; exact hc 1 _ rfl
  have hBX : ¬ w.heap.size = B := by omega
  have lB := World.block_lt_of_cell? _ _ hc0_1
  clear hc hB hcell
  have HX1 := Lib.hid ((hb.block _ lX0).trans HX0.out)
  have lX1 := lt_row HX1.out
  have HBL1 := Lib.hid (HBL0.out.trans (hb.mono HBL0.out.size))
  clear hb 
  clear lX0
  have Hc0 := Lib.hid hc0_1
  have Hc1 := Lib.hid hc1_1
  clear hc0_1 hc1_1
  clear hL
  go_wp2
  go_loopw [6, 30] (fun y i wr => ∃ (k : Nat) (vo : Value), y = vo ∧ i = .int .i64 k ∧ k ≤ f ∧ wr.ownsRow w1.heap.size 3 1 vo k (intsV (L.take k)) ∧ Below w1.heap.size w1 wr) (fun _ i _ => 4 - (intOf i).toNat)
  case atStart => exact ⟨0, _, rfl, rfl, by omega, by simp only [List.take_zero, intsV, List.map_nil]; exact World.ownsRow_nil _ _ _ _, Below.refl _ _⟩
  case round =>
    obtain ⟨k, vo, rfl, rfl, hk, hl, hb⟩ := hrel
    obtain ⟨a0, c0, rfl, hn0, hc0⟩ := (Sl.ofOwn hl).form
    have HOL := Lib.hid hl
    have HB2 := Lib.hid hb
    clear hl hb
    have HNB : Hid (∀ j, j < f → ¬ badAt L j) := Hfirst
    by_cases hlt : k < f
    · skip
      obtain ⟨T, hT⟩ : ∃ T, L[k]? = some T := ⟨_, List.getElem?_eq_getElem (by have := HL4.out; omega)⟩
      have hTz := HLZ.out T (List.mem_of_getElem? hT)
      obtain ⟨n', hn'⟩ := not_bad (HNB.out k (by omega)) hT
      obtain ⟨hg', hn4⟩ := gn_ok hn'
      have hG' := fun w => Ref1K.GetNum_at w T (by unfold maxLen; omega) hg'
      have hcell := below_cell HB2.out (HCELL.out k T hT)
      have hgn : gnI (bl T) = n' := gnI_small hn'
      have htk : L.take (k + 1) = L.take k ++ [T] := by rw [List.take_add_one, hT]; rfl
      have HG' := Lib.hid hG'
      have HGN := Lib.hid hgn
      have HTK := Lib.hid htk
      have hwr : IntKind.i64.wrap (n' : Int) = n' := IntWalk.i64_in _ (by omega)
      have HWR := Lib.hid hwr
      clear hG' hgn htk hg' hn' hT hwr
      go_wp2_with fail
      refine (HG'.out _).mono ?_
      rintro e w2 ⟨rfl, hb⟩
      have HL2 := Lib.hid (own_ext (S := fun _ => False) HOL.out (Ext.of_below hb) (fun _ _ h => h))
      have HB3 := Lib.hid (HB2.out.trans (hb.mono HB2.out.size))
      clear hb hcell
      go_wp2_with (at_builtin; go_must (refine wpList_app _ rfl _ _ _ _ rfl tyInts w1.heap.size (.slice a0 k c0) k (intsV (L.take k)) rfl ?own (.slice (some ⟨w2.heap.size, 0, none⟩) 1 1) 1 [.int .i64 n'] rfl ?src (k + 1) rfl (intsV (L.take (k + 1))) ?hz ?h63 ?hby ?hba ?go))
      case own => exact own_ext (S := fun _ => False) HL2.out ((Ext.refl _ _).alloc _) (fun _ _ h => h)
      case src => exact Src.ofSlice _ Tryz.underlying79 _ _ _ _ rfl (by simpa using cell_one_new w2 (.int .i64 n') 3) (by simp [Value.oneCell'])
      case hz => rw [HTK.out]; simp [intsV, HGN.out]
      case h63 => unfold maxLen; omega
      case hby => omega
      case hba => have := HB3.out.size; simp; omega
      case go =>
        intro a' c' w3 hown hgrow hat
        have HO := Lib.hid hown
        have HB4 := Lib.hid ((HB3.out.alloc HB3.out.size _).grown hgrow (by have := HB3.out.size; simp; omega) (fun k hk => by
          rcases HL2.out.2 with ⟨h, _⟩ | ⟨g, cap, cur, h, hb, _⟩ <;> (rw [h] at hk; simp [Value.ownBlock] at hk <;> omega)))
        clear hown hgrow hat
        go_wp2
        go_roundw
        case rel => exact ⟨k + 1, _, rfl, by go_num, by omega, HO.out, HB4.out⟩
        case measure => simp [intOf]; omega
    · skip
      obtain rfl : k = f := by omega
      have hcell := below_cell HB2.out (HCELL.out k TF HTF.out)
      have hxx := (HB2.out.block _ lX1).trans HX1.out
      have HXX := Lib.hid hxx
      have hbb := HBL1.out.trans (HB2.out.mono HBL1.out.size)
      have HBB := Lib.hid hbb
      have lXX := lt_row hxx
      clear hxx hbb
      rcases hbad with hq | ⟨rfl, hq⟩ | ⟨rfl, rfl, hq⟩
      all_goals
        go_wp2_with fail
        refine (HG.out _).mono ?_
        rintro e w2 ⟨rfl, hb⟩
        have HX2 := Lib.hid ((hb.block _ lXX).trans HXX.out)
        have HBL2 := Lib.hid (HBB.out.trans (hb.mono HBB.out.size))
        clear hb
        go_wp2_with (first | (refine wpList_store_rowA rfl _ _ _ rfl w.heap.size Z rfl (by rw [← HLIT.out]; rfl) _ _ HX2.out HZS.out rfl HZO.out ?_) | fail)
        intro wf hwf
        go_wp2
        refine bodyPost_ret (v := .tuple #[.agg Z, .bool false]) (results_cell_slot rfl _ _ w.heap.size 39 Z (0, 0) _ rfl (by rw [hwf.out]; exact setRow_at HX2.out) Tryz.underlying39 rfl HZS.out rfl) rfl ⟨rfl, by rw [hwf.out]; exact below_row HBL2.out (Nat.le_refl _) _⟩

set_option maxRecDepth 100000 in
set_option maxHeartbeats 4000000 in
theorem read_miss (w : World) (s : ByteArray) (hs : s.size ≤ 140737488351232) {k r a b h n : List UInt8} (ha : all (bl s) = ([k, r, a, b, h, n], 0)) (hgood : ∀ L, L = [bsOf a, bsOf b, bsOf h, bsOf n] → ∀ j, j < 4 → ¬ badAt L j) (hkind : ∀ j, 1 ≤ j → j < 3 → wordD j ≠ k) :
    Calls Tryz.prog 57 #[.string s] w (RB (.tuple #[.agg dlZ, .bool false]) w) := by
  have hA := fun w => Ref1A.All_ok w s (by unfold maxLen; omega)
  unfold AllPost at hA
  rw [ha] at hA
  have HALL := Lib.hid hA
  clear hA
  obtain ⟨K, hK⟩ : ∃ bb, bb = bsOf k := ⟨_, rfl⟩
  have bK : bl K = k := by rw [hK, bl_bsOf]
  have zK : K.size ≤ 8192 := by rw [hK]; exact parts_len ha _ (by simp)
  have HK := Lib.hid hK
  obtain ⟨R, hR⟩ : ∃ bb, bb = bsOf r := ⟨_, rfl⟩
  have bR : bl R = r := by rw [hR, bl_bsOf]
  have zR : R.size ≤ 8192 := by rw [hR]; exact parts_len ha _ (by simp)
  have HR := Lib.hid hR
  obtain ⟨A, hA⟩ : ∃ bb, bb = bsOf a := ⟨_, rfl⟩
  have bA : bl A = a := by rw [hA, bl_bsOf]
  have zA : A.size ≤ 8192 := by rw [hA]; exact parts_len ha _ (by simp)
  have HA := Lib.hid hA
  obtain ⟨D, hD⟩ : ∃ bb, bb = bsOf b := ⟨_, rfl⟩
  have bD : bl D = b := by rw [hD, bl_bsOf]
  have zD : D.size ≤ 8192 := by rw [hD]; exact parts_len ha _ (by simp)
  have HD := Lib.hid hD
  obtain ⟨U, hU⟩ : ∃ bb, bb = bsOf h := ⟨_, rfl⟩
  have bU : bl U = h := by rw [hU, bl_bsOf]
  have zU : U.size ≤ 8192 := by rw [hU]; exact parts_len ha _ (by simp)
  have HU := Lib.hid hU
  obtain ⟨N, hN⟩ : ∃ bb, bb = bsOf n := ⟨_, rfl⟩
  have bN : bl N = n := by rw [hN, bl_bsOf]
  have zN : N.size ≤ 8192 := by rw [hN]; exact parts_len ha _ (by simp)
  have HN := Lib.hid hN
  obtain ⟨L, hL⟩ : ∃ L, L = [A, D, U, N] := ⟨_, rfl⟩
  have hL4 : L.length = 4 := by rw [hL]; rfl
  have hLz : ∀ T ∈ L, T.size ≤ 8192 := by
    intro T hT
    rw [hL] at hT
    simp only [List.mem_cons, List.not_mem_nil, or_false] at hT
    rcases hT with rfl | rfl | rfl | rfl <;> assumption
  have HNB : Hid (∀ j, j < 4 → ¬ badAt L j) := Lib.hid (hgood L (by rw [hL, hA, hD, hU, hN]))
  obtain ⟨n1, hn1⟩ : ∃ x, x = gnI (bl A) := ⟨_, rfl⟩
  obtain ⟨n2, hn2⟩ : ∃ x, x = gnI (bl D) := ⟨_, rfl⟩
  obtain ⟨n3, hn3⟩ : ∃ x, x = gnI (bl U) := ⟨_, rfl⟩
  obtain ⟨n4, hn4⟩ : ∃ x, x = gnI (bl N) := ⟨_, rfl⟩
  have hints : intsV L = [.int .i64 n1, .int .i64 n2, .int .i64 n3, .int .i64 n4] := by rw [hL, hn1, hn2, hn3, hn4]; rfl
  have HI := Lib.hid hints
  obtain ⟨wd1, hwd1⟩ : ∃ x, x = bsOf (wordD 1) := ⟨_, rfl⟩
  have HWD1 := Lib.hid (fun w => word_ok w 1 (by omega) (by omega))
  rw [← hwd1] at HWD1
  obtain ⟨wd2, hwd2⟩ : ∃ x, x = bsOf (wordD 2) := ⟨_, rfl⟩
  have HWD2 := Lib.hid (fun w => word_ok w 2 (by omega) (by omega))
  rw [← hwd2] at HWD2
  have hne1 : (wd1.toList == K.toList) = false := str_ne (fun h => hkind 1 (by omega) (by omega) (by rw [← bK, ← h, hwd1, bl_bsOf]))
  have hne2 : (wd2.toList == K.toList) = false := str_ne (fun h => hkind 2 (by omega) (by omega) (by rw [← bK, ← h, hwd2, bl_bsOf]))
  show Calls _ _ _ w (RB (.tuple #[.agg dlZ, .bool false]) w)
  obtain ⟨Z, hZ⟩ : ∃ Z, Z = dlZ := ⟨_, rfl⟩
  have HLIT : Hid ((#[.int .u8 0, .string ⟨#[]⟩, .int .i64 0, .int .i64 0, .int .i64 0, .int .i64 0, .string ⟨#[]⟩] : Array Value) = Z) := Lib.hid (by rw [hZ]; kernel_rfl)
  have HZN : Hid (Z.size = 7) := Lib.hid (by rw [hZ]; kernel_rfl)
  have HZS : Hid ((Tryz.prog.info? 39).map (·.size) = some Z.size) := Lib.hid (by rw [hZ]; kernel_rfl)
  have HZO : Hid (Z.all (·.oneCell') = true) := Lib.hid (by rw [hZ]; exact by simp [dlZ, pfZ, msZ, dlA, pfA, msA, byV, zero32, Value.oneCell'])
  rw [← hZ]
  obtain ⟨w0, hw0⟩ : ∃ w0, w0 = w.alloc (.cells Z 39) := ⟨_, rfl⟩
  have hb0 : Below w.heap.size w w0 := by rw [hw0]; exact (Below.refl _ _).alloc (Nat.le_refl _) _
  have HX0 : Hid (w0.heap[w.heap.size]? = some (.cells Z 39 (0, 0))) := Lib.hid (by rw [hw0]; exact heap_new _ _)
  have lX0 := lt_row HX0.out
  have HBL0 := Lib.hid hb0
  have HW0 := Lib.hid hw0
  clear hw0 hb0 hZ
  have HLZ := Lib.hid hLz
  have HL4 := Lib.hid hL4
  clear hints hLz hL4 ha hgood hn1 hn2 hn3 hn4 hwd1 hwd2 hkind hK bK hR bR hA bA hD bD hU bU hN bN
  go_enter Tryz.func57, Tryz.ntmps57
  go_wp2_with fail
  rw [HLIT.out, ← HW0.out]
  refine (HALL.out w0).mono ?_
  rintro e w1 ⟨v, rfl, hl, hb⟩
  obtain ⟨B, cap, rfl, hB, hcap, hcap2, hc⟩ := list_cap 6 hl rfl (by omega)
  clear hl
  unfold maxLen at hcap2
  have hcell : ∀ j T, L[j]? = some T → w1.cell? ⟨B, 2 + j, none⟩ = some (.string T) := by
    intro j T hT
    rw [hL] at hT
    match j, hT with
    | 0, hT =>
      obtain rfl : A = T := by simpa using hT
      rw [HA.out]
      exact hc 2 _ rfl
    | 1, hT =>
      obtain rfl : D = T := by simpa using hT
      rw [HD.out]
      exact hc 3 _ rfl
    | 2, hT =>
      obtain rfl : U = T := by simpa using hT
      rw [HU.out]
      exact hc 4 _ rfl
    | 3, hT =>
      obtain rfl : N = T := by simpa using hT
      rw [HN.out]
      exact hc 5 _ rfl
  have HCELL := Lib.hid hcell
  have hc0_1 : w1.cell? ⟨B, 0, none⟩ = some (.string K) := by rw [HK.out]; exact hc 0 _ rfl
  have hc1_1 : w1.cell? ⟨B, 1, none⟩ = some (.string R) := by rw [HR.out]; exact hc 1 _ rfl
  have hBX : ¬ w.heap.size = B := by omega
  have lB := World.block_lt_of_cell? _ _ hc0_1
  clear hc hB hcell
  have HX1 := Lib.hid ((hb.block _ lX0).trans HX0.out)
  have lX1 := lt_row HX1.out
  have HBL1 := Lib.hid (HBL0.out.trans (hb.mono HBL0.out.size))
  clear hb 
  clear lX0
  have Hc0 := Lib.hid hc0_1
  have Hc1 := Lib.hid hc1_1
  clear hc0_1 hc1_1
  clear hL
  go_wp2
  go_loopw [6, 30] (fun y i wr => ∃ (k : Nat) (vo : Value), y = vo ∧ i = .int .i64 k ∧ k ≤ 4 ∧ wr.ownsRow w1.heap.size 3 1 vo k (intsV (L.take k)) ∧ Below w1.heap.size w1 wr) (fun _ i _ => 4 - (intOf i).toNat)
  case atStart => exact ⟨0, _, rfl, rfl, by omega, by simp only [List.take_zero, intsV, List.map_nil]; exact World.ownsRow_nil _ _ _ _, Below.refl _ _⟩
  case round =>
    obtain ⟨k, vo, rfl, rfl, hk, hl, hb⟩ := hrel
    obtain ⟨a0, c0, rfl, hn0, hc0⟩ := (Sl.ofOwn hl).form
    have HOL := Lib.hid hl
    have HB2 := Lib.hid hb
    clear hl hb
    by_cases hlt : k < 4
    · skip
      obtain ⟨T, hT⟩ : ∃ T, L[k]? = some T := ⟨_, List.getElem?_eq_getElem (by have := HL4.out; omega)⟩
      have hTz := HLZ.out T (List.mem_of_getElem? hT)
      obtain ⟨n', hn'⟩ := not_bad (HNB.out k (by omega)) hT
      obtain ⟨hg', hn4⟩ := gn_ok hn'
      have hG' := fun w => Ref1K.GetNum_at w T (by unfold maxLen; omega) hg'
      have hcell := below_cell HB2.out (HCELL.out k T hT)
      have hgn : gnI (bl T) = n' := gnI_small hn'
      have htk : L.take (k + 1) = L.take k ++ [T] := by rw [List.take_add_one, hT]; rfl
      have HG' := Lib.hid hG'
      have HGN := Lib.hid hgn
      have HTK := Lib.hid htk
      have hwr : IntKind.i64.wrap (n' : Int) = n' := IntWalk.i64_in _ (by omega)
      have HWR := Lib.hid hwr
      clear hG' hgn htk hg' hn' hT hwr
      go_wp2_with fail
      refine (HG'.out _).mono ?_
      rintro e w2 ⟨rfl, hb⟩
      have HL2 := Lib.hid (own_ext (S := fun _ => False) HOL.out (Ext.of_below hb) (fun _ _ h => h))
      have HB3 := Lib.hid (HB2.out.trans (hb.mono HB2.out.size))
      clear hb hcell
      go_wp2_with (at_builtin; go_must (refine wpList_app _ rfl _ _ _ _ rfl tyInts w1.heap.size (.slice a0 k c0) k (intsV (L.take k)) rfl ?own (.slice (some ⟨w2.heap.size, 0, none⟩) 1 1) 1 [.int .i64 n'] rfl ?src (k + 1) rfl (intsV (L.take (k + 1))) ?hz ?h63 ?hby ?hba ?go))
      case own => exact own_ext (S := fun _ => False) HL2.out ((Ext.refl _ _).alloc _) (fun _ _ h => h)
      case src => exact Src.ofSlice _ Tryz.underlying79 _ _ _ _ rfl (by simpa using cell_one_new w2 (.int .i64 n') 3) (by simp [Value.oneCell'])
      case hz => rw [HTK.out]; simp [intsV, HGN.out]
      case h63 => unfold maxLen; omega
      case hby => omega
      case hba => have := HB3.out.size; simp; omega
      case go =>
        intro a' c' w3 hown hgrow hat
        have HO := Lib.hid hown
        have HB4 := Lib.hid ((HB3.out.alloc HB3.out.size _).grown hgrow (by have := HB3.out.size; simp; omega) (fun k hk => by
          rcases HL2.out.2 with ⟨h, _⟩ | ⟨g, cap, cur, h, hb, _⟩ <;> (rw [h] at hk; simp [Value.ownBlock] at hk <;> omega)))
        clear hown hgrow hat
        go_wp2
        go_roundw
        case rel => exact ⟨k + 1, _, rfl, by go_num, by omega, HO.out, HB4.out⟩
        case measure => simp [intOf]; omega
    · skip
      obtain rfl : k = 4 := by omega
      have hown := HOL.out
      rw [List.take_of_length_le (by rw [HL4.out]; omega), HI.out] at hown
      obtain ⟨gb, goff, hga, hgl, hgc⟩ := (Sl.ofOwn hown).plain (by simp)
      subst hga
      have hg0_2 := hgc 0 _ rfl
      rw [Nat.add_zero] at hg0_2
      have hg1_2 := hgc 1 _ rfl
      have hg2_2 := hgc 2 _ rfl
      have hg3_2 := hgc 3 _ rfl
      have hcB0 := below_cell HB2.out Hc0.out
      have hcB1 := below_cell HB2.out Hc1.out
      have hxx := (HB2.out.block _ lX1).trans HX1.out
      have HX2 := Lib.hid hxx
      have lX2 := lt_row hxx
      have HBL2 := Lib.hid (HBL1.out.trans (HB2.out.mono HBL1.out.size))
      obtain ⟨w2, hw2⟩ : ∃ w2 : World, w2 = wr := ⟨_, rfl⟩
      clear hown hgc hxx
      obtain ⟨w2, rfl⟩ : ∃ w2 : World, w2 = wr := ⟨_, rfl⟩
      have hg0x2 := hg0_2
      clear hg0_2
      have hg1x2 := hg1_2
      clear hg1_2
      have hg2x2 := hg2_2
      clear hg2_2
      have hg3x2 := hg3_2
      clear hg3_2
      have hc0x2 := hcB0
      have hc1x2 := hcB1
      clear hcB0 hcB1
      go_wp2
      refine wp_loop_rounds 3 ?_
      rw [rounds_succ]
      go_wp2_with fail
      refine wp_region_noPanic ?_
      refine Wr.region_K (S := (fun W => W.cell? ⟨B, 0, none⟩ = some (.string K))) (K := []) (by kernel_rfl) ?_
      change Wr.wpAnyK _ _ _ _ _ _ _ _ _ (World.drew w2)
      have hBL0 : Below w2.heap.size w2 (World.drew w2) := Bl.drew (Below.refl _ _)
      have hS0 : (World.drew w2).cell? ⟨B, 0, none⟩ = some (.string K) := below_cell hBL0 hc0x2
      refine Wr.wpAnyK_take (i := 0) (v := ?_) rfl (by kernel_rfl) (fun _ _ _ h => h) (Or.inl ⟨by rfl, ?_⟩) hS0 ?_
      rotate_left
      · intro wq hSw
        have q0 := hSw
        go_simp
        rfl
      simp only [Act.put, List.getElem_toArray, List.getElem_cons_zero, List.getElem_cons_succ, List.setIfInBounds_toArray, List.set_cons_zero, List.set_cons_succ]
      refine Wr.wpAnyK_take (i := 2) (v := ?_) rfl (by kernel_rfl) (fun _ _ _ h => h) (Or.inl ⟨by rfl, ?_⟩) hS0 ?_
      rotate_left
      · intro wq hSw
        have q0 := hSw
        go_simp
        rfl
      simp only [Act.put, List.getElem_toArray, List.getElem_cons_zero, List.getElem_cons_succ, List.setIfInBounds_toArray, List.set_cons_zero, List.set_cons_succ]
      refine Wr.wpAnyK_take (i := 3) (v := ?_) rfl (by kernel_rfl) (fun _ _ _ h => h) (Or.inl ⟨by rfl, ?_⟩) hS0 ?_
      rotate_left
      · intro wq hSw
        have q0 := hSw
        go_simp
        rfl
      simp only [Act.put, List.getElem_toArray, List.getElem_cons_zero, List.getElem_cons_succ, List.setIfInBounds_toArray, List.set_cons_zero, List.set_cons_succ]
      refine Wr.wpAnyK_take (i := 4) (v := ?_) rfl (by kernel_rfl) (fun _ _ _ h => h) (Or.inl ⟨by rfl, ?_⟩) hS0 ?_
      rotate_left
      · intro wq hSw
        have q0 := hSw
        go_simp
        rfl
      simp only [Act.put, List.getElem_toArray, List.getElem_cons_zero, List.getElem_cons_succ, List.setIfInBounds_toArray, List.set_cons_zero, List.set_cons_succ]
      refine Wr.wpAnyK_one (i := 1) (by kernel_rfl) ?_
      refine wpOp_call rfl (by rfl) (by go_simp; first | done | rfl | exact ⟨⟨rfl, rfl⟩, rfl⟩ | exact ⟨rfl, rfl⟩) ?_
      refine (HWD1.out (World.drew w2)).mono ?_
      rintro e w3 ⟨rfl, hb_w3⟩
      have hBL1 : Below w2.heap.size w2 w3 := hBL0.trans (hb_w3.mono hBL0.size)
      have hS1 : w3.cell? ⟨B, 0, none⟩ = some (.string K) := below_cell hBL1 hc0x2
      refine ⟨_, rfl, ?_, ?_⟩
      · exact hS1
      simp only [Act.put, List.getElem_toArray, List.getElem_cons_zero, List.getElem_cons_succ, List.setIfInBounds_toArray, List.set_cons_zero, List.set_cons_succ]
      refine Wr.wpAnyK_take (i := 5) (v := ?_) rfl (by kernel_rfl) (fun _ _ _ h => h) (Or.inl ⟨by rfl, ?_⟩) hS1 ?_
      rotate_left
      · intro wq hSw
        have q0 := hSw
        go_simp
        rfl
      simp only [Act.put, List.getElem_toArray, List.getElem_cons_zero, List.getElem_cons_succ, List.setIfInBounds_toArray, List.set_cons_zero, List.set_cons_succ]
      refine Wr.wpAnyK_done (by kernel_rfl) (NoPanic.normal ?_) _
      have hbn := hBL1
      clear hb_w3 hBL0 hS0 hBL1 hS1
      have HX3 := Lib.hid ((hbn.block _ lX2).trans HX2.out)
      have lX3 := lt_row HX3.out
      have HBL3 := Lib.hid (HBL2.out.trans (hbn.mono HBL2.out.size))
      have hg0x3 := below_cell hbn hg0x2
      have hg1x3 := below_cell hbn hg1x2
      have hg2x3 := below_cell hbn hg2x2
      have hg3x3 := below_cell hbn hg3x2
      have hc0x3 := below_cell hbn hc0x2
      have hc1x3 := below_cell hbn hc1x2
      clear hbn hg0x2 hg1x2 hg2x2 hg3x2 hc0x2 hc1x2
      clear lX2
      go_wp2
      rw [rounds_succ]
      go_wp2_with fail
      refine wp_region_noPanic ?_
      refine Wr.region_K (S := (fun W => W.cell? ⟨B, 0, none⟩ = some (.string K))) (K := []) (by kernel_rfl) ?_
      change Wr.wpAnyK _ _ _ _ _ _ _ _ _ (World.drew w3)
      have hBL0 : Below w3.heap.size w3 (World.drew w3) := Bl.drew (Below.refl _ _)
      have hS0 : (World.drew w3).cell? ⟨B, 0, none⟩ = some (.string K) := below_cell hBL0 hc0x3
      refine Wr.wpAnyK_take (i := 0) (v := ?_) rfl (by kernel_rfl) (fun _ _ _ h => h) (Or.inl ⟨by rfl, ?_⟩) hS0 ?_
      rotate_left
      · intro wq hSw
        have q0 := hSw
        go_simp
        rfl
      simp only [Act.put, List.getElem_toArray, List.getElem_cons_zero, List.getElem_cons_succ, List.setIfInBounds_toArray, List.set_cons_zero, List.set_cons_succ]
      refine Wr.wpAnyK_take (i := 2) (v := ?_) rfl (by kernel_rfl) (fun _ _ _ h => h) (Or.inl ⟨by rfl, ?_⟩) hS0 ?_
      rotate_left
      · intro wq hSw
        have q0 := hSw
        go_simp
        rfl
      simp only [Act.put, List.getElem_toArray, List.getElem_cons_zero, List.getElem_cons_succ, List.setIfInBounds_toArray, List.set_cons_zero, List.set_cons_succ]
      refine Wr.wpAnyK_take (i := 3) (v := ?_) rfl (by kernel_rfl) (fun _ _ _ h => h) (Or.inl ⟨by rfl, ?_⟩) hS0 ?_
      rotate_left
      · intro wq hSw
        have q0 := hSw
        go_simp
        rfl
      simp only [Act.put, List.getElem_toArray, List.getElem_cons_zero, List.getElem_cons_succ, List.setIfInBounds_toArray, List.set_cons_zero, List.set_cons_succ]
      refine Wr.wpAnyK_take (i := 4) (v := ?_) rfl (by kernel_rfl) (fun _ _ _ h => h) (Or.inl ⟨by rfl, ?_⟩) hS0 ?_
      rotate_left
      · intro wq hSw
        have q0 := hSw
        go_simp
        rfl
      simp only [Act.put, List.getElem_toArray, List.getElem_cons_zero, List.getElem_cons_succ, List.setIfInBounds_toArray, List.set_cons_zero, List.set_cons_succ]
      refine Wr.wpAnyK_one (i := 1) (by kernel_rfl) ?_
      refine wpOp_call rfl (by rfl) (by go_simp; first | done | rfl | exact ⟨⟨rfl, rfl⟩, rfl⟩ | exact ⟨rfl, rfl⟩) ?_
      refine (HWD2.out (World.drew w3)).mono ?_
      rintro e w4 ⟨rfl, hb_w4⟩
      have hBL1 : Below w3.heap.size w3 w4 := hBL0.trans (hb_w4.mono hBL0.size)
      have hS1 : w4.cell? ⟨B, 0, none⟩ = some (.string K) := below_cell hBL1 hc0x3
      refine ⟨_, rfl, ?_, ?_⟩
      · exact hS1
      simp only [Act.put, List.getElem_toArray, List.getElem_cons_zero, List.getElem_cons_succ, List.setIfInBounds_toArray, List.set_cons_zero, List.set_cons_succ]
      refine Wr.wpAnyK_take (i := 5) (v := ?_) rfl (by kernel_rfl) (fun _ _ _ h => h) (Or.inl ⟨by rfl, ?_⟩) hS1 ?_
      rotate_left
      · intro wq hSw
        have q0 := hSw
        go_simp
        rfl
      simp only [Act.put, List.getElem_toArray, List.getElem_cons_zero, List.getElem_cons_succ, List.setIfInBounds_toArray, List.set_cons_zero, List.set_cons_succ]
      refine Wr.wpAnyK_done (by kernel_rfl) (NoPanic.normal ?_) _
      have hbn := hBL1
      clear hb_w4 hBL0 hS0 hBL1 hS1
      have HX4 := Lib.hid ((hbn.block _ lX3).trans HX3.out)
      have lX4 := lt_row HX4.out
      have HBL4 := Lib.hid (HBL3.out.trans (hbn.mono HBL3.out.size))
      have hg0x4 := below_cell hbn hg0x3
      have hg1x4 := below_cell hbn hg1x3
      have hg2x4 := below_cell hbn hg2x3
      have hg3x4 := below_cell hbn hg3x3
      have hc0x4 := below_cell hbn hc0x3
      have hc1x4 := below_cell hbn hc1x3
      clear hbn hg0x3 hg1x3 hg2x3 hg3x3 hc0x3 hc1x3
      clear lX3
      go_wp2
      rw [rounds_succ]
      go_wp2_with (first | (refine wpList_store_rowA rfl _ _ _ rfl w.heap.size Z rfl (by rw [← HLIT.out]; rfl) _ _ HX4.out HZS.out rfl HZO.out ?_) | fail)
      intro wf hwf
      go_wp2
      refine bodyPost_ret (v := .tuple #[.agg Z, .bool false]) (results_cell_slot rfl _ _ w.heap.size 39 Z (0, 0) _ rfl (by rw [hwf.out]; exact setRow_at HX4.out) Tryz.underlying39 rfl HZS.out rfl) rfl ⟨rfl, by rw [hwf.out]; exact below_row HBL4.out (Nat.le_refl _) _⟩

set_option maxRecDepth 100000 in
set_option maxHeartbeats 4000000 in
theorem read_hit1 (w : World) (s : ByteArray) (hs : s.size ≤ 140737488351232) {k r a b h n : List UInt8} (ha : all (bl s) = ([k, r, a, b, h, n], 0)) (hgood : ∀ L, L = [bsOf a, bsOf b, bsOf h, bsOf n] → ∀ j, j < 4 → ¬ badAt L j) (hkind : k = wordD 1) :
    Calls Tryz.prog 57 #[.string s] w (RB (.tuple #[.agg (dlA 1 (bsOf r) (gnI a) (gnI b) (gnI h) (gnI n) ⟨#[]⟩), .bool (checkD ⟨1, r, gnI a, gnI b, gnI h, gnI n, []⟩)]) w) := by
  have hA := fun w => Ref1A.All_ok w s (by unfold maxLen; omega)
  unfold AllPost at hA
  rw [ha] at hA
  have HALL := Lib.hid hA
  clear hA
  obtain ⟨K, hK⟩ : ∃ bb, bb = bsOf k := ⟨_, rfl⟩
  have bK : bl K = k := by rw [hK, bl_bsOf]
  have zK : K.size ≤ 8192 := by rw [hK]; exact parts_len ha _ (by simp)
  have HK := Lib.hid hK
  obtain ⟨R, hR⟩ : ∃ bb, bb = bsOf r := ⟨_, rfl⟩
  have bR : bl R = r := by rw [hR, bl_bsOf]
  have zR : R.size ≤ 8192 := by rw [hR]; exact parts_len ha _ (by simp)
  have HR := Lib.hid hR
  obtain ⟨A, hA⟩ : ∃ bb, bb = bsOf a := ⟨_, rfl⟩
  have bA : bl A = a := by rw [hA, bl_bsOf]
  have zA : A.size ≤ 8192 := by rw [hA]; exact parts_len ha _ (by simp)
  have HA := Lib.hid hA
  obtain ⟨D, hD⟩ : ∃ bb, bb = bsOf b := ⟨_, rfl⟩
  have bD : bl D = b := by rw [hD, bl_bsOf]
  have zD : D.size ≤ 8192 := by rw [hD]; exact parts_len ha _ (by simp)
  have HD := Lib.hid hD
  obtain ⟨U, hU⟩ : ∃ bb, bb = bsOf h := ⟨_, rfl⟩
  have bU : bl U = h := by rw [hU, bl_bsOf]
  have zU : U.size ≤ 8192 := by rw [hU]; exact parts_len ha _ (by simp)
  have HU := Lib.hid hU
  obtain ⟨N, hN⟩ : ∃ bb, bb = bsOf n := ⟨_, rfl⟩
  have bN : bl N = n := by rw [hN, bl_bsOf]
  have zN : N.size ≤ 8192 := by rw [hN]; exact parts_len ha _ (by simp)
  have HN := Lib.hid hN
  obtain ⟨L, hL⟩ : ∃ L, L = [A, D, U, N] := ⟨_, rfl⟩
  have hL4 : L.length = 4 := by rw [hL]; rfl
  have hLz : ∀ T ∈ L, T.size ≤ 8192 := by
    intro T hT
    rw [hL] at hT
    simp only [List.mem_cons, List.not_mem_nil, or_false] at hT
    rcases hT with rfl | rfl | rfl | rfl <;> assumption
  have HNB : Hid (∀ j, j < 4 → ¬ badAt L j) := Lib.hid (hgood L (by rw [hL, hA, hD, hU, hN]))
  obtain ⟨n1, hn1⟩ : ∃ x, x = gnI (bl A) := ⟨_, rfl⟩
  obtain ⟨n2, hn2⟩ : ∃ x, x = gnI (bl D) := ⟨_, rfl⟩
  obtain ⟨n3, hn3⟩ : ∃ x, x = gnI (bl U) := ⟨_, rfl⟩
  obtain ⟨n4, hn4⟩ : ∃ x, x = gnI (bl N) := ⟨_, rfl⟩
  have hints : intsV L = [.int .i64 n1, .int .i64 n2, .int .i64 n3, .int .i64 n4] := by rw [hL, hn1, hn2, hn3, hn4]; rfl
  have HI := Lib.hid hints
  obtain ⟨wd1, hwd1⟩ : ∃ x, x = bsOf (wordD 1) := ⟨_, rfl⟩
  have HWD1 := Lib.hid (fun w => word_ok w 1 (by omega) (by omega))
  rw [← hwd1] at HWD1
  obtain ⟨wd2, hwd2⟩ : ∃ x, x = bsOf (wordD 2) := ⟨_, rfl⟩
  have HWD2 := Lib.hid (fun w => word_ok w 2 (by omega) (by omega))
  rw [← hwd2] at HWD2
  have hne1 : (wd1.toList == K.toList) = true := by rw [hwd1, hK, hkind]; exact BEq.refl _
  obtain ⟨cb, hcb⟩ : ∃ c, c = checkD ⟨1, r, n1, n2, n3, n4, []⟩ := ⟨_, rfl⟩
  have hC0 : ∀ E1, E1 = dlA 1 R n1 n2 n3 n4 ⟨#[]⟩ → ∀ w, Calls Tryz.prog 30 #[.agg E1] w (RB (.int .i64 (whyOf cb)) w) := by
    intro E1 hE1 w
    have := r_Check w E1 1 R n1 n2 n3 n4 ⟨#[]⟩ hE1 (by omega) (by omega) (by omega) (Nat.zero_le _)
    rw [show checkD (WireD.dlOf 1 R n1 n2 n3 n4 ⟨#[]⟩) = cb from by rw [hcb]; exact WireD.checkD_sig bR (Nat.zero_le _)] at this
    exact this
  rw [← bA, ← bD, ← bU, ← bN, ← hn1, ← hn2, ← hn3, ← hn4, ← hR, ← hcb]
  obtain ⟨Z, hZ⟩ : ∃ Z, Z = dlZ := ⟨_, rfl⟩
  have HLIT : Hid ((#[.int .u8 0, .string ⟨#[]⟩, .int .i64 0, .int .i64 0, .int .i64 0, .int .i64 0, .string ⟨#[]⟩] : Array Value) = Z) := Lib.hid (by rw [hZ]; kernel_rfl)
  have HZN : Hid (Z.size = 7) := Lib.hid (by rw [hZ]; kernel_rfl)
  have HZS : Hid ((Tryz.prog.info? 39).map (·.size) = some Z.size) := Lib.hid (by rw [hZ]; kernel_rfl)
  have HZO : Hid (Z.all (·.oneCell') = true) := Lib.hid (by rw [hZ]; exact by simp [dlZ, pfZ, msZ, dlA, pfA, msA, byV, zero32, Value.oneCell'])
  obtain ⟨w0, hw0⟩ : ∃ w0, w0 = w.alloc (.cells Z 39) := ⟨_, rfl⟩
  have hb0 : Below w.heap.size w w0 := by rw [hw0]; exact (Below.refl _ _).alloc (Nat.le_refl _) _
  have HX0 : Hid (w0.heap[w.heap.size]? = some (.cells Z 39 (0, 0))) := Lib.hid (by rw [hw0]; exact heap_new _ _)
  have lX0 := lt_row HX0.out
  have HBL0 := Lib.hid hb0
  have HW0 := Lib.hid hw0
  clear hw0 hb0 hZ
  obtain ⟨E1, hE1⟩ : ∃ E, E = dlA 1 R n1 n2 n3 n4 ⟨#[]⟩ := ⟨_, rfl⟩
  have hE1n : E1.size = 7 := by rw [hE1]; rfl
  have HE1S : Hid ((Tryz.prog.info? 39).map (·.size) = some E1.size) := Lib.hid (by rw [hE1n, ← HZN.out]; exact HZS.out)
  have HE1Z : Hid (Z.size = E1.size) := Lib.hid (by rw [hE1n, HZN.out])
  have HE1N : Hid (7 = E1.size) := Lib.hid hE1n.symm
  have HE1O : Hid (E1.all (·.oneCell') = true) := Lib.hid (by rw [hE1]; simp [dlA, Value.oneCell'])
  have HE1 := Lib.hid hE1
  clear hE1n
  have HC := Lib.hid (hC0 E1 hE1)
  rw [← hE1]
  clear hC0 hcb hE1
  have HLZ := Lib.hid hLz
  have HL4 := Lib.hid hL4
  clear hints hLz hL4 ha hgood hn1 hn2 hn3 hn4 hwd1 hwd2 hkind hK bK hR bR hA bA hD bD hU bU hN bN
  go_enter Tryz.func57, Tryz.ntmps57
  go_wp2_with fail
  rw [HLIT.out, ← HW0.out]
  refine (HALL.out w0).mono ?_
  rintro e w1 ⟨v, rfl, hl, hb⟩
  obtain ⟨B, cap, rfl, hB, hcap, hcap2, hc⟩ := list_cap 6 hl rfl (by omega)
  clear hl
  unfold maxLen at hcap2
  have hcell : ∀ j T, L[j]? = some T → w1.cell? ⟨B, 2 + j, none⟩ = some (.string T) := by
    intro j T hT
    rw [hL] at hT
    match j, hT with
    | 0, hT =>
      obtain rfl : A = T := by simpa using hT
      rw [HA.out]
      exact hc 2 _ rfl
    | 1, hT =>
      obtain rfl : D = T := by simpa using hT
      rw [HD.out]
      exact hc 3 _ rfl
    | 2, hT =>
      obtain rfl : U = T := by simpa using hT
      rw [HU.out]
      exact hc 4 _ rfl
    | 3, hT =>
      obtain rfl : N = T := by simpa using hT
      rw [HN.out]
      exact hc 5 _ rfl
  have HCELL := Lib.hid hcell
  have hc0_1 : w1.cell? ⟨B, 0, none⟩ = some (.string K) := by rw [HK.out]; exact hc 0 _ rfl
  have hc1_1 : w1.cell? ⟨B, 1, none⟩ = some (.string R) := by rw [HR.out]; exact hc 1 _ rfl
  have hBX : ¬ w.heap.size = B := by omega
  have lB := World.block_lt_of_cell? _ _ hc0_1
  clear hc hB hcell
  have HX1 := Lib.hid ((hb.block _ lX0).trans HX0.out)
  have lX1 := lt_row HX1.out
  have HBL1 := Lib.hid (HBL0.out.trans (hb.mono HBL0.out.size))
  clear hb 
  clear lX0
  have Hc0 := Lib.hid hc0_1
  have Hc1 := Lib.hid hc1_1
  clear hc0_1 hc1_1
  clear hL
  go_wp2
  go_loopw [6, 30] (fun y i wr => ∃ (k : Nat) (vo : Value), y = vo ∧ i = .int .i64 k ∧ k ≤ 4 ∧ wr.ownsRow w1.heap.size 3 1 vo k (intsV (L.take k)) ∧ Below w1.heap.size w1 wr) (fun _ i _ => 4 - (intOf i).toNat)
  case atStart => exact ⟨0, _, rfl, rfl, by omega, by simp only [List.take_zero, intsV, List.map_nil]; exact World.ownsRow_nil _ _ _ _, Below.refl _ _⟩
  case round =>
    obtain ⟨k, vo, rfl, rfl, hk, hl, hb⟩ := hrel
    obtain ⟨a0, c0, rfl, hn0, hc0⟩ := (Sl.ofOwn hl).form
    have HOL := Lib.hid hl
    have HB2 := Lib.hid hb
    clear hl hb
    by_cases hlt : k < 4
    · skip
      obtain ⟨T, hT⟩ : ∃ T, L[k]? = some T := ⟨_, List.getElem?_eq_getElem (by have := HL4.out; omega)⟩
      have hTz := HLZ.out T (List.mem_of_getElem? hT)
      obtain ⟨n', hn'⟩ := not_bad (HNB.out k (by omega)) hT
      obtain ⟨hg', hn4⟩ := gn_ok hn'
      have hG' := fun w => Ref1K.GetNum_at w T (by unfold maxLen; omega) hg'
      have hcell := below_cell HB2.out (HCELL.out k T hT)
      have hgn : gnI (bl T) = n' := gnI_small hn'
      have htk : L.take (k + 1) = L.take k ++ [T] := by rw [List.take_add_one, hT]; rfl
      have HG' := Lib.hid hG'
      have HGN := Lib.hid hgn
      have HTK := Lib.hid htk
      have hwr : IntKind.i64.wrap (n' : Int) = n' := IntWalk.i64_in _ (by omega)
      have HWR := Lib.hid hwr
      clear hG' hgn htk hg' hn' hT hwr
      go_wp2_with fail
      refine (HG'.out _).mono ?_
      rintro e w2 ⟨rfl, hb⟩
      have HL2 := Lib.hid (own_ext (S := fun _ => False) HOL.out (Ext.of_below hb) (fun _ _ h => h))
      have HB3 := Lib.hid (HB2.out.trans (hb.mono HB2.out.size))
      clear hb hcell
      go_wp2_with (at_builtin; go_must (refine wpList_app _ rfl _ _ _ _ rfl tyInts w1.heap.size (.slice a0 k c0) k (intsV (L.take k)) rfl ?own (.slice (some ⟨w2.heap.size, 0, none⟩) 1 1) 1 [.int .i64 n'] rfl ?src (k + 1) rfl (intsV (L.take (k + 1))) ?hz ?h63 ?hby ?hba ?go))
      case own => exact own_ext (S := fun _ => False) HL2.out ((Ext.refl _ _).alloc _) (fun _ _ h => h)
      case src => exact Src.ofSlice _ Tryz.underlying79 _ _ _ _ rfl (by simpa using cell_one_new w2 (.int .i64 n') 3) (by simp [Value.oneCell'])
      case hz => rw [HTK.out]; simp [intsV, HGN.out]
      case h63 => unfold maxLen; omega
      case hby => omega
      case hba => have := HB3.out.size; simp; omega
      case go =>
        intro a' c' w3 hown hgrow hat
        have HO := Lib.hid hown
        have HB4 := Lib.hid ((HB3.out.alloc HB3.out.size _).grown hgrow (by have := HB3.out.size; simp; omega) (fun k hk => by
          rcases HL2.out.2 with ⟨h, _⟩ | ⟨g, cap, cur, h, hb, _⟩ <;> (rw [h] at hk; simp [Value.ownBlock] at hk <;> omega)))
        clear hown hgrow hat
        go_wp2
        go_roundw
        case rel => exact ⟨k + 1, _, rfl, by go_num, by omega, HO.out, HB4.out⟩
        case measure => simp [intOf]; omega
    · skip
      obtain rfl : k = 4 := by omega
      have hown := HOL.out
      rw [List.take_of_length_le (by rw [HL4.out]; omega), HI.out] at hown
      obtain ⟨gb, goff, hga, hgl, hgc⟩ := (Sl.ofOwn hown).plain (by simp)
      subst hga
      have hg0_2 := hgc 0 _ rfl
      rw [Nat.add_zero] at hg0_2
      have hg1_2 := hgc 1 _ rfl
      have hg2_2 := hgc 2 _ rfl
      have hg3_2 := hgc 3 _ rfl
      have hcB0 := below_cell HB2.out Hc0.out
      have hcB1 := below_cell HB2.out Hc1.out
      have hxx := (HB2.out.block _ lX1).trans HX1.out
      have HX2 := Lib.hid hxx
      have lX2 := lt_row hxx
      have HBL2 := Lib.hid (HBL1.out.trans (HB2.out.mono HBL1.out.size))
      obtain ⟨w2, hw2⟩ : ∃ w2 : World, w2 = wr := ⟨_, rfl⟩
      clear hown hgc hxx
      obtain ⟨w2, rfl⟩ : ∃ w2 : World, w2 = wr := ⟨_, rfl⟩
      have hg0x2 := hg0_2
      clear hg0_2
      have hg1x2 := hg1_2
      clear hg1_2
      have hg2x2 := hg2_2
      clear hg2_2
      have hg3x2 := hg3_2
      clear hg3_2
      have hc0x2 := hcB0
      have hc1x2 := hcB1
      clear hcB0 hcB1
      go_wp2
      refine wp_loop_rounds 1 ?_
      rw [rounds_succ]
      go_wp2_with fail
      refine wp_region_noPanic ?_
      refine Wr.region_K (S := (fun W => W.cell? ⟨B, 0, none⟩ = some (.string K))) (K := []) (by kernel_rfl) ?_
      change Wr.wpAnyK _ _ _ _ _ _ _ _ _ (World.drew w2)
      have hBL0 : Below w2.heap.size w2 (World.drew w2) := Bl.drew (Below.refl _ _)
      have hS0 : (World.drew w2).cell? ⟨B, 0, none⟩ = some (.string K) := below_cell hBL0 hc0x2
      refine Wr.wpAnyK_take (i := 0) (v := ?_) rfl (by kernel_rfl) (fun _ _ _ h => h) (Or.inl ⟨by rfl, ?_⟩) hS0 ?_
      rotate_left
      · intro wq hSw
        have q0 := hSw
        go_simp
        rfl
      simp only [Act.put, List.getElem_toArray, List.getElem_cons_zero, List.getElem_cons_succ, List.setIfInBounds_toArray, List.set_cons_zero, List.set_cons_succ]
      refine Wr.wpAnyK_take (i := 2) (v := ?_) rfl (by kernel_rfl) (fun _ _ _ h => h) (Or.inl ⟨by rfl, ?_⟩) hS0 ?_
      rotate_left
      · intro wq hSw
        have q0 := hSw
        go_simp
        rfl
      simp only [Act.put, List.getElem_toArray, List.getElem_cons_zero, List.getElem_cons_succ, List.setIfInBounds_toArray, List.set_cons_zero, List.set_cons_succ]
      refine Wr.wpAnyK_take (i := 3) (v := ?_) rfl (by kernel_rfl) (fun _ _ _ h => h) (Or.inl ⟨by rfl, ?_⟩) hS0 ?_
      rotate_left
      · intro wq hSw
        have q0 := hSw
        go_simp
        rfl
      simp only [Act.put, List.getElem_toArray, List.getElem_cons_zero, List.getElem_cons_succ, List.setIfInBounds_toArray, List.set_cons_zero, List.set_cons_succ]
      refine Wr.wpAnyK_take (i := 4) (v := ?_) rfl (by kernel_rfl) (fun _ _ _ h => h) (Or.inl ⟨by rfl, ?_⟩) hS0 ?_
      rotate_left
      · intro wq hSw
        have q0 := hSw
        go_simp
        rfl
      simp only [Act.put, List.getElem_toArray, List.getElem_cons_zero, List.getElem_cons_succ, List.setIfInBounds_toArray, List.set_cons_zero, List.set_cons_succ]
      refine Wr.wpAnyK_one (i := 1) (by kernel_rfl) ?_
      refine wpOp_call rfl (by rfl) (by go_simp; first | done | rfl | exact ⟨⟨rfl, rfl⟩, rfl⟩ | exact ⟨rfl, rfl⟩) ?_
      refine (HWD1.out (World.drew w2)).mono ?_
      rintro e w3 ⟨rfl, hb_w3⟩
      have hBL1 : Below w2.heap.size w2 w3 := hBL0.trans (hb_w3.mono hBL0.size)
      have hS1 : w3.cell? ⟨B, 0, none⟩ = some (.string K) := below_cell hBL1 hc0x2
      refine ⟨_, rfl, ?_, ?_⟩
      · exact hS1
      simp only [Act.put, List.getElem_toArray, List.getElem_cons_zero, List.getElem_cons_succ, List.setIfInBounds_toArray, List.set_cons_zero, List.set_cons_succ]
      refine Wr.wpAnyK_take (i := 5) (v := ?_) rfl (by kernel_rfl) (fun _ _ _ h => h) (Or.inl ⟨by rfl, ?_⟩) hS1 ?_
      rotate_left
      · intro wq hSw
        have q0 := hSw
        go_simp
        rfl
      simp only [Act.put, List.getElem_toArray, List.getElem_cons_zero, List.getElem_cons_succ, List.setIfInBounds_toArray, List.set_cons_zero, List.set_cons_succ]
      refine Wr.wpAnyK_done (by kernel_rfl) (NoPanic.normal ?_) _
      have hbn := hBL1
      clear hb_w3 hBL0 hS0 hBL1 hS1
      have HX3 := Lib.hid ((hbn.block _ lX2).trans HX2.out)
      have lX3 := lt_row HX3.out
      have HBL3 := Lib.hid (HBL2.out.trans (hbn.mono HBL2.out.size))
      have hg0x3 := below_cell hbn hg0x2
      have hg1x3 := below_cell hbn hg1x2
      have hg2x3 := below_cell hbn hg2x2
      have hg3x3 := below_cell hbn hg3x2
      have hc0x3 := below_cell hbn hc0x2
      have hc1x3 := below_cell hbn hc1x2
      clear hbn hg0x2 hg1x2 hg2x2 hg3x2 hc0x2 hc1x2
      clear lX2
      go_wp2_with fail
      refine wp_region_noPanic ?_
      refine Wr.region_K (S := (fun W => W.cell? ⟨B, 1, none⟩ = some (.string R) ∧ W.cell? ⟨gb, goff, none⟩ = some (.int .i64 n1) ∧ W.cell? ⟨gb, goff + 1, none⟩ = some (.int .i64 n2) ∧ W.cell? ⟨gb, goff + 2, none⟩ = some (.int .i64 n3) ∧ W.cell? ⟨gb, goff + 3, none⟩ = some (.int .i64 n4))) (K := []) (by kernel_rfl) ?_
      change Wr.wpAnyK _ _ _ _ _ _ _ _ _ (World.drew w3)
      have hBL0 : Below w3.heap.size w3 (World.drew w3) := Bl.drew (Below.refl _ _)
      have hS0 : (World.drew w3).cell? ⟨B, 1, none⟩ = some (.string R) ∧ (World.drew w3).cell? ⟨gb, goff, none⟩ = some (.int .i64 n1) ∧ (World.drew w3).cell? ⟨gb, goff + 1, none⟩ = some (.int .i64 n2) ∧ (World.drew w3).cell? ⟨gb, goff + 2, none⟩ = some (.int .i64 n3) ∧ (World.drew w3).cell? ⟨gb, goff + 3, none⟩ = some (.int .i64 n4) := ⟨below_cell hBL0 hc1x3, below_cell hBL0 hg0x3, below_cell hBL0 hg1x3, below_cell hBL0 hg2x3, below_cell hBL0 hg3x3⟩
      refine Wr.wpAnyK_take (i := 0) (v := ?_) rfl (by kernel_rfl) (fun _ _ _ h => h) (Or.inl ⟨by rfl, ?_⟩) hS0 ?_
      rotate_left
      · intro wq hSw
        obtain ⟨q0, q1, q2, q3, q4⟩ := hSw
        go_simp
        rfl
      simp only [Act.put, List.getElem_toArray, List.getElem_cons_zero, List.getElem_cons_succ, List.setIfInBounds_toArray, List.set_cons_zero, List.set_cons_succ]
      refine Wr.wpAnyK_take (i := 1) (v := ?_) rfl (by kernel_rfl) (fun _ _ _ h => h) (Or.inl ⟨by rfl, ?_⟩) hS0 ?_
      rotate_left
      · intro wq hSw
        obtain ⟨q0, q1, q2, q3, q4⟩ := hSw
        go_simp
        rfl
      simp only [Act.put, List.getElem_toArray, List.getElem_cons_zero, List.getElem_cons_succ, List.setIfInBounds_toArray, List.set_cons_zero, List.set_cons_succ]
      refine Wr.wpAnyK_take (i := 2) (v := ?_) rfl (by kernel_rfl) (fun _ _ _ h => h) (Or.inl ⟨by rfl, ?_⟩) hS0 ?_
      rotate_left
      · intro wq hSw
        obtain ⟨q0, q1, q2, q3, q4⟩ := hSw
        go_simp
        rfl
      simp only [Act.put, List.getElem_toArray, List.getElem_cons_zero, List.getElem_cons_succ, List.setIfInBounds_toArray, List.set_cons_zero, List.set_cons_succ]
      refine Wr.wpAnyK_take (i := 3) (v := ?_) rfl (by kernel_rfl) (fun _ _ _ h => h) (Or.inl ⟨by rfl, ?_⟩) hS0 ?_
      rotate_left
      · intro wq hSw
        obtain ⟨q0, q1, q2, q3, q4⟩ := hSw
        go_simp
        rfl
      simp only [Act.put, List.getElem_toArray, List.getElem_cons_zero, List.getElem_cons_succ, List.setIfInBounds_toArray, List.set_cons_zero, List.set_cons_succ]
      refine Wr.wpAnyK_take (i := 4) (v := ?_) rfl (by kernel_rfl) (fun _ _ _ h => h) (Or.inl ⟨by rfl, ?_⟩) hS0 ?_
      rotate_left
      · intro wq hSw
        obtain ⟨q0, q1, q2, q3, q4⟩ := hSw
        go_simp
        rfl
      simp only [Act.put, List.getElem_toArray, List.getElem_cons_zero, List.getElem_cons_succ, List.setIfInBounds_toArray, List.set_cons_zero, List.set_cons_succ]
      refine Wr.wpAnyK_take (i := 5) (v := ?_) rfl (by kernel_rfl) (fun _ _ _ h => h) (Or.inl ⟨by rfl, ?_⟩) hS0 ?_
      rotate_left
      · intro wq hSw
        obtain ⟨q0, q1, q2, q3, q4⟩ := hSw
        go_simp
        rfl
      simp only [Act.put, List.getElem_toArray, List.getElem_cons_zero, List.getElem_cons_succ, List.setIfInBounds_toArray, List.set_cons_zero, List.set_cons_succ]
      refine Wr.wpAnyK_take (i := 6) (v := ?_) rfl (by kernel_rfl) (fun _ _ _ h => h) (Or.inl ⟨by rfl, ?_⟩) hS0 ?_
      rotate_left
      · intro wq hSw
        obtain ⟨q0, q1, q2, q3, q4⟩ := hSw
        go_simp
        rfl
      simp only [Act.put, List.getElem_toArray, List.getElem_cons_zero, List.getElem_cons_succ, List.setIfInBounds_toArray, List.set_cons_zero, List.set_cons_succ]
      refine Wr.wpAnyK_take (i := 7) (v := ?_) rfl (by kernel_rfl) (fun _ _ _ h => h) (Or.inl ⟨by rfl, ?_⟩) hS0 ?_
      rotate_left
      · intro wq hSw
        obtain ⟨q0, q1, q2, q3, q4⟩ := hSw
        go_simp
        rfl
      simp only [Act.put, List.getElem_toArray, List.getElem_cons_zero, List.getElem_cons_succ, List.setIfInBounds_toArray, List.set_cons_zero, List.set_cons_succ]
      refine Wr.wpAnyK_take (i := 8) (v := ?_) rfl (by kernel_rfl) (fun _ _ _ h => h) (Or.inl ⟨by rfl, ?_⟩) hS0 ?_
      rotate_left
      · intro wq hSw
        obtain ⟨q0, q1, q2, q3, q4⟩ := hSw
        go_simp
        rfl
      simp only [Act.put, List.getElem_toArray, List.getElem_cons_zero, List.getElem_cons_succ, List.setIfInBounds_toArray, List.set_cons_zero, List.set_cons_succ]
      refine Wr.wpAnyK_take (i := 9) (v := ?_) rfl (by kernel_rfl) (fun _ _ _ h => h) (Or.inl ⟨by rfl, ?_⟩) hS0 ?_
      rotate_left
      · intro wq hSw
        obtain ⟨q0, q1, q2, q3, q4⟩ := hSw
        go_simp
        rfl
      simp only [Act.put, List.getElem_toArray, List.getElem_cons_zero, List.getElem_cons_succ, List.setIfInBounds_toArray, List.set_cons_zero, List.set_cons_succ]
      refine Wr.wpAnyK_take (i := 10) (v := ?_) rfl (by kernel_rfl) (fun _ _ _ h => h) (Or.inl ⟨by rfl, ?_⟩) hS0 ?_
      rotate_left
      · intro wq hSw
        obtain ⟨q0, q1, q2, q3, q4⟩ := hSw
        go_simp
        rfl
      simp only [Act.put, List.getElem_toArray, List.getElem_cons_zero, List.getElem_cons_succ, List.setIfInBounds_toArray, List.set_cons_zero, List.set_cons_succ]
      refine Wr.wpAnyK_take (i := 11) (v := ?_) rfl (by kernel_rfl) (fun _ _ _ h => h) (Or.inl ⟨by rfl, ?_⟩) hS0 ?_
      rotate_left
      · intro wq hSw
        obtain ⟨q0, q1, q2, q3, q4⟩ := hSw
        go_simp
        rfl
      simp only [Act.put, List.getElem_toArray, List.getElem_cons_zero, List.getElem_cons_succ, List.setIfInBounds_toArray, List.set_cons_zero, List.set_cons_succ]
      refine Wr.wpAnyK_take (i := 12) (v := ?_) rfl (by kernel_rfl) (fun _ _ _ h => h) (Or.inl ⟨by rfl, ?_⟩) hS0 ?_
      rotate_left
      · intro wq hSw
        obtain ⟨q0, q1, q2, q3, q4⟩ := hSw
        go_simp
        rfl
      simp only [Act.put, List.getElem_toArray, List.getElem_cons_zero, List.getElem_cons_succ, List.setIfInBounds_toArray, List.set_cons_zero, List.set_cons_succ]
      refine Wr.wpAnyK_take (i := 13) (v := ?_) rfl (by kernel_rfl) (fun _ _ _ h => h) (Or.inl ⟨by rfl, ?_⟩) hS0 ?_
      rotate_left
      · intro wq hSw
        obtain ⟨q0, q1, q2, q3, q4⟩ := hSw
        go_simp
        rfl
      simp only [Act.put, List.getElem_toArray, List.getElem_cons_zero, List.getElem_cons_succ, List.setIfInBounds_toArray, List.set_cons_zero, List.set_cons_succ]
      refine Wr.wpAnyK_take (i := 14) (v := ?_) rfl (by kernel_rfl) (fun _ _ _ h => h) (Or.inl ⟨by rfl, ?_⟩) hS0 ?_
      rotate_left
      · intro wq hSw
        obtain ⟨q0, q1, q2, q3, q4⟩ := hSw
        go_simp
        rfl
      simp only [Act.put, List.getElem_toArray, List.getElem_cons_zero, List.getElem_cons_succ, List.setIfInBounds_toArray, List.set_cons_zero, List.set_cons_succ]
      refine Wr.wpAnyK_take (i := 15) (v := ?_) rfl (by kernel_rfl) (fun _ _ _ h => h) (Or.inl ⟨by rfl, ?_⟩) hS0 ?_
      rotate_left
      · intro wq hSw
        obtain ⟨q0, q1, q2, q3, q4⟩ := hSw
        go_simp
        rfl
      simp only [Act.put, List.getElem_toArray, List.getElem_cons_zero, List.getElem_cons_succ, List.setIfInBounds_toArray, List.set_cons_zero, List.set_cons_succ]
      refine Wr.wpAnyK_take (i := 16) (v := .agg E1) rfl (by kernel_rfl) (fun _ _ _ h => h) (WrC.yields_build _ _ rfl (by rfl) E1 (by rw [HE1.out]; kernel_rfl)) hS0 ?_
      simp only [Act.put, List.getElem_toArray, List.getElem_cons_zero, List.getElem_cons_succ, List.setIfInBounds_toArray, List.set_cons_zero, List.set_cons_succ]
      refine Wr.wpAnyK_one (i := 17) (by kernel_rfl) ?_
      refine wpOp_run rfl (by rfl) (w' := (World.drew w3).alloc (.cells #[.int .u8 0, .string ⟨#[]⟩, .int .i64 0, .int .i64 0, .int .i64 0, .int .i64 0, .string ⟨#[]⟩] 39)) (v := .pointer (some ⟨w3.heap.size, 0, none⟩)) (by go_simp; first | done | rfl) ?_
      obtain ⟨u1, hw_u1⟩ : ∃ u1, u1 = (World.drew w3).alloc (.cells #[.int .u8 0, .string ⟨#[]⟩, .int .i64 0, .int .i64 0, .int .i64 0, .int .i64 0, .string ⟨#[]⟩] 39) := ⟨_, rfl⟩
      rw [← hw_u1]
      have hb_u1 : Below (World.drew w3).heap.size (World.drew w3) u1 := by rw [hw_u1]; exact (Below.refl _ _).alloc (Nat.le_refl _) _
      have hn_u1 : u1.heap[(World.drew w3).heap.size]? = some (.cells #[.int .u8 0, .string ⟨#[]⟩, .int .i64 0, .int .i64 0, .int .i64 0, .int .i64 0, .string ⟨#[]⟩] 39 (0, 0)) := by rw [hw_u1]; exact heap_new' _ rfl
      have hBL1 : Below w3.heap.size w3 u1 := hBL0.trans (hb_u1.mono hBL0.size)
      have hS1 : u1.cell? ⟨B, 1, none⟩ = some (.string R) ∧ u1.cell? ⟨gb, goff, none⟩ = some (.int .i64 n1) ∧ u1.cell? ⟨gb, goff + 1, none⟩ = some (.int .i64 n2) ∧ u1.cell? ⟨gb, goff + 2, none⟩ = some (.int .i64 n3) ∧ u1.cell? ⟨gb, goff + 3, none⟩ = some (.int .i64 n4) := ⟨below_cell hBL1 hc1x3, below_cell hBL1 hg0x3, below_cell hBL1 hg1x3, below_cell hBL1 hg2x3, below_cell hBL1 hg3x3⟩
      clear hw_u1
      refine ⟨hS1, ?_⟩
      simp only [Act.put, List.getElem_toArray, List.getElem_cons_zero, List.getElem_cons_succ, List.setIfInBounds_toArray, List.set_cons_zero, List.set_cons_succ]
      refine Wr.wpAnyK_one (i := 18) (by kernel_rfl) ?_
      refine WrC.wpOp_store_row rfl (by rfl) _ _ _ rfl w3.heap.size E1 rfl rfl _ _ hn_u1 HE1S.out (by rw [← HE1N.out]; rfl) HE1O.out ?_
      intro w4 hw_w4
      have hBL2 : Below w3.heap.size w3 w4 := by rw [hw_w4.out]; exact below_row hBL1 (Nat.le_refl _) _
      have hy_w4 : w4.heap[w3.heap.size]? = some (.cells E1 39 (0, 0)) := by rw [hw_w4.out]; exact setRow_at hn_u1
      have hS2 : w4.cell? ⟨B, 1, none⟩ = some (.string R) ∧ w4.cell? ⟨gb, goff, none⟩ = some (.int .i64 n1) ∧ w4.cell? ⟨gb, goff + 1, none⟩ = some (.int .i64 n2) ∧ w4.cell? ⟨gb, goff + 2, none⟩ = some (.int .i64 n3) ∧ w4.cell? ⟨gb, goff + 3, none⟩ = some (.int .i64 n4) := ⟨below_cell hBL2 hc1x3, below_cell hBL2 hg0x3, below_cell hBL2 hg1x3, below_cell hBL2 hg2x3, below_cell hBL2 hg3x3⟩
      clear hw_w4
      refine ⟨hS2, ?_⟩
      simp only [Act.put, List.getElem_toArray, List.getElem_cons_zero, List.getElem_cons_succ, List.setIfInBounds_toArray, List.set_cons_zero, List.set_cons_succ]
      refine Wr.wpAnyK_done (by kernel_rfl) (NoPanic.normal ?_) _
      have hbn := hBL2
      have HY4 := Lib.hid hy_w4
      have lY4 := lt_row HY4.out
      have hgX : ¬ w.heap.size = w3.heap.size := by have := lX3; omega
      clear hn_u1 hb_u1 hy_w4 hBL0 hS0 hBL1 hS1 hBL2 hS2
      have HX4 := Lib.hid ((hbn.block _ lX3).trans HX3.out)
      have lX4 := lt_row HX4.out
      have HBL4 := Lib.hid (HBL3.out.trans (hbn.mono HBL3.out.size))
      have hg0x4 := below_cell hbn hg0x3
      have hg1x4 := below_cell hbn hg1x3
      have hg2x4 := below_cell hbn hg2x3
      have hg3x4 := below_cell hbn hg3x3
      have hc0x4 := below_cell hbn hc0x3
      have hc1x4 := below_cell hbn hc1x3
      clear hbn hg0x3 hg1x3 hg2x3 hg3x3 hc0x3 hc1x3
      clear lX3
      go_wp2_with fail
      refine wp_region_noPanic ?_
      refine Wr.region_K (S := (fun W => W.heap[w3.heap.size]? = some (.cells E1 39 (0, 0)))) (K := []) (by kernel_rfl) ?_
      change Wr.wpAnyK _ _ _ _ _ _ _ _ _ (World.drew w4)
      have hBL0 : Below w4.heap.size w4 (World.drew w4) := Bl.drew (Below.refl _ _)
      have hS0 : (World.drew w4).heap[w3.heap.size]? = some (.cells E1 39 (0, 0)) := (hBL0.block _ (lt_row HY4.out)).trans HY4.out
      refine Wr.wpAnyK_take (i := 0) (v := .agg E1) rfl (by kernel_rfl) (fun _ _ _ h => h) (Or.inl ⟨by rfl, fun wq hSw => exec_load_row _ _ rfl w3.heap.size rfl _ E1 (0, 0) _ hSw Tryz.underlying39 rfl HE1S.out⟩) hS0 ?_
      simp only [Act.put, List.getElem_toArray, List.getElem_cons_zero, List.getElem_cons_succ, List.setIfInBounds_toArray, List.set_cons_zero, List.set_cons_succ]
      refine Wr.wpAnyK_take (i := 1) (v := .agg E1) rfl (by kernel_rfl) (fun _ _ _ h => h) (Or.inl ⟨by rfl, fun wq hSw => exec_load_row _ _ rfl w3.heap.size rfl _ E1 (0, 0) _ hSw Tryz.underlying39 rfl HE1S.out⟩) hS0 ?_
      simp only [Act.put, List.getElem_toArray, List.getElem_cons_zero, List.getElem_cons_succ, List.setIfInBounds_toArray, List.set_cons_zero, List.set_cons_succ]
      refine Wr.wpAnyK_one (i := 2) (by kernel_rfl) ?_
      refine wpOp_call rfl (by rfl) (by go_simp; first | done | rfl | exact ⟨⟨rfl, rfl⟩, rfl⟩ | exact ⟨rfl, rfl⟩) ?_
      refine (HC.out (World.drew w4)).mono ?_
      rintro e w5 ⟨rfl, hb_w5⟩
      have hBL1 : Below w4.heap.size w4 w5 := hBL0.trans (hb_w5.mono hBL0.size)
      have hS1 : w5.heap[w3.heap.size]? = some (.cells E1 39 (0, 0)) := (hBL1.block _ (lt_row HY4.out)).trans HY4.out
      refine ⟨_, rfl, ?_, ?_⟩
      · exact hS1
      simp only [Act.put, List.getElem_toArray, List.getElem_cons_zero, List.getElem_cons_succ, List.setIfInBounds_toArray, List.set_cons_zero, List.set_cons_succ]
      cases cb
      all_goals
        simp only [whyOf, if_true, Bool.false_eq_true, if_false]
        refine Wr.wpAnyK_take (i := 3) (v := ?_) rfl (by kernel_rfl) (fun _ _ _ h => h) (Or.inl ⟨by rfl, ?_⟩) hS1 ?_
        rotate_left
        · intro wq hSw
          have q0 := hSw
          obtain ⟨qc0, qf0⟩ := row_facts q0
          go_simp
          rfl
        simp only [Act.put, List.getElem_toArray, List.getElem_cons_zero, List.getElem_cons_succ, List.setIfInBounds_toArray, List.set_cons_zero, List.set_cons_succ]
        refine Wr.wpAnyK_one (i := 4) (by kernel_rfl) ?_
        refine WrC.wpOp_store_row rfl (by rfl) _ _ _ rfl w.heap.size E1 rfl rfl _ _ ((hb_w5.block _ (show w.heap.size < (World.drew w4).heap.size from lX4)).trans (show (World.drew w4).heap[w.heap.size]? = some (.cells Z 39 (0, 0)) from HX4.out)) HE1S.out HE1Z.out HE1O.out ?_
        intro u9 hu9
        have hyX : u9.heap[w.heap.size]? = some (.cells E1 39 (0, 0)) := by rw [hu9.out]; exact setRow_at ((hb_w5.block _ (show w.heap.size < (World.drew w4).heap.size from lX4)).trans (show (World.drew w4).heap[w.heap.size]? = some (.cells Z 39 (0, 0)) from HX4.out))
        have hbX : Below w.heap.size w u9 := by rw [hu9.out]; exact below_row (HBL4.out.trans (hBL1.mono HBL4.out.size)) (Nat.le_refl _) _
        have hS9 : u9.heap[w3.heap.size]? = some (.cells E1 39 (0, 0)) := by rw [hu9.out, setRow_far _ (fun e => hgX e.symm)]; exact hS1
        refine ⟨hS9, ?_⟩
        simp only [Act.put, List.getElem_toArray, List.getElem_cons_zero, List.getElem_cons_succ, List.setIfInBounds_toArray, List.set_cons_zero, List.set_cons_succ]
        refine Wr.wpAnyK_take (i := 5) (v := ?_) rfl (by kernel_rfl) (fun _ _ _ h => h) (Or.inl ⟨by rfl, ?_⟩) hS9 ?_
        rotate_left
        · intro wq hSw
          have q0 := hSw
          obtain ⟨qc0, qf0⟩ := row_facts q0
          go_simp
          rfl
        simp only [Act.put, List.getElem_toArray, List.getElem_cons_zero, List.getElem_cons_succ, List.setIfInBounds_toArray, List.set_cons_zero, List.set_cons_succ]
        refine Wr.wpAnyK_done (by kernel_rfl) (NoPanic.normal ?_) _
        go_wp2
        refine bodyPost_ret (v := .tuple #[.agg E1, .bool _]) (results_cell_slot rfl _ _ w.heap.size 39 E1 (0, 0) _ rfl hyX Tryz.underlying39 rfl HE1S.out rfl) rfl ⟨rfl, hbX⟩

set_option maxRecDepth 100000 in
set_option maxHeartbeats 4000000 in
theorem read_hit2 (w : World) (s : ByteArray) (hs : s.size ≤ 140737488351232) {k r a b h n : List UInt8} (ha : all (bl s) = ([k, r, a, b, h, n], 0)) (hgood : ∀ L, L = [bsOf a, bsOf b, bsOf h, bsOf n] → ∀ j, j < 4 → ¬ badAt L j) (hkind : k = wordD 2) :
    Calls Tryz.prog 57 #[.string s] w (RB (.tuple #[.agg (dlA 2 (bsOf r) (gnI a) (gnI b) (gnI h) (gnI n) ⟨#[]⟩), .bool (checkD ⟨2, r, gnI a, gnI b, gnI h, gnI n, []⟩)]) w) := by
  have hA := fun w => Ref1A.All_ok w s (by unfold maxLen; omega)
  unfold AllPost at hA
  rw [ha] at hA
  have HALL := Lib.hid hA
  clear hA
  obtain ⟨K, hK⟩ : ∃ bb, bb = bsOf k := ⟨_, rfl⟩
  have bK : bl K = k := by rw [hK, bl_bsOf]
  have zK : K.size ≤ 8192 := by rw [hK]; exact parts_len ha _ (by simp)
  have HK := Lib.hid hK
  obtain ⟨R, hR⟩ : ∃ bb, bb = bsOf r := ⟨_, rfl⟩
  have bR : bl R = r := by rw [hR, bl_bsOf]
  have zR : R.size ≤ 8192 := by rw [hR]; exact parts_len ha _ (by simp)
  have HR := Lib.hid hR
  obtain ⟨A, hA⟩ : ∃ bb, bb = bsOf a := ⟨_, rfl⟩
  have bA : bl A = a := by rw [hA, bl_bsOf]
  have zA : A.size ≤ 8192 := by rw [hA]; exact parts_len ha _ (by simp)
  have HA := Lib.hid hA
  obtain ⟨D, hD⟩ : ∃ bb, bb = bsOf b := ⟨_, rfl⟩
  have bD : bl D = b := by rw [hD, bl_bsOf]
  have zD : D.size ≤ 8192 := by rw [hD]; exact parts_len ha _ (by simp)
  have HD := Lib.hid hD
  obtain ⟨U, hU⟩ : ∃ bb, bb = bsOf h := ⟨_, rfl⟩
  have bU : bl U = h := by rw [hU, bl_bsOf]
  have zU : U.size ≤ 8192 := by rw [hU]; exact parts_len ha _ (by simp)
  have HU := Lib.hid hU
  obtain ⟨N, hN⟩ : ∃ bb, bb = bsOf n := ⟨_, rfl⟩
  have bN : bl N = n := by rw [hN, bl_bsOf]
  have zN : N.size ≤ 8192 := by rw [hN]; exact parts_len ha _ (by simp)
  have HN := Lib.hid hN
  obtain ⟨L, hL⟩ : ∃ L, L = [A, D, U, N] := ⟨_, rfl⟩
  have hL4 : L.length = 4 := by rw [hL]; rfl
  have hLz : ∀ T ∈ L, T.size ≤ 8192 := by
    intro T hT
    rw [hL] at hT
    simp only [List.mem_cons, List.not_mem_nil, or_false] at hT
    rcases hT with rfl | rfl | rfl | rfl <;> assumption
  have HNB : Hid (∀ j, j < 4 → ¬ badAt L j) := Lib.hid (hgood L (by rw [hL, hA, hD, hU, hN]))
  obtain ⟨n1, hn1⟩ : ∃ x, x = gnI (bl A) := ⟨_, rfl⟩
  obtain ⟨n2, hn2⟩ : ∃ x, x = gnI (bl D) := ⟨_, rfl⟩
  obtain ⟨n3, hn3⟩ : ∃ x, x = gnI (bl U) := ⟨_, rfl⟩
  obtain ⟨n4, hn4⟩ : ∃ x, x = gnI (bl N) := ⟨_, rfl⟩
  have hints : intsV L = [.int .i64 n1, .int .i64 n2, .int .i64 n3, .int .i64 n4] := by rw [hL, hn1, hn2, hn3, hn4]; rfl
  have HI := Lib.hid hints
  obtain ⟨wd1, hwd1⟩ : ∃ x, x = bsOf (wordD 1) := ⟨_, rfl⟩
  have HWD1 := Lib.hid (fun w => word_ok w 1 (by omega) (by omega))
  rw [← hwd1] at HWD1
  obtain ⟨wd2, hwd2⟩ : ∃ x, x = bsOf (wordD 2) := ⟨_, rfl⟩
  have HWD2 := Lib.hid (fun w => word_ok w 2 (by omega) (by omega))
  rw [← hwd2] at HWD2
  have hne1 : (wd1.toList == K.toList) = false := str_ne (fun h => by have := congrArg bl h; rw [hwd1, bl_bsOf, bK, hkind] at this; exact absurd this (by decide))
  have hne2 : (wd2.toList == K.toList) = true := by rw [hwd2, hK, hkind]; exact BEq.refl _
  obtain ⟨cb, hcb⟩ : ∃ c, c = checkD ⟨2, r, n1, n2, n3, n4, []⟩ := ⟨_, rfl⟩
  have hC0 : ∀ E1, E1 = dlA 2 R n1 n2 n3 n4 ⟨#[]⟩ → ∀ w, Calls Tryz.prog 30 #[.agg E1] w (RB (.int .i64 (whyOf cb)) w) := by
    intro E1 hE1 w
    have := r_Check w E1 2 R n1 n2 n3 n4 ⟨#[]⟩ hE1 (by omega) (by omega) (by omega) (Nat.zero_le _)
    rw [show checkD (WireD.dlOf 2 R n1 n2 n3 n4 ⟨#[]⟩) = cb from by rw [hcb]; exact WireD.checkD_sig bR (Nat.zero_le _)] at this
    exact this
  rw [← bA, ← bD, ← bU, ← bN, ← hn1, ← hn2, ← hn3, ← hn4, ← hR, ← hcb]
  obtain ⟨Z, hZ⟩ : ∃ Z, Z = dlZ := ⟨_, rfl⟩
  have HLIT : Hid ((#[.int .u8 0, .string ⟨#[]⟩, .int .i64 0, .int .i64 0, .int .i64 0, .int .i64 0, .string ⟨#[]⟩] : Array Value) = Z) := Lib.hid (by rw [hZ]; kernel_rfl)
  have HZN : Hid (Z.size = 7) := Lib.hid (by rw [hZ]; kernel_rfl)
  have HZS : Hid ((Tryz.prog.info? 39).map (·.size) = some Z.size) := Lib.hid (by rw [hZ]; kernel_rfl)
  have HZO : Hid (Z.all (·.oneCell') = true) := Lib.hid (by rw [hZ]; exact by simp [dlZ, pfZ, msZ, dlA, pfA, msA, byV, zero32, Value.oneCell'])
  obtain ⟨w0, hw0⟩ : ∃ w0, w0 = w.alloc (.cells Z 39) := ⟨_, rfl⟩
  have hb0 : Below w.heap.size w w0 := by rw [hw0]; exact (Below.refl _ _).alloc (Nat.le_refl _) _
  have HX0 : Hid (w0.heap[w.heap.size]? = some (.cells Z 39 (0, 0))) := Lib.hid (by rw [hw0]; exact heap_new _ _)
  have lX0 := lt_row HX0.out
  have HBL0 := Lib.hid hb0
  have HW0 := Lib.hid hw0
  clear hw0 hb0 hZ
  obtain ⟨E1, hE1⟩ : ∃ E, E = dlA 2 R n1 n2 n3 n4 ⟨#[]⟩ := ⟨_, rfl⟩
  have hE1n : E1.size = 7 := by rw [hE1]; rfl
  have HE1S : Hid ((Tryz.prog.info? 39).map (·.size) = some E1.size) := Lib.hid (by rw [hE1n, ← HZN.out]; exact HZS.out)
  have HE1Z : Hid (Z.size = E1.size) := Lib.hid (by rw [hE1n, HZN.out])
  have HE1N : Hid (7 = E1.size) := Lib.hid hE1n.symm
  have HE1O : Hid (E1.all (·.oneCell') = true) := Lib.hid (by rw [hE1]; simp [dlA, Value.oneCell'])
  have HE1 := Lib.hid hE1
  clear hE1n
  have HC := Lib.hid (hC0 E1 hE1)
  rw [← hE1]
  clear hC0 hcb hE1
  have HLZ := Lib.hid hLz
  have HL4 := Lib.hid hL4
  clear hints hLz hL4 ha hgood hn1 hn2 hn3 hn4 hwd1 hwd2 hkind hK bK hR bR hA bA hD bD hU bU hN bN
  go_enter Tryz.func57, Tryz.ntmps57
  go_wp2_with fail
  rw [HLIT.out, ← HW0.out]
  refine (HALL.out w0).mono ?_
  rintro e w1 ⟨v, rfl, hl, hb⟩
  obtain ⟨B, cap, rfl, hB, hcap, hcap2, hc⟩ := list_cap 6 hl rfl (by omega)
  clear hl
  unfold maxLen at hcap2
  have hcell : ∀ j T, L[j]? = some T → w1.cell? ⟨B, 2 + j, none⟩ = some (.string T) := by
    intro j T hT
    rw [hL] at hT
    match j, hT with
    | 0, hT =>
      obtain rfl : A = T := by simpa using hT
      rw [HA.out]
      exact hc 2 _ rfl
    | 1, hT =>
      obtain rfl : D = T := by simpa using hT
      rw [HD.out]
      exact hc 3 _ rfl
    | 2, hT =>
      obtain rfl : U = T := by simpa using hT
      rw [HU.out]
      exact hc 4 _ rfl
    | 3, hT =>
      obtain rfl : N = T := by simpa using hT
      rw [HN.out]
      exact hc 5 _ rfl
  have HCELL := Lib.hid hcell
  have hc0_1 : w1.cell? ⟨B, 0, none⟩ = some (.string K) := by rw [HK.out]; exact hc 0 _ rfl
  have hc1_1 : w1.cell? ⟨B, 1, none⟩ = some (.string R) := by rw [HR.out]; exact hc 1 _ rfl
  have hBX : ¬ w.heap.size = B := by omega
  have lB := World.block_lt_of_cell? _ _ hc0_1
  clear hc hB hcell
  have HX1 := Lib.hid ((hb.block _ lX0).trans HX0.out)
  have lX1 := lt_row HX1.out
  have HBL1 := Lib.hid (HBL0.out.trans (hb.mono HBL0.out.size))
  clear hb 
  clear lX0
  have Hc0 := Lib.hid hc0_1
  have Hc1 := Lib.hid hc1_1
  clear hc0_1 hc1_1
  clear hL
  go_wp2
  go_loopw [6, 30] (fun y i wr => ∃ (k : Nat) (vo : Value), y = vo ∧ i = .int .i64 k ∧ k ≤ 4 ∧ wr.ownsRow w1.heap.size 3 1 vo k (intsV (L.take k)) ∧ Below w1.heap.size w1 wr) (fun _ i _ => 4 - (intOf i).toNat)
  case atStart => exact ⟨0, _, rfl, rfl, by omega, by simp only [List.take_zero, intsV, List.map_nil]; exact World.ownsRow_nil _ _ _ _, Below.refl _ _⟩
  case round =>
    obtain ⟨k, vo, rfl, rfl, hk, hl, hb⟩ := hrel
    obtain ⟨a0, c0, rfl, hn0, hc0⟩ := (Sl.ofOwn hl).form
    have HOL := Lib.hid hl
    have HB2 := Lib.hid hb
    clear hl hb
    by_cases hlt : k < 4
    · skip
      obtain ⟨T, hT⟩ : ∃ T, L[k]? = some T := ⟨_, List.getElem?_eq_getElem (by have := HL4.out; omega)⟩
      have hTz := HLZ.out T (List.mem_of_getElem? hT)
      obtain ⟨n', hn'⟩ := not_bad (HNB.out k (by omega)) hT
      obtain ⟨hg', hn4⟩ := gn_ok hn'
      have hG' := fun w => Ref1K.GetNum_at w T (by unfold maxLen; omega) hg'
      have hcell := below_cell HB2.out (HCELL.out k T hT)
      have hgn : gnI (bl T) = n' := gnI_small hn'
      have htk : L.take (k + 1) = L.take k ++ [T] := by rw [List.take_add_one, hT]; rfl
      have HG' := Lib.hid hG'
      have HGN := Lib.hid hgn
      have HTK := Lib.hid htk
      have hwr : IntKind.i64.wrap (n' : Int) = n' := IntWalk.i64_in _ (by omega)
      have HWR := Lib.hid hwr
      clear hG' hgn htk hg' hn' hT hwr
      go_wp2_with fail
      refine (HG'.out _).mono ?_
      rintro e w2 ⟨rfl, hb⟩
      have HL2 := Lib.hid (own_ext (S := fun _ => False) HOL.out (Ext.of_below hb) (fun _ _ h => h))
      have HB3 := Lib.hid (HB2.out.trans (hb.mono HB2.out.size))
      clear hb hcell
      go_wp2_with (at_builtin; go_must (refine wpList_app _ rfl _ _ _ _ rfl tyInts w1.heap.size (.slice a0 k c0) k (intsV (L.take k)) rfl ?own (.slice (some ⟨w2.heap.size, 0, none⟩) 1 1) 1 [.int .i64 n'] rfl ?src (k + 1) rfl (intsV (L.take (k + 1))) ?hz ?h63 ?hby ?hba ?go))
      case own => exact own_ext (S := fun _ => False) HL2.out ((Ext.refl _ _).alloc _) (fun _ _ h => h)
      case src => exact Src.ofSlice _ Tryz.underlying79 _ _ _ _ rfl (by simpa using cell_one_new w2 (.int .i64 n') 3) (by simp [Value.oneCell'])
      case hz => rw [HTK.out]; simp [intsV, HGN.out]
      case h63 => unfold maxLen; omega
      case hby => omega
      case hba => have := HB3.out.size; simp; omega
      case go =>
        intro a' c' w3 hown hgrow hat
        have HO := Lib.hid hown
        have HB4 := Lib.hid ((HB3.out.alloc HB3.out.size _).grown hgrow (by have := HB3.out.size; simp; omega) (fun k hk => by
          rcases HL2.out.2 with ⟨h, _⟩ | ⟨g, cap, cur, h, hb, _⟩ <;> (rw [h] at hk; simp [Value.ownBlock] at hk <;> omega)))
        clear hown hgrow hat
        go_wp2
        go_roundw
        case rel => exact ⟨k + 1, _, rfl, by go_num, by omega, HO.out, HB4.out⟩
        case measure => simp [intOf]; omega
    · skip
      obtain rfl : k = 4 := by omega
      have hown := HOL.out
      rw [List.take_of_length_le (by rw [HL4.out]; omega), HI.out] at hown
      obtain ⟨gb, goff, hga, hgl, hgc⟩ := (Sl.ofOwn hown).plain (by simp)
      subst hga
      have hg0_2 := hgc 0 _ rfl
      rw [Nat.add_zero] at hg0_2
      have hg1_2 := hgc 1 _ rfl
      have hg2_2 := hgc 2 _ rfl
      have hg3_2 := hgc 3 _ rfl
      have hcB0 := below_cell HB2.out Hc0.out
      have hcB1 := below_cell HB2.out Hc1.out
      have hxx := (HB2.out.block _ lX1).trans HX1.out
      have HX2 := Lib.hid hxx
      have lX2 := lt_row hxx
      have HBL2 := Lib.hid (HBL1.out.trans (HB2.out.mono HBL1.out.size))
      obtain ⟨w2, hw2⟩ : ∃ w2 : World, w2 = wr := ⟨_, rfl⟩
      clear hown hgc hxx
      obtain ⟨w2, rfl⟩ : ∃ w2 : World, w2 = wr := ⟨_, rfl⟩
      have hg0x2 := hg0_2
      clear hg0_2
      have hg1x2 := hg1_2
      clear hg1_2
      have hg2x2 := hg2_2
      clear hg2_2
      have hg3x2 := hg3_2
      clear hg3_2
      have hc0x2 := hcB0
      have hc1x2 := hcB1
      clear hcB0 hcB1
      go_wp2
      refine wp_loop_rounds 2 ?_
      rw [rounds_succ]
      go_wp2_with fail
      refine wp_region_noPanic ?_
      refine Wr.region_K (S := (fun W => W.cell? ⟨B, 0, none⟩ = some (.string K))) (K := []) (by kernel_rfl) ?_
      change Wr.wpAnyK _ _ _ _ _ _ _ _ _ (World.drew w2)
      have hBL0 : Below w2.heap.size w2 (World.drew w2) := Bl.drew (Below.refl _ _)
      have hS0 : (World.drew w2).cell? ⟨B, 0, none⟩ = some (.string K) := below_cell hBL0 hc0x2
      refine Wr.wpAnyK_take (i := 0) (v := ?_) rfl (by kernel_rfl) (fun _ _ _ h => h) (Or.inl ⟨by rfl, ?_⟩) hS0 ?_
      rotate_left
      · intro wq hSw
        have q0 := hSw
        go_simp
        rfl
      simp only [Act.put, List.getElem_toArray, List.getElem_cons_zero, List.getElem_cons_succ, List.setIfInBounds_toArray, List.set_cons_zero, List.set_cons_succ]
      refine Wr.wpAnyK_take (i := 2) (v := ?_) rfl (by kernel_rfl) (fun _ _ _ h => h) (Or.inl ⟨by rfl, ?_⟩) hS0 ?_
      rotate_left
      · intro wq hSw
        have q0 := hSw
        go_simp
        rfl
      simp only [Act.put, List.getElem_toArray, List.getElem_cons_zero, List.getElem_cons_succ, List.setIfInBounds_toArray, List.set_cons_zero, List.set_cons_succ]
      refine Wr.wpAnyK_take (i := 3) (v := ?_) rfl (by kernel_rfl) (fun _ _ _ h => h) (Or.inl ⟨by rfl, ?_⟩) hS0 ?_
      rotate_left
      · intro wq hSw
        have q0 := hSw
        go_simp
        rfl
      simp only [Act.put, List.getElem_toArray, List.getElem_cons_zero, List.getElem_cons_succ, List.setIfInBounds_toArray, List.set_cons_zero, List.set_cons_succ]
      refine Wr.wpAnyK_take (i := 4) (v := ?_) rfl (by kernel_rfl) (fun _ _ _ h => h) (Or.inl ⟨by rfl, ?_⟩) hS0 ?_
      rotate_left
      · intro wq hSw
        have q0 := hSw
        go_simp
        rfl
      simp only [Act.put, List.getElem_toArray, List.getElem_cons_zero, List.getElem_cons_succ, List.setIfInBounds_toArray, List.set_cons_zero, List.set_cons_succ]
      refine Wr.wpAnyK_one (i := 1) (by kernel_rfl) ?_
      refine wpOp_call rfl (by rfl) (by go_simp; first | done | rfl | exact ⟨⟨rfl, rfl⟩, rfl⟩ | exact ⟨rfl, rfl⟩) ?_
      refine (HWD1.out (World.drew w2)).mono ?_
      rintro e w3 ⟨rfl, hb_w3⟩
      have hBL1 : Below w2.heap.size w2 w3 := hBL0.trans (hb_w3.mono hBL0.size)
      have hS1 : w3.cell? ⟨B, 0, none⟩ = some (.string K) := below_cell hBL1 hc0x2
      refine ⟨_, rfl, ?_, ?_⟩
      · exact hS1
      simp only [Act.put, List.getElem_toArray, List.getElem_cons_zero, List.getElem_cons_succ, List.setIfInBounds_toArray, List.set_cons_zero, List.set_cons_succ]
      refine Wr.wpAnyK_take (i := 5) (v := ?_) rfl (by kernel_rfl) (fun _ _ _ h => h) (Or.inl ⟨by rfl, ?_⟩) hS1 ?_
      rotate_left
      · intro wq hSw
        have q0 := hSw
        go_simp
        rfl
      simp only [Act.put, List.getElem_toArray, List.getElem_cons_zero, List.getElem_cons_succ, List.setIfInBounds_toArray, List.set_cons_zero, List.set_cons_succ]
      refine Wr.wpAnyK_done (by kernel_rfl) (NoPanic.normal ?_) _
      have hbn := hBL1
      clear hb_w3 hBL0 hS0 hBL1 hS1
      have HX3 := Lib.hid ((hbn.block _ lX2).trans HX2.out)
      have lX3 := lt_row HX3.out
      have HBL3 := Lib.hid (HBL2.out.trans (hbn.mono HBL2.out.size))
      have hg0x3 := below_cell hbn hg0x2
      have hg1x3 := below_cell hbn hg1x2
      have hg2x3 := below_cell hbn hg2x2
      have hg3x3 := below_cell hbn hg3x2
      have hc0x3 := below_cell hbn hc0x2
      have hc1x3 := below_cell hbn hc1x2
      clear hbn hg0x2 hg1x2 hg2x2 hg3x2 hc0x2 hc1x2
      clear lX2
      go_wp2
      rw [rounds_succ]
      go_wp2_with fail
      refine wp_region_noPanic ?_
      refine Wr.region_K (S := (fun W => W.cell? ⟨B, 0, none⟩ = some (.string K))) (K := []) (by kernel_rfl) ?_
      change Wr.wpAnyK _ _ _ _ _ _ _ _ _ (World.drew w3)
      have hBL0 : Below w3.heap.size w3 (World.drew w3) := Bl.drew (Below.refl _ _)
      have hS0 : (World.drew w3).cell? ⟨B, 0, none⟩ = some (.string K) := below_cell hBL0 hc0x3
      refine Wr.wpAnyK_take (i := 0) (v := ?_) rfl (by kernel_rfl) (fun _ _ _ h => h) (Or.inl ⟨by rfl, ?_⟩) hS0 ?_
      rotate_left
      · intro wq hSw
        have q0 := hSw
        go_simp
        rfl
      simp only [Act.put, List.getElem_toArray, List.getElem_cons_zero, List.getElem_cons_succ, List.setIfInBounds_toArray, List.set_cons_zero, List.set_cons_succ]
      refine Wr.wpAnyK_take (i := 2) (v := ?_) rfl (by kernel_rfl) (fun _ _ _ h => h) (Or.inl ⟨by rfl, ?_⟩) hS0 ?_
      rotate_left
      · intro wq hSw
        have q0 := hSw
        go_simp
        rfl
      simp only [Act.put, List.getElem_toArray, List.getElem_cons_zero, List.getElem_cons_succ, List.setIfInBounds_toArray, List.set_cons_zero, List.set_cons_succ]
      refine Wr.wpAnyK_take (i := 3) (v := ?_) rfl (by kernel_rfl) (fun _ _ _ h => h) (Or.inl ⟨by rfl, ?_⟩) hS0 ?_
      rotate_left
      · intro wq hSw
        have q0 := hSw
        go_simp
        rfl
      simp only [Act.put, List.getElem_toArray, List.getElem_cons_zero, List.getElem_cons_succ, List.setIfInBounds_toArray, List.set_cons_zero, List.set_cons_succ]
      refine Wr.wpAnyK_take (i := 4) (v := ?_) rfl (by kernel_rfl) (fun _ _ _ h => h) (Or.inl ⟨by rfl, ?_⟩) hS0 ?_
      rotate_left
      · intro wq hSw
        have q0 := hSw
        go_simp
        rfl
      simp only [Act.put, List.getElem_toArray, List.getElem_cons_zero, List.getElem_cons_succ, List.setIfInBounds_toArray, List.set_cons_zero, List.set_cons_succ]
      refine Wr.wpAnyK_one (i := 1) (by kernel_rfl) ?_
      refine wpOp_call rfl (by rfl) (by go_simp; first | done | rfl | exact ⟨⟨rfl, rfl⟩, rfl⟩ | exact ⟨rfl, rfl⟩) ?_
      refine (HWD2.out (World.drew w3)).mono ?_
      rintro e w4 ⟨rfl, hb_w4⟩
      have hBL1 : Below w3.heap.size w3 w4 := hBL0.trans (hb_w4.mono hBL0.size)
      have hS1 : w4.cell? ⟨B, 0, none⟩ = some (.string K) := below_cell hBL1 hc0x3
      refine ⟨_, rfl, ?_, ?_⟩
      · exact hS1
      simp only [Act.put, List.getElem_toArray, List.getElem_cons_zero, List.getElem_cons_succ, List.setIfInBounds_toArray, List.set_cons_zero, List.set_cons_succ]
      refine Wr.wpAnyK_take (i := 5) (v := ?_) rfl (by kernel_rfl) (fun _ _ _ h => h) (Or.inl ⟨by rfl, ?_⟩) hS1 ?_
      rotate_left
      · intro wq hSw
        have q0 := hSw
        go_simp
        rfl
      simp only [Act.put, List.getElem_toArray, List.getElem_cons_zero, List.getElem_cons_succ, List.setIfInBounds_toArray, List.set_cons_zero, List.set_cons_succ]
      refine Wr.wpAnyK_done (by kernel_rfl) (NoPanic.normal ?_) _
      have hbn := hBL1
      clear hb_w4 hBL0 hS0 hBL1 hS1
      have HX4 := Lib.hid ((hbn.block _ lX3).trans HX3.out)
      have lX4 := lt_row HX4.out
      have HBL4 := Lib.hid (HBL3.out.trans (hbn.mono HBL3.out.size))
      have hg0x4 := below_cell hbn hg0x3
      have hg1x4 := below_cell hbn hg1x3
      have hg2x4 := below_cell hbn hg2x3
      have hg3x4 := below_cell hbn hg3x3
      have hc0x4 := below_cell hbn hc0x3
      have hc1x4 := below_cell hbn hc1x3
      clear hbn hg0x3 hg1x3 hg2x3 hg3x3 hc0x3 hc1x3
      clear lX3
      go_wp2_with fail
      refine wp_region_noPanic ?_
      refine Wr.region_K (S := (fun W => W.cell? ⟨B, 1, none⟩ = some (.string R) ∧ W.cell? ⟨gb, goff, none⟩ = some (.int .i64 n1) ∧ W.cell? ⟨gb, goff + 1, none⟩ = some (.int .i64 n2) ∧ W.cell? ⟨gb, goff + 2, none⟩ = some (.int .i64 n3) ∧ W.cell? ⟨gb, goff + 3, none⟩ = some (.int .i64 n4))) (K := []) (by kernel_rfl) ?_
      change Wr.wpAnyK _ _ _ _ _ _ _ _ _ (World.drew w4)
      have hBL0 : Below w4.heap.size w4 (World.drew w4) := Bl.drew (Below.refl _ _)
      have hS0 : (World.drew w4).cell? ⟨B, 1, none⟩ = some (.string R) ∧ (World.drew w4).cell? ⟨gb, goff, none⟩ = some (.int .i64 n1) ∧ (World.drew w4).cell? ⟨gb, goff + 1, none⟩ = some (.int .i64 n2) ∧ (World.drew w4).cell? ⟨gb, goff + 2, none⟩ = some (.int .i64 n3) ∧ (World.drew w4).cell? ⟨gb, goff + 3, none⟩ = some (.int .i64 n4) := ⟨below_cell hBL0 hc1x4, below_cell hBL0 hg0x4, below_cell hBL0 hg1x4, below_cell hBL0 hg2x4, below_cell hBL0 hg3x4⟩
      refine Wr.wpAnyK_take (i := 0) (v := ?_) rfl (by kernel_rfl) (fun _ _ _ h => h) (Or.inl ⟨by rfl, ?_⟩) hS0 ?_
      rotate_left
      · intro wq hSw
        obtain ⟨q0, q1, q2, q3, q4⟩ := hSw
        go_simp
        rfl
      simp only [Act.put, List.getElem_toArray, List.getElem_cons_zero, List.getElem_cons_succ, List.setIfInBounds_toArray, List.set_cons_zero, List.set_cons_succ]
      refine Wr.wpAnyK_take (i := 1) (v := ?_) rfl (by kernel_rfl) (fun _ _ _ h => h) (Or.inl ⟨by rfl, ?_⟩) hS0 ?_
      rotate_left
      · intro wq hSw
        obtain ⟨q0, q1, q2, q3, q4⟩ := hSw
        go_simp
        rfl
      simp only [Act.put, List.getElem_toArray, List.getElem_cons_zero, List.getElem_cons_succ, List.setIfInBounds_toArray, List.set_cons_zero, List.set_cons_succ]
      refine Wr.wpAnyK_take (i := 2) (v := ?_) rfl (by kernel_rfl) (fun _ _ _ h => h) (Or.inl ⟨by rfl, ?_⟩) hS0 ?_
      rotate_left
      · intro wq hSw
        obtain ⟨q0, q1, q2, q3, q4⟩ := hSw
        go_simp
        rfl
      simp only [Act.put, List.getElem_toArray, List.getElem_cons_zero, List.getElem_cons_succ, List.setIfInBounds_toArray, List.set_cons_zero, List.set_cons_succ]
      refine Wr.wpAnyK_take (i := 3) (v := ?_) rfl (by kernel_rfl) (fun _ _ _ h => h) (Or.inl ⟨by rfl, ?_⟩) hS0 ?_
      rotate_left
      · intro wq hSw
        obtain ⟨q0, q1, q2, q3, q4⟩ := hSw
        go_simp
        rfl
      simp only [Act.put, List.getElem_toArray, List.getElem_cons_zero, List.getElem_cons_succ, List.setIfInBounds_toArray, List.set_cons_zero, List.set_cons_succ]
      refine Wr.wpAnyK_take (i := 4) (v := ?_) rfl (by kernel_rfl) (fun _ _ _ h => h) (Or.inl ⟨by rfl, ?_⟩) hS0 ?_
      rotate_left
      · intro wq hSw
        obtain ⟨q0, q1, q2, q3, q4⟩ := hSw
        go_simp
        rfl
      simp only [Act.put, List.getElem_toArray, List.getElem_cons_zero, List.getElem_cons_succ, List.setIfInBounds_toArray, List.set_cons_zero, List.set_cons_succ]
      refine Wr.wpAnyK_take (i := 5) (v := ?_) rfl (by kernel_rfl) (fun _ _ _ h => h) (Or.inl ⟨by rfl, ?_⟩) hS0 ?_
      rotate_left
      · intro wq hSw
        obtain ⟨q0, q1, q2, q3, q4⟩ := hSw
        go_simp
        rfl
      simp only [Act.put, List.getElem_toArray, List.getElem_cons_zero, List.getElem_cons_succ, List.setIfInBounds_toArray, List.set_cons_zero, List.set_cons_succ]
      refine Wr.wpAnyK_take (i := 6) (v := ?_) rfl (by kernel_rfl) (fun _ _ _ h => h) (Or.inl ⟨by rfl, ?_⟩) hS0 ?_
      rotate_left
      · intro wq hSw
        obtain ⟨q0, q1, q2, q3, q4⟩ := hSw
        go_simp
        rfl
      simp only [Act.put, List.getElem_toArray, List.getElem_cons_zero, List.getElem_cons_succ, List.setIfInBounds_toArray, List.set_cons_zero, List.set_cons_succ]
      refine Wr.wpAnyK_take (i := 7) (v := ?_) rfl (by kernel_rfl) (fun _ _ _ h => h) (Or.inl ⟨by rfl, ?_⟩) hS0 ?_
      rotate_left
      · intro wq hSw
        obtain ⟨q0, q1, q2, q3, q4⟩ := hSw
        go_simp
        rfl
      simp only [Act.put, List.getElem_toArray, List.getElem_cons_zero, List.getElem_cons_succ, List.setIfInBounds_toArray, List.set_cons_zero, List.set_cons_succ]
      refine Wr.wpAnyK_take (i := 8) (v := ?_) rfl (by kernel_rfl) (fun _ _ _ h => h) (Or.inl ⟨by rfl, ?_⟩) hS0 ?_
      rotate_left
      · intro wq hSw
        obtain ⟨q0, q1, q2, q3, q4⟩ := hSw
        go_simp
        rfl
      simp only [Act.put, List.getElem_toArray, List.getElem_cons_zero, List.getElem_cons_succ, List.setIfInBounds_toArray, List.set_cons_zero, List.set_cons_succ]
      refine Wr.wpAnyK_take (i := 9) (v := ?_) rfl (by kernel_rfl) (fun _ _ _ h => h) (Or.inl ⟨by rfl, ?_⟩) hS0 ?_
      rotate_left
      · intro wq hSw
        obtain ⟨q0, q1, q2, q3, q4⟩ := hSw
        go_simp
        rfl
      simp only [Act.put, List.getElem_toArray, List.getElem_cons_zero, List.getElem_cons_succ, List.setIfInBounds_toArray, List.set_cons_zero, List.set_cons_succ]
      refine Wr.wpAnyK_take (i := 10) (v := ?_) rfl (by kernel_rfl) (fun _ _ _ h => h) (Or.inl ⟨by rfl, ?_⟩) hS0 ?_
      rotate_left
      · intro wq hSw
        obtain ⟨q0, q1, q2, q3, q4⟩ := hSw
        go_simp
        rfl
      simp only [Act.put, List.getElem_toArray, List.getElem_cons_zero, List.getElem_cons_succ, List.setIfInBounds_toArray, List.set_cons_zero, List.set_cons_succ]
      refine Wr.wpAnyK_take (i := 11) (v := ?_) rfl (by kernel_rfl) (fun _ _ _ h => h) (Or.inl ⟨by rfl, ?_⟩) hS0 ?_
      rotate_left
      · intro wq hSw
        obtain ⟨q0, q1, q2, q3, q4⟩ := hSw
        go_simp
        rfl
      simp only [Act.put, List.getElem_toArray, List.getElem_cons_zero, List.getElem_cons_succ, List.setIfInBounds_toArray, List.set_cons_zero, List.set_cons_succ]
      refine Wr.wpAnyK_take (i := 12) (v := ?_) rfl (by kernel_rfl) (fun _ _ _ h => h) (Or.inl ⟨by rfl, ?_⟩) hS0 ?_
      rotate_left
      · intro wq hSw
        obtain ⟨q0, q1, q2, q3, q4⟩ := hSw
        go_simp
        rfl
      simp only [Act.put, List.getElem_toArray, List.getElem_cons_zero, List.getElem_cons_succ, List.setIfInBounds_toArray, List.set_cons_zero, List.set_cons_succ]
      refine Wr.wpAnyK_take (i := 13) (v := ?_) rfl (by kernel_rfl) (fun _ _ _ h => h) (Or.inl ⟨by rfl, ?_⟩) hS0 ?_
      rotate_left
      · intro wq hSw
        obtain ⟨q0, q1, q2, q3, q4⟩ := hSw
        go_simp
        rfl
      simp only [Act.put, List.getElem_toArray, List.getElem_cons_zero, List.getElem_cons_succ, List.setIfInBounds_toArray, List.set_cons_zero, List.set_cons_succ]
      refine Wr.wpAnyK_take (i := 14) (v := ?_) rfl (by kernel_rfl) (fun _ _ _ h => h) (Or.inl ⟨by rfl, ?_⟩) hS0 ?_
      rotate_left
      · intro wq hSw
        obtain ⟨q0, q1, q2, q3, q4⟩ := hSw
        go_simp
        rfl
      simp only [Act.put, List.getElem_toArray, List.getElem_cons_zero, List.getElem_cons_succ, List.setIfInBounds_toArray, List.set_cons_zero, List.set_cons_succ]
      refine Wr.wpAnyK_take (i := 15) (v := ?_) rfl (by kernel_rfl) (fun _ _ _ h => h) (Or.inl ⟨by rfl, ?_⟩) hS0 ?_
      rotate_left
      · intro wq hSw
        obtain ⟨q0, q1, q2, q3, q4⟩ := hSw
        go_simp
        rfl
      simp only [Act.put, List.getElem_toArray, List.getElem_cons_zero, List.getElem_cons_succ, List.setIfInBounds_toArray, List.set_cons_zero, List.set_cons_succ]
      refine Wr.wpAnyK_take (i := 16) (v := .agg E1) rfl (by kernel_rfl) (fun _ _ _ h => h) (WrC.yields_build _ _ rfl (by rfl) E1 (by rw [HE1.out]; kernel_rfl)) hS0 ?_
      simp only [Act.put, List.getElem_toArray, List.getElem_cons_zero, List.getElem_cons_succ, List.setIfInBounds_toArray, List.set_cons_zero, List.set_cons_succ]
      refine Wr.wpAnyK_one (i := 17) (by kernel_rfl) ?_
      refine wpOp_run rfl (by rfl) (w' := (World.drew w4).alloc (.cells #[.int .u8 0, .string ⟨#[]⟩, .int .i64 0, .int .i64 0, .int .i64 0, .int .i64 0, .string ⟨#[]⟩] 39)) (v := .pointer (some ⟨w4.heap.size, 0, none⟩)) (by go_simp; first | done | rfl) ?_
      obtain ⟨u1, hw_u1⟩ : ∃ u1, u1 = (World.drew w4).alloc (.cells #[.int .u8 0, .string ⟨#[]⟩, .int .i64 0, .int .i64 0, .int .i64 0, .int .i64 0, .string ⟨#[]⟩] 39) := ⟨_, rfl⟩
      rw [← hw_u1]
      have hb_u1 : Below (World.drew w4).heap.size (World.drew w4) u1 := by rw [hw_u1]; exact (Below.refl _ _).alloc (Nat.le_refl _) _
      have hn_u1 : u1.heap[(World.drew w4).heap.size]? = some (.cells #[.int .u8 0, .string ⟨#[]⟩, .int .i64 0, .int .i64 0, .int .i64 0, .int .i64 0, .string ⟨#[]⟩] 39 (0, 0)) := by rw [hw_u1]; exact heap_new' _ rfl
      have hBL1 : Below w4.heap.size w4 u1 := hBL0.trans (hb_u1.mono hBL0.size)
      have hS1 : u1.cell? ⟨B, 1, none⟩ = some (.string R) ∧ u1.cell? ⟨gb, goff, none⟩ = some (.int .i64 n1) ∧ u1.cell? ⟨gb, goff + 1, none⟩ = some (.int .i64 n2) ∧ u1.cell? ⟨gb, goff + 2, none⟩ = some (.int .i64 n3) ∧ u1.cell? ⟨gb, goff + 3, none⟩ = some (.int .i64 n4) := ⟨below_cell hBL1 hc1x4, below_cell hBL1 hg0x4, below_cell hBL1 hg1x4, below_cell hBL1 hg2x4, below_cell hBL1 hg3x4⟩
      clear hw_u1
      refine ⟨hS1, ?_⟩
      simp only [Act.put, List.getElem_toArray, List.getElem_cons_zero, List.getElem_cons_succ, List.setIfInBounds_toArray, List.set_cons_zero, List.set_cons_succ]
      refine Wr.wpAnyK_one (i := 18) (by kernel_rfl) ?_
      refine WrC.wpOp_store_row rfl (by rfl) _ _ _ rfl w4.heap.size E1 rfl rfl _ _ hn_u1 HE1S.out (by rw [← HE1N.out]; rfl) HE1O.out ?_
      intro w5 hw_w5
      have hBL2 : Below w4.heap.size w4 w5 := by rw [hw_w5.out]; exact below_row hBL1 (Nat.le_refl _) _
      have hy_w5 : w5.heap[w4.heap.size]? = some (.cells E1 39 (0, 0)) := by rw [hw_w5.out]; exact setRow_at hn_u1
      have hS2 : w5.cell? ⟨B, 1, none⟩ = some (.string R) ∧ w5.cell? ⟨gb, goff, none⟩ = some (.int .i64 n1) ∧ w5.cell? ⟨gb, goff + 1, none⟩ = some (.int .i64 n2) ∧ w5.cell? ⟨gb, goff + 2, none⟩ = some (.int .i64 n3) ∧ w5.cell? ⟨gb, goff + 3, none⟩ = some (.int .i64 n4) := ⟨below_cell hBL2 hc1x4, below_cell hBL2 hg0x4, below_cell hBL2 hg1x4, below_cell hBL2 hg2x4, below_cell hBL2 hg3x4⟩
      clear hw_w5
      refine ⟨hS2, ?_⟩
      simp only [Act.put, List.getElem_toArray, List.getElem_cons_zero, List.getElem_cons_succ, List.setIfInBounds_toArray, List.set_cons_zero, List.set_cons_succ]
      refine Wr.wpAnyK_done (by kernel_rfl) (NoPanic.normal ?_) _
      have hbn := hBL2
      have HY5 := Lib.hid hy_w5
      have lY5 := lt_row HY5.out
      have hgX : ¬ w.heap.size = w4.heap.size := by have := lX4; omega
      clear hn_u1 hb_u1 hy_w5 hBL0 hS0 hBL1 hS1 hBL2 hS2
      have HX5 := Lib.hid ((hbn.block _ lX4).trans HX4.out)
      have lX5 := lt_row HX5.out
      have HBL5 := Lib.hid (HBL4.out.trans (hbn.mono HBL4.out.size))
      have hg0x5 := below_cell hbn hg0x4
      have hg1x5 := below_cell hbn hg1x4
      have hg2x5 := below_cell hbn hg2x4
      have hg3x5 := below_cell hbn hg3x4
      have hc0x5 := below_cell hbn hc0x4
      have hc1x5 := below_cell hbn hc1x4
      clear hbn hg0x4 hg1x4 hg2x4 hg3x4 hc0x4 hc1x4
      clear lX4
      go_wp2_with fail
      refine wp_region_noPanic ?_
      refine Wr.region_K (S := (fun W => W.heap[w4.heap.size]? = some (.cells E1 39 (0, 0)))) (K := []) (by kernel_rfl) ?_
      change Wr.wpAnyK _ _ _ _ _ _ _ _ _ (World.drew w5)
      have hBL0 : Below w5.heap.size w5 (World.drew w5) := Bl.drew (Below.refl _ _)
      have hS0 : (World.drew w5).heap[w4.heap.size]? = some (.cells E1 39 (0, 0)) := (hBL0.block _ (lt_row HY5.out)).trans HY5.out
      refine Wr.wpAnyK_take (i := 0) (v := .agg E1) rfl (by kernel_rfl) (fun _ _ _ h => h) (Or.inl ⟨by rfl, fun wq hSw => exec_load_row _ _ rfl w4.heap.size rfl _ E1 (0, 0) _ hSw Tryz.underlying39 rfl HE1S.out⟩) hS0 ?_
      simp only [Act.put, List.getElem_toArray, List.getElem_cons_zero, List.getElem_cons_succ, List.setIfInBounds_toArray, List.set_cons_zero, List.set_cons_succ]
      refine Wr.wpAnyK_take (i := 1) (v := .agg E1) rfl (by kernel_rfl) (fun _ _ _ h => h) (Or.inl ⟨by rfl, fun wq hSw => exec_load_row _ _ rfl w4.heap.size rfl _ E1 (0, 0) _ hSw Tryz.underlying39 rfl HE1S.out⟩) hS0 ?_
      simp only [Act.put, List.getElem_toArray, List.getElem_cons_zero, List.getElem_cons_succ, List.setIfInBounds_toArray, List.set_cons_zero, List.set_cons_succ]
      refine Wr.wpAnyK_one (i := 2) (by kernel_rfl) ?_
      refine wpOp_call rfl (by rfl) (by go_simp; first | done | rfl | exact ⟨⟨rfl, rfl⟩, rfl⟩ | exact ⟨rfl, rfl⟩) ?_
      refine (HC.out (World.drew w5)).mono ?_
      rintro e w6 ⟨rfl, hb_w6⟩
      have hBL1 : Below w5.heap.size w5 w6 := hBL0.trans (hb_w6.mono hBL0.size)
      have hS1 : w6.heap[w4.heap.size]? = some (.cells E1 39 (0, 0)) := (hBL1.block _ (lt_row HY5.out)).trans HY5.out
      refine ⟨_, rfl, ?_, ?_⟩
      · exact hS1
      simp only [Act.put, List.getElem_toArray, List.getElem_cons_zero, List.getElem_cons_succ, List.setIfInBounds_toArray, List.set_cons_zero, List.set_cons_succ]
      cases cb
      all_goals
        simp only [whyOf, if_true, Bool.false_eq_true, if_false]
        refine Wr.wpAnyK_take (i := 3) (v := ?_) rfl (by kernel_rfl) (fun _ _ _ h => h) (Or.inl ⟨by rfl, ?_⟩) hS1 ?_
        rotate_left
        · intro wq hSw
          have q0 := hSw
          obtain ⟨qc0, qf0⟩ := row_facts q0
          go_simp
          rfl
        simp only [Act.put, List.getElem_toArray, List.getElem_cons_zero, List.getElem_cons_succ, List.setIfInBounds_toArray, List.set_cons_zero, List.set_cons_succ]
        refine Wr.wpAnyK_one (i := 4) (by kernel_rfl) ?_
        refine WrC.wpOp_store_row rfl (by rfl) _ _ _ rfl w.heap.size E1 rfl rfl _ _ ((hb_w6.block _ (show w.heap.size < (World.drew w5).heap.size from lX5)).trans (show (World.drew w5).heap[w.heap.size]? = some (.cells Z 39 (0, 0)) from HX5.out)) HE1S.out HE1Z.out HE1O.out ?_
        intro u9 hu9
        have hyX : u9.heap[w.heap.size]? = some (.cells E1 39 (0, 0)) := by rw [hu9.out]; exact setRow_at ((hb_w6.block _ (show w.heap.size < (World.drew w5).heap.size from lX5)).trans (show (World.drew w5).heap[w.heap.size]? = some (.cells Z 39 (0, 0)) from HX5.out))
        have hbX : Below w.heap.size w u9 := by rw [hu9.out]; exact below_row (HBL5.out.trans (hBL1.mono HBL5.out.size)) (Nat.le_refl _) _
        have hS9 : u9.heap[w4.heap.size]? = some (.cells E1 39 (0, 0)) := by rw [hu9.out, setRow_far _ (fun e => hgX e.symm)]; exact hS1
        refine ⟨hS9, ?_⟩
        simp only [Act.put, List.getElem_toArray, List.getElem_cons_zero, List.getElem_cons_succ, List.setIfInBounds_toArray, List.set_cons_zero, List.set_cons_succ]
        refine Wr.wpAnyK_take (i := 5) (v := ?_) rfl (by kernel_rfl) (fun _ _ _ h => h) (Or.inl ⟨by rfl, ?_⟩) hS9 ?_
        rotate_left
        · intro wq hSw
          have q0 := hSw
          obtain ⟨qc0, qf0⟩ := row_facts q0
          go_simp
          rfl
        simp only [Act.put, List.getElem_toArray, List.getElem_cons_zero, List.getElem_cons_succ, List.setIfInBounds_toArray, List.set_cons_zero, List.set_cons_succ]
        refine Wr.wpAnyK_done (by kernel_rfl) (NoPanic.normal ?_) _
        go_wp2
        refine bodyPost_ret (v := .tuple #[.agg E1, .bool _]) (results_cell_slot rfl _ _ w.heap.size 39 E1 (0, 0) _ rfl hyX Tryz.underlying39 rfl HE1S.out rfl) rfl ⟨rfl, hbX⟩

end Go.Proofs.YtdmonfimdinkeaaGreatDoor.WireJ
