/-
  WHAT IS PROVED: the program's verifying of any signature. what is found in any book, and verified by it, by the program. Condition: what each theorem names.
-/
import Derived.Test.YtkcikadgnnjjjaaGreatDoorS0
import Derived.Test.YtkcikadgnnjjjaaGreatDoorZEHD14
set_option linter.unusedVariables false
set_option linter.unusedSimpArgs false
set_option maxRecDepth 100000
set_option maxHeartbeats 4000000
namespace Go.Proofs.YtkcikadgnnjjjaaGreatDoor.PkV
open Go Go.RowKit Go.Shelf OctP OctG RowsX Lift ShaS KeyS ShaA ShaB Steps KeyA KeyB KeyG KeyH KeyJ TreeA TreeE TreeF TreeG WireT
attribute [-go_sem] Builtin.append_
theorem Place_no (w : World) (n : Nat) (sig : ByteArray) (hn : n ≤ 7) (hsz : sig.size ≤ maxLen) (hno : sigB n (bl sig) = false) :
  Calls Tryz.prog 102 #[.int .i64 n, .string sig] w (RB (.tuple #[.int .i64 0, .int .i64 2]) w) := by
 unfold maxLen at hsz
 obtain ⟨hp, hM⟩ := wrap_pow n hn
 obtain ⟨M, hMe⟩ := nXe (2 ^ n)
 unfold sigB at hno
 rw [← hMe] at hp hM hno
 have w1 : IntKind.i64.wrap ((n : Int) * 32) = (n : Int) * 32 := by rw [IntKind.wrap_i64]; omega
 have w2 : IntKind.i64.wrap (1089 + (n : Int) * 32) = 1089 + (n : Int) * 32 := by rw [IntKind.wrap_i64]; omega
 have hp2 : IntKind.i64.wrap ((2 : Int) ^ n) = (M : Int) := by have h := hp; unfold wrap64 at h; rw [IntKind.wrap_i64]; exact h
 by_cases hs : sig.size = 1089 + 32 * n
 ·have h0 : 0 < sig.size := by omega
  obtain ⟨b, hb⟩ : ∃ b, sig[0] = b := ⟨_, rfl⟩
  have hhd : (bl sig).headD 0 = b := by
   have := bl_drop sig 0 h0
   rw [List.drop_zero] at this
   rw [this, ← hb]
   rfl
  rw [hhd, bl_length, hs, decide_eq_true rfl, Bool.true_and] at hno
  have hb2 : M ≤ b.toNat := by have := of_decide_eq_false hno; omega
  have hb8 := b.toNat_lt
  have hz : ((sig.size : Nat) : Int) = 1089 + (n : Int) * 32 := by omega
  have hd : decide ((M : Int) ≤ (b.toNat : Int)) = true := decide_eq_true (by omega)
  have hd2 : decide (M ≤ b.toNat) = true := decide_eq_true (by omega)
  have hb3 : IntKind.i64.wrap (b.toNat : Int) = (b.toNat : Int) := by rw [IntKind.wrap_i64]; omega
  have hpos : (0 : Int) < 1089 + (n : Int) * 32 := by omega
  clear hMe hs hno hhd hsz
  go_enter Tryz.func102, Tryz.ntmps102
  go_wp2
  refine Uniform.region_chain (S := (fun W => Below w.heap.size w W ∧ Below w.heap.size w W)) (List.range 19) (by kernel_rfl) (by kernel_rfl) ⟨((Below.refl w.heap.size w)).drew, ((Below.refl w.heap.size w)).drew⟩ ?_
  refine ⟨_, ?_, rfl, .inl ⟨by rfl, fun wq hSw => .value (w' := wq) ?_ hSw⟩, ?_⟩
  rotate_left
  ·obtain ⟨q0, q1⟩ := hSw
   go_simp
   rfl
  simp only [Act.put, sxx]
  refine ⟨_, ?_, rfl, Or.inl ⟨by rfl, fun wq hSw => Uniform.UStep.call (w' := wq) ?_ ((high_ok wq n hn).mono ?_)⟩, ?_⟩
  rotate_left
  ·obtain ⟨q0, q1⟩ := hSw
   go_simp
   all_goals (and_intros <;> rfl)
  ·have hSk := hSw
   obtain ⟨q0, q1⟩ := hSw
   rintro e wq2 ⟨rfl, rfl⟩
   refine ⟨?_, hSk⟩
   rfl
  iterate 17
   simp only [Act.put, sxx]
   refine ⟨_, ?_, rfl, .inl ⟨by rfl, fun wq hSw => .value (w' := wq) ?_ hSw⟩, ?_⟩
   rotate_left
   ·obtain ⟨q0, q1⟩ := hSw
    go_simp
    rfl
  simp only [Act.put, sxx]
  intro wz hSz
  obtain ⟨q0, q1⟩ := hSz
  go_wp2
  go_ret2
  exact ⟨rfl, q0⟩
 ·have hz : ((sig.size : Nat) : Int) ≠ 1089 + (n : Int) * 32 := by omega
  have hz2 : (((sig.size : Nat) : Int) != 1089 + (n : Int) * 32) = true := by simpa using hz
  have hz3 : (((sig.size : Nat) : Int) == 1089 + (n : Int) * 32) = false := by simpa using hz
  clear hMe hno hs
  go_enter Tryz.func102, Tryz.ntmps102
  go_wp2
  refine Uniform.region_chain (S := (fun W => Below w.heap.size w W ∧ Below w.heap.size w W)) (List.range 19) (by kernel_rfl) (by kernel_rfl) ⟨((Below.refl w.heap.size w)).drew, ((Below.refl w.heap.size w)).drew⟩ ?_
  refine ⟨_, ?_, rfl, .inl ⟨by rfl, fun wq hSw => .value (w' := wq) ?_ hSw⟩, ?_⟩
  rotate_left
  ·obtain ⟨q0, q1⟩ := hSw
   go_simp
   rfl
  simp only [Act.put, sxx]
  refine ⟨_, ?_, rfl, Or.inl ⟨by rfl, fun wq hSw => Uniform.UStep.call (w' := wq) ?_ ((high_ok wq n hn).mono ?_)⟩, ?_⟩
  rotate_left
  ·obtain ⟨q0, q1⟩ := hSw
   go_simp
   all_goals (and_intros <;> rfl)
  ·have hSk := hSw
   obtain ⟨q0, q1⟩ := hSw
   rintro e wq2 ⟨rfl, rfl⟩
   refine ⟨?_, hSk⟩
   rfl
  iterate 10
   simp only [Act.put, sxx]
   refine ⟨_, ?_, rfl, .inl ⟨by rfl, fun wq hSw => .value (w' := wq) ?_ hSw⟩, ?_⟩
   rotate_left
   ·obtain ⟨q0, q1⟩ := hSw
    go_simp
    rfl
  iterate 6
   simp only [Act.put, sxx]
   refine ⟨_, undef, rfl, Or.inr ⟨by rfl, rfl⟩, ?_⟩
  simp only [Act.put, sxx]
  refine ⟨_, ?_, rfl, .inl ⟨by rfl, fun wq hSw => .value (w' := wq) ?_ hSw⟩, ?_⟩
  rotate_left
  ·obtain ⟨q0, q1⟩ := hSw
   go_simp
   rfl
  simp only [Act.put, sxx]
  intro wz hSz
  obtain ⟨q0, q1⟩ := hSz
  go_wp2
  go_ret2
  exact ⟨rfl, q0⟩
theorem Verify_ok (w : World) (rt : H32) (n : Nat) (text sig : ByteArray) (hn : n ≤ 7) (ht : text.size ≤ 140737488355328) (hs : sig.size ≤ maxLen) (hk : VarsH w) :
  Calls Tryz.prog 67 #[.agg rt.A, .int .i64 n, .string text, .string sig] w (RB (.int .i64 (verify rt.l n (bl text) (bl sig))) w) := by
 unfold verify
 cases hb : sigB n (bl sig)
 ·rw [if_neg (by simp)]
  have hP := fun w => Place_no w n sig hn hs hb
  have HP := lh hP
  clear hP hb hs hk ht
  obtain ⟨p, hp⟩ := nXe (rt.A)
  rw [← hp]
  clear hp
  obtain ⟨w0, hw0⟩ := nXe (w.alloc (.cells p 25))
  have HB0 := lh (show Below w.heap.size w w0 by rw [hw0]; exact bAx)
  have HW0 := lh hw0
  clear hw0
  go_enter Tryz.func67, Tryz.ntmps67
  go_wp2_with fail
  rw [← HW0.out]
  refine (HP.out w0).mono ?_
  rintro e w1 ⟨rfl, hb⟩
  have HB1 := tbB HB0 hb
  clear hb
  go_wp2
  go_ret
  exact ⟨rfl, HB1.out⟩
 ·rw [if_pos rfl]
  unfold sigB at hb
  simp only [Bool.and_eq_true, decide_eq_true_eq, bl_length] at hb
  exact Verify_yes w rt n text sig hn ht hb.1 hb.2 hk
end Go.Proofs.YtkcikadgnnjjjaaGreatDoor.PkV
namespace Go.Proofs.YtkcikadgnnjjjaaGreatDoor.BkF
open Go Go.RowKit Go.Shelf Steps RowsX Lift KeyS KeyA TreeA ShaA BookA BookB BookD BkR BkC
theorem first_find (sv at' : Int) : ∀ (L : List Gr') (k : Nat), (firstAt sv at' L k = -1 ∧ L.find? (foundB · sv at') = none) ∨ ∃ (j : Nat) (g : Gr'), firstAt sv at' L k = ((k + j : Nat) : Int) ∧ L[j]? = some g ∧ L.find? (foundB · sv at') = some g
 | [], k => .inl ⟨rfl, rfl⟩
 | g :: r, k => by
  cases h : foundB g sv at'
  ·rw [firstAt, h, if_neg (by simp), List.find?_cons_of_neg (by simp [h])]
   rcases first_find sv at' r (k + 1) with h1 | ⟨j, x, h1, h2, h3⟩
   ·exact .inl h1
   ·exact .inr ⟨j + 1, x, by rw [h1]; congr 1; omega, h2, h3⟩
  ·rw [firstAt, h, if_pos rfl, List.find?_cons_of_pos (by simp [h])]
   exact .inr ⟨0, g, by simp, rfl, rfl⟩
def findW (L : List Gr') (sv at' : Int) : Int := if bookB L = true then (match L.find? (foundB · sv at') with | some _ => 0 | none => 3) else 2
def findG (L : List Gr') (sv at' : Int) : Gr' := if bookB L = true then ((L.find? (foundB · sv at')).getD zeroG) else zeroG
def verifyB (L : List Gr') (sv at' : Int) (text sig : List UInt8) : Int := if bookB L = true then (match L.find? (foundB · sv at') with | some g => verify g.rt.l g.hi.toNat text sig | none => 3) else 2
theorem okF_right : ∀ (L : List Gr') (p : Option Gr'), okF p L = true → ∀ g ∈ L, g.Right
 | [], _, _, _, h => by cases h
 | x :: r, p, h, g, hg => by
  have h2 : rightB x = true ∧ okF (some x) r = true := by
   cases p with
   | none => simp only [okF, Bool.and_eq_true] at h; exact h
   | some q => simp only [okF, Bool.and_eq_true] at h; exact ⟨h.1, h.2.2⟩
  rcases List.mem_cons.1 hg with rfl | hm
  ·exact rightB_iff.1 h2.1
  ·exact okF_right r _ h2.2 g hm
theorem book_right {L : List Gr'} (h : bookB L = true) {g : Gr'} (hg : g ∈ L) : g.Right := by
 unfold bookB at h
 simp only [Bool.and_eq_true] at h
 exact okF_right L none h.2 g hg
theorem book_len {L : List Gr'} (h : bookB L = true) : L.length ≤ 256 := by
 unfold bookB at h
 simp only [Bool.and_eq_true, decide_eq_true_eq] at h
 exact h.1
theorem Find_ok (w : World) (v : Value) (L : List Gr') (sv at' : Int) (hv : Sl w v 36 L.length (L.flatMap Gr'.cs)) : Calls Tryz.prog 66 #[v, .int .i64 sv, .int .i64 at'] w (RB (.tuple #[.agg (findG L sv at').A, .int .i64 (findW L sv at')]) w) := by
 obtain ⟨a, cap, rfl, hcap, hm⟩ := hv.form
 have Hrow := lh (fun (k : Nat) (g : Gr') (hx : L[k]? = some g) => row_cells grF (by omega) hv hx)
 obtain ⟨Z, hZ⟩ := nXe (zeroG.A)
 have HLIT : Hid (zq1 Z) := lh (by rw [hZ]; unfold zq1; kernel_rfl)
 have HZN : Hid (Z.size = 36) := lh (by rw [hZ]; exact gr_size _)
 have HZS : Hid ((Tryz.prog.info? 66).map (·.size) = some Z.size) := lh (by rw [hZ]; exact gr_info _)
 have HZO : Hid (Z.all (·.oneCell') = true) := lh (by rw [hZ]; kernel_rfl)
 obtain ⟨w0, hw0⟩ := nXe (((w.alloc (.cells #[.int .i64 sv] 3)).alloc (.cells #[.int .i64 at'] 2)).alloc (.cells Z 66))
 have hb0 : Below w.heap.size w w0 := by rw [hw0]; exact (bAx.alloc (by simp) _).alloc (by simp; omega) _
 have h1 : w0.heap[w.heap.size]? = some (.cells #[.int .i64 sv] 3 (0, 0)) := by rw [hw0]; exact heap_at (heap_at (heap_new _ _) _) _
 have h2 : w0.heap[w.heap.size + 1]? = some (.cells #[.int .i64 at'] 2 (0, 0)) := by rw [hw0]; exact heap_at (heap_new' _ (by simp)) _
 have h3 : w0.heap[w.heap.size + 2]? = some (.cells Z 66 (0, 0)) := by rw [hw0]; exact heap_new' _ (by simp)
 have hv0 := Sl.below hv hb0
 have HC := lh (Check_ok w0 _ L hv0)
 have HB0 := lh hb0
 have HX0 := lh h3
 have HW0 := lh hw0
 unfold findG findW
 cases hbk : bookB L
 ·skip
  rw [hbk] at HC
  rw [if_neg (by simp)] at HC
  rw [if_neg (by simp), if_neg (by simp), ← hZ]
  clear hv0 h1 h2 h3 hw0 hb0 hv hcap hm hbk hZ
  go_enter Tryz.func66, Tryz.ntmps66
  go_wp2_with fail
  rw [HLIT.out, ← HW0.out]
  refine HC.out.mono ?_
  rintro e w1 ⟨rfl, hb⟩
  have HB1 := tbB HB0 hb
  have HX1 := kpB hb HX0
  clear hb
  go_wp2_with (first | (refine wpList_store_rowA rfl _ _ _ rfl (w.heap.size + 2) Z rfl (by rw [← HLIT.out]; rfl) _ _ HX1.out HZS.out rfl HZO.out ?_) | fail)
  intro wf hwf
  go_wp2
  refine bodyPost_ret (v := .tuple #[.agg Z, .int .i64 2]) (WireT.results_cell_slot rfl _ _ (w.heap.size + 2) 66 Z (0, 0) _ rfl (by rw [hwf.out]; exact setRow_at HX1.out) Tryz.underlying66 rfl HZS.out rfl) rfl ⟨rfl, by rw [hwf.out]; exact below_row HB1.out (by omega) _⟩
 ·skip
  rw [hbk] at HC
  rw [if_pos rfl] at HC
  rw [if_pos rfl, if_pos rfl]
  have hlen := book_len hbk
  have HI := lh (fun w' (hb : Below w0.heap.size w0 w') => index_ok w' _ L w.heap.size (w.heap.size + 1) sv at' (Sl.below hv0 hb) (by omega) ((hb.block _ (lt_row h1)).trans h1) ((hb.block _ (lt_row h2)).trans h2))
  have hff := first_find sv at' L 0
  obtain ⟨n, hn⟩ := nXe (L.length)
  have Hn := lh hn
  rw [← hn] at HC HI hlen hcap ⊢
  rcases hff with ⟨hf1, hf2⟩ | ⟨j, g, hf1, hf2, hf3⟩
  ·skip
   rw [hf1] at HI
   rw [hf2]
   show Calls _ _ _ _ (RB (.tuple #[.agg zeroG.A, .int .i64 3]) w)
   rw [← hZ]
   clear hf1 hf2 hv0 h1 h2 h3 hw0 hb0 hv hm hbk hZ hn
   go_enter Tryz.func66, Tryz.ntmps66
   go_wp2_with fail
   rw [HLIT.out, ← HW0.out]
   refine HC.out.mono ?_
   rintro e w1 ⟨rfl, hb⟩
   have HB1 := tbB HB0 hb
   have HX1 := kpB hb HX0
   have HI1 := lh (HI.out w1 hb)
   clear hb
   go_wp2_with fail
   refine HI1.out.mono ?_
   rintro e w2 ⟨rfl, hb⟩
   have HB2 := tbB HB1 hb
   have HX2 := kpB hb HX1
   clear hb
   go_wp2_with (first | (refine wpList_store_rowA rfl _ _ _ rfl (w.heap.size + 2) Z rfl (by rw [← HLIT.out]; rfl) _ _ HX2.out HZS.out rfl HZO.out ?_) | fail)
   intro wf hwf
   go_wp2
   refine bodyPost_ret (v := .tuple #[.agg Z, .int .i64 3]) (WireT.results_cell_slot rfl _ _ (w.heap.size + 2) 66 Z (0, 0) _ rfl (by rw [hwf.out]; exact setRow_at HX2.out) Tryz.underlying66 rfl HZS.out rfl) rfl ⟨rfl, by rw [hwf.out]; exact below_row HB2.out (by omega) _⟩
  ·skip
   rw [Nat.zero_add] at hf1
   rw [hf1] at HI
   rw [hf3]
   show Calls _ _ _ _ (RB (.tuple #[.agg g.A, .int .i64 0]) w)
   obtain ⟨b, bo, rfl, hblt, hcc⟩ := Hrow.out j g hf2
   have hjn : j < n := by rw [hn]; exact (List.getElem?_eq_some_iff.1 hf2).1
   obtain ⟨C, hC⟩ := nXe (g.A)
   rw [← hC]
   have HCS := lh (show (Tryz.prog.info? 66).map (·.size) = some C.size by rw [hC]; exact gr_info g)
   have HCN := lh (show Z.size = C.size by rw [hC, gr_size]; exact HZN.out)
   have HCO := lh (show C.all (·.oneCell') = true by
    rw [hC, Array.all_eq_true_iff_forall_mem]
    intro u hu
    exact grF.one g u (by simpa [Gr'.A] using hu))
   have Hcc := lh (show ∀ (j' : Nat) (u : Value), C.toList[j']? = some u → w.cell? ⟨b, bo + j * 36 + j', none⟩ = some u from fun j' u h => hcc j' u (by rw [hC] at h; exact h))
   have Hblt := lh hblt
   clear hf1 hf2 hf3 hv0 h1 h2 h3 hw0 hb0 hv hm hbk hZ hn hC hcc hblt
   go_enter Tryz.func66, Tryz.ntmps66
   go_wp2_with fail
   rw [HLIT.out, ← HW0.out]
   refine HC.out.mono ?_
   rintro e w1 ⟨rfl, hb⟩
   have HB1 := tbB HB0 hb
   have HX1 := kpB hb HX0
   have HI1 := lh (HI.out w1 hb)
   clear hb
   go_wp2_with fail
   refine HI1.out.mono ?_
   rintro e w2 ⟨rfl, hb⟩
   have HB2 := tbB HB1 hb
   have HX2 := kpB hb HX1
   clear hb
   have Hc2 := lh (show ∀ (j' : Nat) (u : Value), C.toList[j']? = some u → w2.cell? ⟨b, bo + j * 36 + j', none⟩ = some u from fun j' u h => (HB2.out.cell (p := ⟨b, bo + j * 36 + j', none⟩) Hblt.out).trans (Hcc.out j' u h))
   go_wp2_with (first | (refine wpList_load_rowO rfl _ _ rfl b (bo + j * 36) rfl C Hc2.out Tryz.underlying66 rfl HCS.out ?_) | (refine wpList_store_rowA rfl _ _ _ rfl (w.heap.size + 2) C rfl rfl _ _ HX2.out HCS.out HCN.out HCO.out ?_) | fail)
   intro wf hwf
   go_wp2
   refine bodyPost_ret (v := .tuple #[.agg C, .int .i64 0]) (WireT.results_cell_slot rfl _ _ (w.heap.size + 2) 66 C (0, 0) _ rfl (by rw [hwf.out]; exact setRow_at HX2.out) Tryz.underlying66 rfl HCS.out rfl) rfl ⟨rfl, by rw [hwf.out]; exact below_row HB2.out (by omega) _⟩
theorem Verify_ok (w : World) (v : Value) (L : List Gr') (sv at' : Int) (text sig : ByteArray) (hv : Sl w v 36 L.length (L.flatMap Gr'.cs)) (ht : text.size ≤ 140737488355328) (hs : sig.size ≤ maxLen) (hk : VarsH w) :
  Calls Tryz.prog 33 #[v, .int .i64 sv, .int .i64 at', .string text, .string sig] w (RB (.int .i64 (verifyB L sv at' (bl text) (bl sig))) w) := by
 have hF := Find_ok w v L sv at' hv
 unfold findG findW at hF
 unfold verifyB
 cases hbk : bookB L
 ·rw [hbk] at hF
  rw [if_neg (by simp), if_neg (by simp)] at hF
  rw [if_neg (by simp)]
  obtain ⟨C, hC⟩ := nXe (zeroG.A)
  rw [← hC] at hF
  have HCS := lh (show (Tryz.prog.info? 66).map (·.size) = some C.size by rw [hC]; exact gr_info _)
  have HCN := lh (show 36 = C.size by rw [hC]; exact (gr_size _).symm)
  have HCO := lh (show C.all (·.oneCell') = true by rw [hC]; kernel_rfl)
  have HF := lh hF
  clear hF hC hv hbk
  go_enter Tryz.func33, Tryz.ntmps33
  go_wp2_with fail
  refine HF.out.mono ?_
  rintro e w1 ⟨rfl, hb⟩
  have HB1 := lh hb
  clear hb
  go_wp2_with (first | (refine wpList_store_rowA rfl _ _ _ rfl w1.heap.size C rfl rfl _ _ (heap_new _ _) HCS.out (by rw [← HCN.out]; rfl) HCO.out ?_) | fail)
  intro u1 hu1
  have HB2 := lh (show Below w.heap.size w u1 by rw [hu1.out]; exact below_row (HB1.out.alloc HB1.out.size _) HB1.out.size _)
  clear hu1
  go_wp2
  go_ret
  exact ⟨rfl, HB2.out⟩
 ·rw [hbk] at hF
  rw [if_pos rfl, if_pos rfl] at hF
  rw [if_pos rfl]
  cases hfd : L.find? (foundB · sv at') with
  | none =>
   rw [hfd] at hF
   replace hF : Calls Tryz.prog 66 #[v, .int .i64 sv, .int .i64 at'] w (RB (.tuple #[.agg zeroG.A, .int .i64 3]) w) := hF
   show Calls _ _ _ _ (RB (.int .i64 3) w)
   obtain ⟨C, hC⟩ := nXe (zeroG.A)
   rw [← hC] at hF
   have HCS := lh (show (Tryz.prog.info? 66).map (·.size) = some C.size by rw [hC]; exact gr_info _)
   have HCN := lh (show 36 = C.size by rw [hC]; exact (gr_size _).symm)
   have HCO := lh (show C.all (·.oneCell') = true by rw [hC]; kernel_rfl)
   have HF := lh hF
   clear hF hC hv hbk hfd
   go_enter Tryz.func33, Tryz.ntmps33
   go_wp2_with fail
   refine HF.out.mono ?_
   rintro e w1 ⟨rfl, hb⟩
   have HB1 := lh hb
   clear hb
   go_wp2_with (first | (refine wpList_store_rowA rfl _ _ _ rfl w1.heap.size C rfl rfl _ _ (heap_new _ _) HCS.out (by rw [← HCN.out]; rfl) HCO.out ?_) | fail)
   intro u1 hu1
   have HB2 := lh (show Below w.heap.size w u1 by rw [hu1.out]; exact below_row (HB1.out.alloc HB1.out.size _) HB1.out.size _)
   clear hu1
   go_wp2
   go_ret
   exact ⟨rfl, HB2.out⟩
  | some g =>
   rw [hfd] at hF
   replace hF : Calls Tryz.prog 66 #[v, .int .i64 sv, .int .i64 at'] w (RB (.tuple #[.agg g.A, .int .i64 0]) w) := hF
   show Calls _ _ _ _ (RB (.int .i64 (verify g.rt.l g.hi.toNat (bl text) (bl sig))) w)
   have hg := book_right hbk (List.mem_of_find?_eq_some hfd)
   obtain ⟨n, hnn⟩ := nXe (g.hi.toNat)
   have hn : g.hi = (n : Int) := by have := hg.h0; omega
   rw [← hnn]
   clear hnn
   have h7 : n ≤ 7 := by have := hg.h1; omega
   have hV := fun w hk => PkV.Verify_ok w g.rt n text sig h7 ht hs hk
   obtain ⟨res, hres⟩ : ∃ r : Int, r = verify g.rt.l n (bl text) (bl sig) := ⟨_, rfl⟩
   rw [← hres] at hV ⊢
   obtain ⟨C, hC⟩ := nXe (g.A)
   obtain ⟨R, hR⟩ := nXe (g.rt.A)
   rw [← hC] at hF
   rw [← hR] at hV
   have c3 : C[3]? = some (.int .i64 (n : Int)) := by rw [hC, ← hn]; exact g.c3
   have HR4 := lh (show ∀ (j : Nat) (u : Value), R.toList[j]? = some u → C[4 + j]? = some u from fun j u h => by
    rw [hC]
    rw [hR] at h
    unfold Gr'.A Gr'.cs
    rw [List.getElem?_toArray, List.getElem?_append_right (by simp), ← h]
    simp [H32.A])
   have HRS := lh (show (Tryz.prog.info? 25).map (·.size) = some R.size by rw [hR]; exact H32.info _)
   have HCS := lh (show (Tryz.prog.info? 66).map (·.size) = some C.size by rw [hC]; exact gr_info _)
   have HCN := lh (show 36 = C.size by rw [hC]; exact (gr_size _).symm)
   have HCO := lh (show C.all (·.oneCell') = true by
    rw [hC, Array.all_eq_true_iff_forall_mem]
    intro u hu
    exact grF.one g u (by simpa [Gr'.A] using hu))
   have HF := lh hF
   have HV := lh hV
   have HK := lh hk
   clear hF hV hk hC hR hv hfd hbk hres hs ht hn hg
   go_enter Tryz.func33, Tryz.ntmps33
   go_wp2_with fail
   refine HF.out.mono ?_
   rintro e w1 ⟨rfl, hb⟩
   have HB1 := lh hb
   clear hb
   go_wp2_with (first | (refine wpList_store_rowA rfl _ _ _ rfl w1.heap.size C rfl rfl _ _ (heap_new _ _) HCS.out (by rw [← HCN.out]; rfl) HCO.out ?_) | fail)
   intro u1 hu1
   have HB2 := lh (show Below w.heap.size w u1 by rw [hu1.out]; exact below_row (HB1.out.alloc HB1.out.size _) HB1.out.size _)
   have HX2 := lh (show u1.heap[w1.heap.size]? = some (.cells C 66 (0, 0)) by rw [hu1.out]; exact setRow_at (heap_new _ _))
   clear hu1
   have hc3 : u1.cell? ⟨w1.heap.size, 3, none⟩ = some (.int .i64 (n : Int)) := by rw [cell_row HX2.out]; exact c3
   have Hc4 := lh (show ∀ (j : Nat) (u : Value), R.toList[j]? = some u → u1.cell? ⟨w1.heap.size, 4 + j, none⟩ = some u from fun j u h => by rw [cell_row HX2.out]; exact HR4.out j u h)
   go_wp2_with (first | (refine wpList_load_rowO rfl _ _ rfl w1.heap.size 4 rfl R Hc4.out Tryz.underlying25 rfl HRS.out ?_) | fail)
   refine (HV.out u1 (HK.out.below HB2.out)).mono ?_
   rintro e w3 ⟨rfl, hb⟩
   have HB3 := tbB HB2 hb
   clear hb
   go_wp2
   go_ret
   exact ⟨rfl, HB3.out⟩
end Go.Proofs.YtkcikadgnnjjjaaGreatDoor.BkF
