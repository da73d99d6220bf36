/-
  WHAT IS PROVED: what the program's functions answer at the inputs of the statements' own check of the deals. Condition: the variables hold what 'VarsD' and 'VarsH' say.
-/
import Derived.Test.YtdmonfimdinkeaaGreatDoorDlT
import Derived.Test.YtdmonfimdinkeaaGreatDoorDlK
namespace Go.Proofs.YtdmonfimdinkeaaGreatDoor.DlL
open Go Go.RowKit Go.Shelf Go.Proofs.YtdmonfimdinkeaaGreatDoor Go.Proofs.YtdmonfimdinkeaaGreatDoor.OctetS Go.Proofs.YtdmonfimdinkeaaGreatDoor.IdentS Go.Proofs.YtdmonfimdinkeaaGreatDoor.EntS Go.Proofs.YtdmonfimdinkeaaGreatDoor.OctP Go.Proofs.YtdmonfimdinkeaaGreatDoor.OctG Go.Proofs.YtdmonfimdinkeaaGreatDoor.IdentP Go.Proofs.YtdmonfimdinkeaaGreatDoor.EntP Go.Proofs.YtdmonfimdinkeaaGreatDoor.EventC Go.Proofs.YtdmonfimdinkeaaGreatDoor.ShaA Go.Proofs.YtdmonfimdinkeaaGreatDoor.Steps Go.Proofs.YtdmonfimdinkeaaGreatDoor.KeyA Go.Proofs.YtdmonfimdinkeaaGreatDoor.KeyS Go.Proofs.YtdmonfimdinkeaaGreatDoor.KeyI Go.Proofs.YtdmonfimdinkeaaGreatDoor.KeyK Go.Proofs.YtdmonfimdinkeaaGreatDoor.TreeA Go.Proofs.YtdmonfimdinkeaaGreatDoor.EntK Go.Proofs.YtdmonfimdinkeaaGreatDoor.BookA Go.Proofs.YtdmonfimdinkeaaGreatDoor.EntL Go.Proofs.YtdmonfimdinkeaaGreatDoor.WireS Go.Proofs.YtdmonfimdinkeaaGreatDoor.WireT Go.Proofs.YtdmonfimdinkeaaGreatDoor.WireD Go.Proofs.YtdmonfimdinkeaaGreatDoor.DlV Go.Proofs.YtdmonfimdinkeaaGreatDoor.Lift
set_option linter.unusedVariables false
set_option linter.unusedSimpArgs false

def gD : ByteArray := bsOf DlK.G
theorem gD_size : gD.size = 1121 := by
  unfold gD
  rw [size_bsOf, DlK.G_len]
theorem gD_z : gD.size ≤ maxLen := by
  rw [gD_size]
  unfold maxLen
  omega
theorem of_dl (k : Int) (s : List UInt8) : dlOf k rB 1 5 2 1 (bsOf s) = DlK.dl k s := by
  unfold dlOf rB DlK.dl
  rw [bl_bsOf, bl_bsOf]
def dA (k : Int) (s : ByteArray) : Array Value := dlA k rB 1 5 2 1 s
theorem check_n {k : Int} (h : k = 1 ∨ k = 2) : checkD (dlOf k rB 1 5 2 1 nB) = true := by
  rw [nB_of, of_dl]
  exact DlK.check1 h (by simp)
theorem check_1 {k : Int} (h : k = 1 ∨ k = 2) : checkD (dlOf k rB 1 5 2 1 gD) = true := by
  unfold gD
  rw [of_dl]
  exact DlK.check1 h DlK.G_le
theorem text_n : DlS.text (dlOf 1 rB 1 5 2 1 nB) = DlK.TD1 := by
  rw [nB_of, of_dl]
  exact DlK.text1 _
theorem text_1 : DlS.text (dlOf 1 rB 1 5 2 1 gD) = DlK.TD1 := by
  unfold gD
  rw [of_dl]
  exact DlK.text1 _
def sD : ByteArray := bsOf (OctetS.list [DlK.TD1, DlK.G])
theorem list_len2 : (OctetS.list [DlK.TD1, DlK.G]).length ≤ 20000 := by
  have h := EntX.flat_len [DlK.TD1, DlK.G] (fun t ht => by
    simp only [List.mem_cons, List.not_mem_nil, or_false] at ht
    rcases ht with rfl | rfl
    · exact DlK.TD1_len
    · exact DlK.G_le)
  have h5 := OctetS.num_length2 (n := 2) (by omega)
  have h2 : ([DlK.TD1, DlK.G].flatMap OctetS.text).length ≤ 8194 * 2 := h
  show (OctetS.num 2 ++ [DlK.TD1, DlK.G].flatMap OctetS.text).length ≤ 20000
  rw [List.length_append]
  omega
theorem sD_size : sD.size ≤ 20000 := by
  unfold sD
  rw [size_bsOf]
  exact list_len2
theorem Sign_s (w0 w : World) (R : Nat) (v : Value) (h : RingAt w0 w R sS 1 0 v) (hk : VarsH w) (hv : VarsD w) :
    Calls Tryz.prog 52 #[.pointer (some ⟨R, 0, none⟩), .agg (dA 1 nB)] w fun e' w' => e' = .returned (.tuple #[.agg (dA 1 gD), .int .i64 0]) ∧ RingAt w0 w' R sS 1 1 v ∧ Ext (fun k => k = R) w w' := by
  have h1 := DlT.P_Sign w R sS 1 0 v _ (by decide) (by decide) (by decide) h.row h.lv.sl (fun k hk => (h.lv.lt k hk).2) hk (dA 1 nB) 1 rB 1 5 2 1 nB rfl hv (by decide) (by decide) rB_z nB_z (check_n (.inl rfl))
  rw [text_n, sS_bl] at h1
  refine h1.mono ?_
  rintro e w' ⟨rfl, hr, hE⟩
  exact ⟨rfl, ⟨hr, h.lv.ext hE (fun k hk => by have := h.sep k hk; omega), h.ge, h.sep⟩, hE⟩
theorem Answer_1 (w : World) (hv : VarsD w) : Calls Tryz.prog 27 #[.agg (dA 1 gD)] w (RB (.tuple #[.agg (dA 2 nB), .int .i64 0]) w) := by
  have h := DlT.P_Answer w (dA 1 gD) 1 rB 1 5 2 1 gD rfl hv (by decide) (by decide) rB_z gD_z
  have hc := check_1 (k := 1) (.inl rfl)
  have ha : DlS.answerW (dlOf 1 rB 1 5 2 1 gD) = 0 := by
    unfold DlS.answerW
    rw [if_pos hc]
    rfl
  rw [ha] at h
  unfold DlT.ansA at h
  rw [if_pos ⟨hc, rfl⟩] at h
  exact h
theorem Answer_2 (w : World) (hv : VarsD w) : Calls Tryz.prog 27 #[.agg (dA 2 nB)] w (RB (.tuple #[.agg dlZ, .int .i64 11]) w) := by
  have h := DlT.P_Answer w (dA 2 nB) 2 rB 1 5 2 1 nB rfl hv (by decide) (by decide) rB_z nB_z
  have hc := check_n (k := 2) (.inr rfl)
  have ha : DlS.answerW (dlOf 2 rB 1 5 2 1 nB) = 11 := by
    unfold DlS.answerW
    rw [if_pos hc]
    rfl
  rw [ha] at h
  unfold DlT.ansA at h
  rw [if_neg (fun h => absurd h.2 (by decide))] at h
  exact h
theorem Bytes_s (w : World) (hv : VarsD w) : Calls Tryz.prog 23 #[.agg (dA 1 gD)] w (RB (.tuple #[.string sD, .int .i64 0]) w) := by
  have h := DlT.P_Bytes w (dA 1 gD) 1 rB 1 5 2 1 gD rfl hv (by decide) (by decide) rB_z gD_z
  have hb : DlS.bytesW (dlOf 1 rB 1 5 2 1 gD) = (OctetS.list [DlK.TD1, DlK.G], 0) := by
    rw [DlT.dbytes_ok, check_1 (.inl rfl), if_pos rfl, text_1, if_pos DlK.TD1_len]
    unfold gD
    rw [of_dl, DlK.bytes1]
  rw [hb] at h
  exact h
theorem Parse_s (w : World) (hv : VarsD w) : Calls Tryz.prog 25 #[.string sD] w (RB (.tuple #[.agg (dA 1 gD), .int .i64 0]) w) := by
  have h := WireD.d_Parse w sD (by have := sD_size; omega) hv
  have hp : WireS.parseD (bl sD) = some (DlK.dl 1 DlK.G) := by
    unfold sD
    rw [bl_bsOf]
    exact DlK.parse1
  rw [hp] at h
  exact h
theorem bl_snoc (s : ByteArray) : bl (s ++ ⟨#[33]⟩) = bl s ++ [33] := by simp [bl]
theorem size_snoc (s : ByteArray) : (s ++ ⟨#[33]⟩ : ByteArray).size = s.size + 1 := by
  rw [ByteArray.size_append]
  rfl
theorem Parse_more (w : World) (hv : VarsD w) : Calls Tryz.prog 25 #[.string (sD ++ ⟨#[33]⟩)] w (RB (.tuple #[.agg dlZ, .int .i64 6]) w) := by
  have h := WireD.d_Parse w (sD ++ ⟨#[33]⟩) (by rw [size_snoc]; have := sD_size; omega) hv
  have hp : WireS.parseD (bl (sD ++ ⟨#[33]⟩)) = none := by
    rw [bl_snoc]
    unfold sD
    rw [bl_bsOf]
    exact DlK.parse_more DlK.fits1 33
  rw [hp] at h
  exact h
theorem Check_s (w : World) (hv : VarsD w) : Calls Tryz.prog 29 #[.agg dlZ] w (RB (.int .i64 2) w) := by
  have h := WireD.d_Check w dlZ 0 ⟨#[]⟩ 0 0 0 0 ⟨#[]⟩ rfl hv.i (by decide) (by decide) (by decide +kernel)
  have hc : checkD (dlOf 0 ⟨#[]⟩ 0 0 0 0 ⟨#[]⟩) = false := by decide +kernel
  rw [hc] at h
  exact h
theorem Verify_1 (w : World) (v : Value) (hk : VarsH w) (hv : VarsD w) (hg : Sl w v 36 1 ([gr].flatMap Gr'.cs)) : Calls Tryz.prog 53 #[v, .agg (dA 1 gD)] w (RB (.int .i64 0) w) := by
  refine DlT.P_Verify w (dA 1 gD) 1 rB 1 5 2 1 gD rfl hv (by decide) (by decide) rB_z gD_z (check_1 (.inl rfl)) v 0 (fun w' hb => ?_)
  rw [text_1, if_pos rfl]
  have h := BookE.Verify_yes w' v gr 2 5 (bsOf DlK.TD1) gD 1 gr_right rfl (hg.below hb) (found_yes _ (by decide) (by decide)) (by rw [size_bsOf]; have := DlK.TD1_len; omega) gD_size (by unfold gD; rw [bl_bsOf, DlK.G_head]; decide) (hk.below hb)
  have hc : climbOf 1 (bl (bsOf DlK.TD1)) (bl gD) = gr.rt.l := by
    unfold gD
    rw [bl_bsOf, bl_bsOf, DlK.climb1]
    exact (rootK_l _ _).symm
  rw [if_pos hc] at h
  exact h
theorem Verify_2 (w : World) (v : Value) (hk : VarsH w) (hv : VarsD w) (hg : Sl w v 36 1 ([gr].flatMap Gr'.cs)) : Calls Tryz.prog 53 #[v, .agg (dA 2 nB)] w (RB (.int .i64 3) w) := by
  refine DlT.P_Verify w (dA 2 nB) 2 rB 1 5 2 1 nB rfl hv (by decide) (by decide) rB_z nB_z (check_n (.inr rfl)) v 3 (fun w' hb => ?_)
  rw [if_neg (by decide)]
  exact BookE.Verify_none w' v gr 1 _ _ nB gr_right (hg.below hb) (found_no _)
theorem Fits_1 (w : World) (hv : VarsD w) : Calls Tryz.prog 31 #[.agg (dA 1 gD), .agg (dA 2 nB)] w (RB (.bool true) w) := by
  have h := DlT.P_Fits w (dA 1 gD) (dA 2 nB) 1 rB 1 5 2 1 gD 2 rB 1 5 2 1 nB rfl rfl hv (by decide) (by decide) (by decide) (by decide) rB_z gD_z rB_z nB_z
  have hf : DlT.fitsB 1 rB 1 5 2 1 gD 2 rB 1 5 2 1 nB = true := by
    unfold DlT.fitsB
    rw [check_1 (.inl rfl), check_n (.inr rfl)]
    simp
  rw [hf] at h
  exact h
theorem Fits_2 (w : World) (hv : VarsD w) : Calls Tryz.prog 31 #[.agg (dA 2 nB), .agg (dA 1 gD)] w (RB (.bool false) w) := by
  have h := DlT.P_Fits w (dA 2 nB) (dA 1 gD) 2 rB 1 5 2 1 nB 1 rB 1 5 2 1 gD rfl rfl hv (by decide) (by decide) (by decide) (by decide) rB_z nB_z rB_z gD_z
  have hf : DlT.fitsB 2 rB 1 5 2 1 nB 1 rB 1 5 2 1 gD = false := by
    unfold DlT.fitsB
    simp
  rw [hf] at h
  exact h

/-! ### The ring's root -/
set_option maxRecDepth 100000 in
set_option maxHeartbeats 4000000 in
theorem Ring_Root (w0 w : World) (R n : Nat) (v : Value) (hR : RingAt w0 w R sS 1 n v) : Calls Tryz.prog 38 #[.pointer (some ⟨R, 0, none⟩)] w (RB (.agg (rootK [115] 1).A) w) := by
  obtain ⟨Rt, hRte⟩ : ∃ Rt, Rt = (rootK [115] 1).A := ⟨_, rfl⟩
  have HRtS := Lib.hid (show (Tryz.prog.info? 23).map (·.size) = some Rt.size by rw [hRte]; exact H32.info _)
  have HRtN := Lib.hid (show 32 = Rt.size by rw [hRte, H32.size])
  have HRtO := Lib.hid (show Rt.all (·.oneCell') = true by rw [hRte]; exact H32.one _)
  have hrow := hR.row
  have hrl := lt_row hrow
  have Hc0 : ∀ (j : Nat) (u : Value), Rt.toList[j]? = some u → w.cell? ⟨R, 4 + j, none⟩ = some u := by intro j u hu; rw [cell_row hrow, sS_bl, ringA_at, ← hRte, ← hu]; simp
  obtain ⟨Z, hZ⟩ : ∃ Z, Z = zeroH.A := ⟨_, rfl⟩
  have HLIT : Hid ((#[.int .u8 0, .int .u8 0, .int .u8 0, .int .u8 0, .int .u8 0, .int .u8 0, .int .u8 0, .int .u8 0, .int .u8 0, .int .u8 0, .int .u8 0, .int .u8 0, .int .u8 0, .int .u8 0, .int .u8 0, .int .u8 0, .int .u8 0, .int .u8 0, .int .u8 0, .int .u8 0, .int .u8 0, .int .u8 0, .int .u8 0, .int .u8 0, .int .u8 0, .int .u8 0, .int .u8 0, .int .u8 0, .int .u8 0, .int .u8 0, .int .u8 0, .int .u8 0] : Array Value) = Z) := Lib.hid (by rw [hZ]; kernel_rfl)
  have HZN : Hid (Z.size = 32) := Lib.hid (by rw [hZ]; kernel_rfl)
  rw [← hRte]
  obtain ⟨w1, hw1⟩ : ∃ w1, w1 = w.alloc (.cells Z 23) := ⟨_, rfl⟩
  have hb1 : Below w.heap.size w w1 := by rw [hw1]; exact (Below.refl _ w).alloc (Nat.le_refl _) _
  have HZ1 := Lib.hid (show w1.heap[w.heap.size]? = some (.cells Z 23 (0, 0)) by rw [hw1]; exact heap_new _ _)
  have hr1 := (hb1.block _ hrl).trans hrow
  have Hcc := Lib.hid (show ∀ (j : Nat) (u : Value), Rt.toList[j]? = some u → w1.cell? ⟨R, 4 + j, none⟩ = some u by intro j u hu; rw [cell_row hr1, ← cell_row hrow]; exact Hc0 j u hu)
  obtain ⟨cr1, fr1⟩ := row_facts hr1
  have HBL1 := Lib.hid hb1
  have HW1 := Lib.hid hw1
  clear hw1 hb1 hr1 hrow Hc0 hRte hZ hR
  go_enter Tryz.func38, Tryz.ntmps38
  go_wp2_with (first | (rw [HLIT.out, ← HW1.out]; refine wpList_load_rowO rfl _ _ rfl R 4 rfl Rt Hcc.out Tryz.underlying23 rfl HRtS.out ?_) | (refine wpList_load_rowO rfl _ _ rfl R 4 rfl Rt Hcc.out Tryz.underlying23 rfl HRtS.out ?_) | (refine wpList_store_rowA rfl _ _ _ rfl w.heap.size Rt rfl rfl _ _ HZ1.out HRtS.out (by rw [HZN.out]; exact HRtN.out) HRtO.out ?_) | fail)
  intro wf hwf
  go_wp2
  refine bodyPost_ret (v := .agg Rt) (results_cell_row rfl _ _ w.heap.size _ Rt (0, 0) _ rfl (by rw [hwf.out]; exact setRow_at HZ1.out) Tryz.underlying23 rfl HRtS.out) rfl ⟨rfl, by rw [hwf.out]; exact below_row HBL1.out (Nat.le_refl _) _⟩

end Go.Proofs.YtdmonfimdinkeaaGreatDoor.DlL
