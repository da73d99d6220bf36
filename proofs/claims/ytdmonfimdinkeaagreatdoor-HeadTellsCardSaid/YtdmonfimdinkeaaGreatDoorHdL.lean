/-
  WHAT IS PROVED: what the program's functions answer at the inputs of the statements' own check of the heads. Condition: the variables hold what 'VarsI' and 'VarsH' say.
-/
import Derived.Test.YtdmonfimdinkeaaGreatDoorHdK
import Derived.Test.YtdmonfimdinkeaaGreatDoorHdT
namespace Go.Proofs.YtdmonfimdinkeaaGreatDoor.HdL
open Go Go.RowKit Go.Shelf Go.Proofs.YtdmonfimdinkeaaGreatDoor Go.Proofs.YtdmonfimdinkeaaGreatDoor.OctetS Go.Proofs.YtdmonfimdinkeaaGreatDoor.IdentS Go.Proofs.YtdmonfimdinkeaaGreatDoor.EntS Go.Proofs.YtdmonfimdinkeaaGreatDoor.OctP Go.Proofs.YtdmonfimdinkeaaGreatDoor.OctG Go.Proofs.YtdmonfimdinkeaaGreatDoor.IdentP Go.Proofs.YtdmonfimdinkeaaGreatDoor.EntP Go.Proofs.YtdmonfimdinkeaaGreatDoor.EventC Go.Proofs.YtdmonfimdinkeaaGreatDoor.ShaA Go.Proofs.YtdmonfimdinkeaaGreatDoor.Steps Go.Proofs.YtdmonfimdinkeaaGreatDoor.KeyA Go.Proofs.YtdmonfimdinkeaaGreatDoor.KeyS Go.Proofs.YtdmonfimdinkeaaGreatDoor.KeyI Go.Proofs.YtdmonfimdinkeaaGreatDoor.KeyK Go.Proofs.YtdmonfimdinkeaaGreatDoor.TreeA Go.Proofs.YtdmonfimdinkeaaGreatDoor.EntK Go.Proofs.YtdmonfimdinkeaaGreatDoor.BookA Go.Proofs.YtdmonfimdinkeaaGreatDoor.EntL Go.Proofs.YtdmonfimdinkeaaGreatDoor.WireT Go.Proofs.YtdmonfimdinkeaaGreatDoor.Lift
set_option linter.unusedVariables false
set_option linter.unusedSimpArgs false

def gH : ByteArray := bsOf HdK.G
theorem gH_size : gH.size = 1121 := by
  unfold gH
  rw [size_bsOf, HdK.G_len]
theorem gH_z : gH.size ≤ maxLen := by
  rw [gH_size]
  unfold maxLen
  omega
theorem of_hd (ep : Nat) (s : List UInt8) : hdOf rB (ep : Int) 5 HdK.sm (bsOf s) = HdK.hd ep s := by
  unfold hdOf rB HdK.hd
  rw [bl_bsOf, bl_bsOf]
def hA (ep : Nat) (s : ByteArray) : Array Value := hdA rB (ep : Int) 5 HdK.sm s
theorem hP (ep : Nat) (s : ByteArray) : HdP (hA ep s) rB (ep : Int) 5 HdK.sm s := ⟨rfl, HdK.sm_len⟩
theorem hA_one (ep : Nat) (s : ByteArray) : (hA ep s).all (·.oneCell') = true := hdA_one _ _ _ _ _
theorem hA_size (ep : Nat) (s : ByteArray) : (hA ep s).size = 36 := hdA_size HdK.sm_len
theorem check_n : checkH (hdOf rB ((1 : Nat) : Int) 5 HdK.sm nB) = true := by
  rw [nB_of, of_hd]
  exact HdK.check1 (by simp)
theorem check_1 : checkH (hdOf rB ((1 : Nat) : Int) 5 HdK.sm gH) = true := by
  unfold gH
  rw [of_hd]
  exact HdK.check1 HdK.G_le
theorem check_2 : checkH (hdOf rB ((2 : Nat) : Int) 5 HdK.sm gH) = true := by
  unfold gH
  rw [of_hd]
  exact HdK.check2 HdK.G_le
theorem text_n : HdS.text (hdOf rB ((1 : Nat) : Int) 5 HdK.sm nB) = HdK.TH1 := by
  rw [nB_of, of_hd]
  exact HdK.text1 _
theorem text_1 : HdS.text (hdOf rB ((1 : Nat) : Int) 5 HdK.sm gH) = HdK.TH1 := by
  unfold gH
  rw [of_hd]
  exact HdK.text1 _
theorem text_2 : HdS.text (hdOf rB ((2 : Nat) : Int) 5 HdK.sm gH) = HdK.TH2 := by
  unfold gH
  rw [of_hd]
  exact HdK.text2 _
def sH : ByteArray := bsOf (OctetS.list [HdK.TH1, HdK.G])
theorem list_len2 : (OctetS.list [HdK.TH1, HdK.G]).length ≤ 20000 := by
  have h := EntX.flat_len [HdK.TH1, HdK.G] (fun t ht => by
    simp only [List.mem_cons, List.not_mem_nil, or_false] at ht
    rcases ht with rfl | rfl
    · exact HdK.TH1_len
    · exact HdK.G_le)
  have h5 := OctetS.num_length2 (n := 2) (by omega)
  have h2 : ([HdK.TH1, HdK.G].flatMap OctetS.text).length ≤ 8194 * 2 := h
  show (OctetS.num 2 ++ [HdK.TH1, HdK.G].flatMap OctetS.text).length ≤ 20000
  rw [List.length_append]
  omega
theorem sH_size : sH.size ≤ 20000 := by
  unfold sH
  rw [size_bsOf]
  exact list_len2
/-- The entry's sum, as a row. -/
def smH : H32 := EntX.sumE (entOf rB 1 ((5 : Nat) : Int) z32 xB nB)
theorem smH_l : smH.l = HdK.sm := by
  unfold smH EntX.sumE
  rw [EntL.check_n, if_pos rfl, EntL.text_n]
  exact KeyJ.mk32_l _ _

theorem Of_s (w : World) (hk : VarsH w) (hv : VarsI w) : Calls Tryz.prog 16 #[.agg (eA 5 nB)] w (RB (.tuple #[.agg (hA 1 nB), .int .i64 0]) w) := by
  have h := HdT.P_Of w (eA 5 nB) rB 1 ((5 : Nat) : Int) z32 xB nB (eP 5 nB) hv hk rB_z xB_z nB_z
  unfold HdT.ofA at h
  rw [EntL.check_n, if_pos rfl] at h
  have hl : (EntX.sumE (entOf rB 1 ((5 : Nat) : Int) z32 xB nB)).l = HdK.sm := smH_l
  rw [hl] at h
  exact h
theorem Sum_s (w : World) (hk : VarsH w) (hv : VarsI w) : Calls Tryz.prog 36 #[.agg (eA 5 nB)] w (RB (.tuple #[.agg smH.A, .int .i64 0]) w) := by
  have h := EntX.Sum_ok w (eA 5 nB) rB 1 ((5 : Nat) : Int) z32 xB nB (eP 5 nB) hv hk rB_z xB_z nB_z
  rw [EntL.check_n] at h
  exact h
theorem Sign_s (w0 w : World) (R : Nat) (v : Value) (h : RingAt w0 w R sS 1 0 v) (hk : VarsH w) (hv : VarsI w) :
    Calls Tryz.prog 37 #[.pointer (some ⟨R, 0, none⟩), .agg (hA 1 nB)] w fun e' w' => e' = .returned (.tuple #[.agg (hA 1 gH), .int .i64 0]) ∧ RingAt w0 w' R sS 1 1 v ∧ Ext (fun k => k = R) w w' := by
  have h1 := HdT.P_Sign w R sS 1 0 v _ (by decide) (by decide) (by decide) h.row h.lv.sl (fun k hk => (h.lv.lt k hk).2) hk (hA 1 nB) rB ((1 : Nat) : Int) 5 HdK.sm nB (hP 1 nB) hv rB_z nB_z check_n
  rw [text_n, sS_bl] at h1
  refine h1.mono ?_
  rintro e w' ⟨rfl, hr, hE⟩
  exact ⟨rfl, ⟨hr, h.lv.ext hE (fun k hk => by have := h.sep k hk; omega), h.ge, h.sep⟩, hE⟩
theorem Bytes_s (w : World) (hv : VarsI w) : Calls Tryz.prog 10 #[.agg (hA 1 gH)] w (RB (.tuple #[.string sH, .int .i64 0]) w) := by
  have h := HdT.P_Bytes w (hA 1 gH) rB ((1 : Nat) : Int) 5 HdK.sm gH (hP 1 gH) hv rB_z gH_z
  have hb : HdS.bytesW (hdOf rB ((1 : Nat) : Int) 5 HdK.sm gH) = (OctetS.list [HdK.TH1, HdK.G], 0) := by
    rw [HdT.hbytes_ok, check_1, if_pos rfl, text_1, if_pos HdK.TH1_len]
    unfold gH
    rw [of_hd, HdK.bytes1]
  rw [hb] at h
  exact h
theorem Parse_s (w : World) (hv : VarsI w) : Calls Tryz.prog 12 #[.string sH] w (RB (.tuple #[.agg (hA 1 gH), .int .i64 0]) w) := by
  have h := WireC.Parse_ok w sH (by have := sH_size; omega) hv
  have hp : WireS.parseH (bl sH) = some (HdK.hd 1 HdK.G) := by
    unfold sH
    rw [bl_bsOf]
    exact HdK.parse1
  rw [hp] at h
  exact h
theorem Read_s (w : World) (hv : VarsI w) : Calls Tryz.prog 14 #[.string sH] w (RB (.tuple #[.agg hdZ, .int .i64 6]) w) := by
  have h := WireC.Read_ok w sH (by have := sH_size; omega) hv
  have hp : WireS.readH (bl sH) = none := by
    unfold sH
    rw [bl_bsOf]
    exact HdK.read_two HdK.fits1 rfl
  rw [hp] at h
  exact h
theorem Check_s (w : World) (hv : VarsI w) : Calls Tryz.prog 18 #[.agg hdZ] w (RB (.int .i64 2) w) := by
  have h := HdT.P_Check w hdZ ⟨#[]⟩ 0 0 zero32 ⟨#[]⟩ ⟨rfl, rfl⟩ hv (by decide) (by decide +kernel)
  have hc : checkH (hdOf ⟨#[]⟩ 0 0 zero32 ⟨#[]⟩) = false := by decide +kernel
  rw [hc] at h
  exact h
theorem Verify_1 (w : World) (v : Value) (hk : VarsH w) (hv : VarsI w) (hg : Sl w v 36 1 ([gr].flatMap Gr'.cs)) : Calls Tryz.prog 39 #[v, .int .i64 2, .agg (hA 1 gH)] w (RB (.int .i64 0) w) := by
  refine HdT.P_Verify w (hA 1 gH) rB ((1 : Nat) : Int) 5 HdK.sm gH (hP 1 gH) hv rB_z gH_z check_1 v 2 0 (fun w' hb => ?_)
  rw [text_1]
  have h := BookE.Verify_yes w' v gr 2 5 (bsOf HdK.TH1) gH 1 gr_right rfl (hg.below hb) (found_yes _ (by decide) (by decide)) (by rw [size_bsOf]; have := HdK.TH1_len; omega) gH_size (by unfold gH; rw [bl_bsOf, HdK.G_head]; decide) (hk.below hb)
  have hc : climbOf 1 (bl (bsOf HdK.TH1)) (bl gH) = gr.rt.l := by
    unfold gH
    rw [bl_bsOf, bl_bsOf, HdK.climb1]
    exact (rootK_l _ _).symm
  rw [if_pos hc] at h
  exact h
theorem Verify_2 (w : World) (v : Value) (hk : VarsH w) (hv : VarsI w) (hg : Sl w v 36 1 ([gr].flatMap Gr'.cs)) : Calls Tryz.prog 39 #[v, .int .i64 2, .agg (hA 2 gH)] w (RB (.int .i64 9) w) := by
  refine HdT.P_Verify w (hA 2 gH) rB ((2 : Nat) : Int) 5 HdK.sm gH (hP 2 gH) hv rB_z gH_z check_2 v 2 9 (fun w' hb => ?_)
  rw [text_2]
  have h := BookE.Verify_yes w' v gr 2 5 (bsOf HdK.TH2) gH 1 gr_right rfl (hg.below hb) (found_yes _ (by decide) (by decide)) (by rw [size_bsOf]; have := HdK.TH2_len; omega) gH_size (by unfold gH; rw [bl_bsOf, HdK.G_head]; decide) (hk.below hb)
  have hc : ¬ climbOf 1 (bl (bsOf HdK.TH2)) (bl gH) = gr.rt.l := by
    unfold gH
    rw [bl_bsOf, bl_bsOf, show gr.rt.l = rootOf [115] 1 from rootK_l _ _]
    exact HdK.climb2
  rw [if_neg hc] at h
  exact h
theorem eq_hd {p : Array Value} {r : ByteArray} {ep ix : Int} {pv : List UInt8} {s : ByteArray} (hp : HdP p r ep ix pv s) (w : World) : (Op.equalIn 10000 25 (.agg p) (.agg p)).run Tryz.prog w = .ok true w := by
  rw [hp.eq, EqHd.eqHd _ _ _ _ _ _ _ _ _ _ hp.len hp.len, EqHash.hEq_self]
  simp
theorem eq_hash (x : H32) (w : World) : (Op.equalIn 10000 23 (.agg x.A) (.agg x.A)).run Tryz.prog w = .ok true w := by
  have h : x.A = ShaB.pB 32 x.l := by
    unfold H32.A
    exact EqEnt.pB_of x.len
  rw [h, EqHash.eqHash, EqHash.hEq_self]
/-- The head that the check writes down. -/
theorem built_s : Tryz.prog.built 25 [(0, .string rB), (1, .int .i64 1), (2, .int .i64 5), (3, .agg smH.A)] = some (hA 1 nB) := HdT.built_hd rB 1 5 smH smH.A (hA 1 nB) rfl (by rw [smH_l]; rfl)
theorem hA_sum (ep : Nat) (s : ByteArray) (j : Nat) (u : Value) (h : smH.A.toList[j]? = some u) : (hA ep s)[3 + j]? = some u := by
  refine (hP ep s).cp j u ?_
  rw [← h]
  unfold H32.A
  rw [smH_l]
theorem wpList_load_rowOG {P : Program} {ops : Array Oper} {rest : List Oper} {o : Oper} {a : Act} {w : World} {Q : Exit → Act → World → Prop} (hw : Region.wanted o (yielded ops a.tmps) = true) (ty : TypeId) (x : Operand) (ho : o.op = .load ty x) (b off : Nat) (hx : a.eval x = .pointer (some ⟨b, off, none⟩)) (cs : Array Value)
    (hc : ∀ j v, cs.toList[j]? = some v → w.cell? ⟨b, off + j, none⟩ = some v) {d : TypeDesc}
    (hu : P.underlying ty = some d) (hd : (match d with | .struct _ | .array _ _ => true | _ => false) = true) (hi : (P.info? ty).map (·.size) = some cs.size) (h : wpList P ops Q rest (a.put o.dst (.agg cs)) w) : wpList P ops Q (o :: rest) a w := by
  unfold wpList
  rw [if_pos hw]
  exact .inl (wp_load_rowO ty x ho b off hx cs hc hu hd hi h)

/-! ### The ring's root -/
set_option maxRecDepth 100000 in
set_option maxHeartbeats 4000000 in
theorem Ring_Root (w0 w : World) (R n : Nat) (v : Value) (hR : RingAt w0 w R sS 1 n v) : Calls Tryz.prog 38 #[.pointer (some ⟨R, 0, none⟩)] w (RB (.agg (rootK [115] 1).A) w) := by
  obtain ⟨Rt, hRte⟩ : ∃ Rt, Rt = (rootK [115] 1).A := ⟨_, rfl⟩
  have HRtS := Lib.hid (show (Tryz.prog.info? 23).map (·.size) = some Rt.size by rw [hRte]; exact H32.info _)
  have HRtN := Lib.hid (show 32 = Rt.size by rw [hRte, H32.size])
  have HRtO := Lib.hid (show Rt.all (·.oneCell') = true by rw [hRte]; exact H32.one _)
  have hrow := hR.row
  have hrl := lt_row hrow
  have Hc0 : ∀ (j : Nat) (u : Value), Rt.toList[j]? = some u → w.cell? ⟨R, 4 + j, none⟩ = some u := by intro j u hu; rw [cell_row hrow, sS_bl, ringA_at, ← hRte, ← hu]; simp
  obtain ⟨Z, hZ⟩ : ∃ Z, Z = zeroH.A := ⟨_, rfl⟩
  have HLIT : Hid ((#[.int .u8 0, .int .u8 0, .int .u8 0, .int .u8 0, .int .u8 0, .int .u8 0, .int .u8 0, .int .u8 0, .int .u8 0, .int .u8 0, .int .u8 0, .int .u8 0, .int .u8 0, .int .u8 0, .int .u8 0, .int .u8 0, .int .u8 0, .int .u8 0, .int .u8 0, .int .u8 0, .int .u8 0, .int .u8 0, .int .u8 0, .int .u8 0, .int .u8 0, .int .u8 0, .int .u8 0, .int .u8 0, .int .u8 0, .int .u8 0, .int .u8 0, .int .u8 0] : Array Value) = Z) := Lib.hid (by rw [hZ]; kernel_rfl)
  have HZN : Hid (Z.size = 32) := Lib.hid (by rw [hZ]; kernel_rfl)
  rw [← hRte]
  obtain ⟨w1, hw1⟩ : ∃ w1, w1 = w.alloc (.cells Z 23) := ⟨_, rfl⟩
  have hb1 : Below w.heap.size w w1 := by rw [hw1]; exact (Below.refl _ w).alloc (Nat.le_refl _) _
  have HZ1 := Lib.hid (show w1.heap[w.heap.size]? = some (.cells Z 23 (0, 0)) by rw [hw1]; exact heap_new _ _)
  have hr1 := (hb1.block _ hrl).trans hrow
  have Hcc := Lib.hid (show ∀ (j : Nat) (u : Value), Rt.toList[j]? = some u → w1.cell? ⟨R, 4 + j, none⟩ = some u by intro j u hu; rw [cell_row hr1, ← cell_row hrow]; exact Hc0 j u hu)
  obtain ⟨cr1, fr1⟩ := row_facts hr1
  have HBL1 := Lib.hid hb1
  have HW1 := Lib.hid hw1
  clear hw1 hb1 hr1 hrow Hc0 hRte hZ hR
  go_enter Tryz.func38, Tryz.ntmps38
  go_wp2_with (first | (rw [HLIT.out, ← HW1.out]; refine wpList_load_rowO rfl _ _ rfl R 4 rfl Rt Hcc.out Tryz.underlying23 rfl HRtS.out ?_) | (refine wpList_load_rowO rfl _ _ rfl R 4 rfl Rt Hcc.out Tryz.underlying23 rfl HRtS.out ?_) | (refine wpList_store_rowA rfl _ _ _ rfl w.heap.size Rt rfl rfl _ _ HZ1.out HRtS.out (by rw [HZN.out]; exact HRtN.out) HRtO.out ?_) | fail)
  intro wf hwf
  go_wp2
  refine bodyPost_ret (v := .agg Rt) (results_cell_row rfl _ _ w.heap.size _ Rt (0, 0) _ rfl (by rw [hwf.out]; exact setRow_at HZ1.out) Tryz.underlying23 rfl HRtS.out) rfl ⟨rfl, by rw [hwf.out]; exact below_row HBL1.out (Nat.le_refl _) _⟩

end Go.Proofs.YtdmonfimdinkeaaGreatDoor.HdL
