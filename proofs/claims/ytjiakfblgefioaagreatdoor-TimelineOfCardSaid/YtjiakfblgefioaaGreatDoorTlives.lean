/-
  WHAT IS PROVED: the statements' own questions, of which the document gives the answers, are answered as it says. Condition: the variables hold what 'VarsR' says.
-/
import Derived.Test.YtjiakfblgefioaaGreatDoorTgone
namespace Go.Proofs.YtjiakfblgefioaaGreatDoor.Tlives
open Go Go.RowKit Go.Shelf Go.Proofs.YtjiakfblgefioaaGreatDoor Go.Proofs.YtjiakfblgefioaaGreatDoor.OctetS Go.Proofs.YtjiakfblgefioaaGreatDoor.IdentS Go.Proofs.YtjiakfblgefioaaGreatDoor.EventS Go.Proofs.YtjiakfblgefioaaGreatDoor.ShaS Go.Proofs.YtjiakfblgefioaaGreatDoor.RedactS Go.Proofs.YtjiakfblgefioaaGreatDoor.TimelineS Go.Proofs.YtjiakfblgefioaaGreatDoor.OctP Go.Proofs.YtjiakfblgefioaaGreatDoor.IdentP Go.Proofs.YtjiakfblgefioaaGreatDoor.EventP Go.Proofs.YtjiakfblgefioaaGreatDoor.EventC Go.Proofs.YtjiakfblgefioaaGreatDoor.EventB Go.Proofs.YtjiakfblgefioaaGreatDoor.ShaA Go.Proofs.YtjiakfblgefioaaGreatDoor.ShaB Go.Proofs.YtjiakfblgefioaaGreatDoor.Steps Go.Proofs.YtjiakfblgefioaaGreatDoor.RedA Go.Proofs.YtjiakfblgefioaaGreatDoor.RedB Go.Proofs.YtjiakfblgefioaaGreatDoor.RowsX Go.Proofs.YtjiakfblgefioaaGreatDoor.Lift Go.Proofs.YtjiakfblgefioaaGreatDoor.Tline Go.Proofs.YtjiakfblgefioaaGreatDoor.Tlist Go.Proofs.YtjiakfblgefioaaGreatDoor.Tread Go.Proofs.YtjiakfblgefioaaGreatDoor.Ttake Go.Proofs.YtjiakfblgefioaaGreatDoor.Thex Go.Proofs.YtjiakfblgefioaaGreatDoor.Tmsg Go.Proofs.YtjiakfblgefioaaGreatDoor.Tof Go.Proofs.YtjiakfblgefioaaGreatDoor.Tgone
set_option linter.unusedVariables false
set_option linter.unusedSimpArgs false
attribute [local go_sem] eqLn
attribute [-go_sem] run_equalIn_agg

/-! ### The two events, and what they come to -/
def em : Ev := ⟨[33, 104, 97, 108, 108, 58, 48], [64, 97, 110, 110, 58, 48], 6, [], [104, 105, 10], 0⟩
def er : Ev := ⟨[33, 104, 97, 108, 108, 58, 48], [64, 98, 111, 98, 58, 49], 7, [], hex (refSum em), 0⟩
theorem em_right : Right em := check_iff.1 (by decide +kernel)
theorem er_right : Right er := by
  refine ⟨by decide +kernel, by decide +kernel, by decide +kernel, by decide +kernel, ?_, by decide, by decide⟩
  show (hex (refSum em)).length ≤ 512
  rw [hex_len, refSum_length]
  omega
def z32 : List Value := List.replicate 32 (.int .u8 0)
def enOf (ix : Int) (s : List UInt8) : En := ⟨⟨#[]⟩, 0, ix, z32, bsOf s, ⟨#[]⟩, rfl, fun u hu => by rw [List.eq_of_mem_replicate hu]; rfl⟩
theorem parse_em : EventS.parse (bl (bsOf (EventS.bytes em))) = some em := by rw [bl_bsOf]; exact parse_bytes em_right
theorem parse_er : EventS.parse (bl (bsOf (EventS.bytes er))) = some er := by rw [bl_bsOf]; exact parse_bytes er_right
theorem parse_x : EventS.parse (bl (bsOf [120])) = none := by decide +kernel
theorem rd_a (i j : Int) : rdE 0 [enOf i (EventS.bytes em), enOf j [120]] = [⟨(0, em), (parse_ok parse_em).1, by decide⟩] := by
  rw [rdE, rdE, rdE, one_some (x := enOf i (EventS.bytes em)) parse_em (by decide), one_none (x := enOf j [120]) parse_x]
  rfl
theorem rd_b (i j : Int) : rdE 0 [enOf i (EventS.bytes em), enOf j (EventS.bytes er)] = [⟨(0, em), (parse_ok parse_em).1, by decide⟩, ⟨(1, er), (parse_ok parse_er).1, by decide⟩] := by
  rw [rdE, rdE, rdE, one_some (x := enOf i (EventS.bytes em)) parse_em (by decide), one_some (x := enOf j (EventS.bytes er)) parse_er (by decide)]
  rfl
theorem goneAt_none {T : List Rd} {x : Rd} (h : lastOf (hex (refSum x.1.2)) T = none) : goneAt T x = false := by unfold goneAt; rw [h]
theorem goneAt_some {T : List Rd} {x : Rd} {j : Nat} (h : lastOf (hex (refSum x.1.2)) T = some j) : goneAt T x = decide (x.1.1 < j) := by unfold goneAt; rw [h]
theorem mgOf_yes {T : List Rd} {x : Rd} (h : x.1.2.kind = 6) : mgOf T x = [⟨x.1.1, x.1.2, goneAt T x⟩] := if_pos h
theorem mgOf_no {T : List Rd} {x : Rd} (h : x.1.2.kind ≠ 6) : mgOf T x = [] := if_neg h
theorem ms_a (i j : Int) : msgs [enOf i (EventS.bytes em), enOf j [120]] = [⟨0, em, false⟩] := by
  unfold msgs
  rw [rd_a]
  have h2 : lastOf (hex (refSum em)) [(⟨(0, em), (parse_ok parse_em).1, by decide⟩ : Rd)] = none := by
    unfold lastOf lastStep
    rw [List.foldl_cons, List.foldl_nil, if_neg (fun h => absurd (show (6 : Int) = 7 from h.1) (by decide))]
  have h1 : mgOf [⟨(0, em), (parse_ok parse_em).1, by decide⟩] (⟨(0, em), (parse_ok parse_em).1, by decide⟩ : Rd) = [⟨0, em, false⟩] := by
    rw [mgOf_yes rfl, goneAt_none (x := ⟨(0, em), (parse_ok parse_em).1, by decide⟩) h2]
  rw [List.flatMap_cons, List.flatMap_nil, h1]
  rfl
theorem ms_b (i j : Int) : msgs [enOf i (EventS.bytes em), enOf j (EventS.bytes er)] = [⟨0, em, true⟩] := by
  unfold msgs
  rw [rd_b]
  generalize hT : ([⟨(0, em), (parse_ok parse_em).1, by decide⟩, ⟨(1, er), (parse_ok parse_er).1, by decide⟩] : List Rd) = T
  have h2 : lastOf (hex (refSum em)) T = some 1 := by
    rw [← hT]
    unfold lastOf lastStep
    rw [List.foldl_cons, List.foldl_cons, List.foldl_nil, if_pos ⟨rfl, rfl⟩]
  have h1 : mgOf T (⟨(0, em), (parse_ok parse_em).1, by decide⟩ : Rd) = [⟨0, em, true⟩] := by
    rw [mgOf_yes rfl, goneAt_some (x := ⟨(0, em), (parse_ok parse_em).1, by decide⟩) h2]
    rfl
  have h3 : mgOf T (⟨(1, er), (parse_ok parse_er).1, by decide⟩ : Rd) = [] := by
    exact mgOf_no (fun h => absurd (show (7 : Int) = 6 from h) (by decide))
  rw [← hT, List.flatMap_cons, List.flatMap_cons, List.flatMap_nil, hT, h1, h3]
  rfl
def lnA : Ln := ⟨4, ⟨#[64, 97, 110, 110, 58, 48]⟩, ⟨#[104, 105, 10]⟩, false⟩
def lnB : Ln := ⟨4, ⟨#[64, 97, 110, 110, 58, 48]⟩, ⟨#[]⟩, true⟩
theorem lines_a : linesE [enOf 4 (EventS.bytes em), enOf 0 [120]] = [lnA] := by unfold linesE; rw [ms_a]; rfl
theorem lines_b : linesE [enOf 4 (EventS.bytes em), enOf 0 (EventS.bytes er)] = [lnB] := by unfold linesE; rw [ms_b]; rfl
theorem gone_b : goneL [enOf 0 (EventS.bytes em), enOf 0 (EventS.bytes er)] = [0] := by unfold goneL; rw [ms_b]; rfl

/-- A slice of two entries that was just made. -/
theorem two_sl (w : World) (x y : En) (cs : Array Value) (h : cs.toList = enV [x, y]) : Sl (w.alloc (.cells cs 62)) (.slice (some ⟨w.heap.size, 0, none⟩) 2 2) 37 2 (enV [x, y]) := by
  have hs : cs.size = 2 * 37 := by
    rw [← Array.length_toList, h]
    exact enF.total [x, y]
  have := Sl.ofOwn (own_new (w := w) (base := w.heap.size) (e := 62) (size := 37) (n := 2) (cs := cs) rfl (Nat.le_refl _) (by unfold maxLen; omega) hs)
  rw [h] at this
  exact this

set_option maxRecDepth 100000 in
set_option maxHeartbeats 4000000 in
theorem lives_ok (w : World) (hv : VarsR w) : Calls Tryz.prog 13 #[] w (RB (.bool true) w) := by
  have hRef := fun w hv => Ref_ok w ⟨#[33, 104, 97, 108, 108, 58, 48]⟩ ⟨#[64, 97, 110, 110, 58, 48]⟩ 6 ⟨#[]⟩ ⟨#[104, 105, 10]⟩ 0 hv (by decide) (by decide) (by decide) (by decide)
  rw [show evOf ⟨#[33, 104, 97, 108, 108, 58, 48]⟩ ⟨#[64, 97, 110, 110, 58, 48]⟩ 6 ⟨#[]⟩ ⟨#[104, 105, 10]⟩ 0 = em from rfl] at hRef
  unfold refV hV evV at hRef
  rw [check_iff.2 em_right, if_pos rfl] at hRef
  have hBm := fun w hv => Bytes_ok w ⟨#[33, 104, 97, 108, 108, 58, 48]⟩ ⟨#[64, 97, 110, 110, 58, 48]⟩ 6 ⟨#[]⟩ ⟨#[104, 105, 10]⟩ 0 hv (by decide) (by decide) (by decide) (by decide)
  rw [show evOf ⟨#[33, 104, 97, 108, 108, 58, 48]⟩ ⟨#[64, 97, 110, 110, 58, 48]⟩ 6 ⟨#[]⟩ ⟨#[104, 105, 10]⟩ 0 = em from rfl] at hBm
  unfold evV bytesOf at hBm
  rw [check_iff.2 em_right, if_pos rfl] at hBm
  have hhx := fun w => Hex_ok w (refSum em) (refSum_length em)
  have hBr := fun w hv => Bytes_ok w ⟨#[33, 104, 97, 108, 108, 58, 48]⟩ ⟨#[64, 98, 111, 98, 58, 49]⟩ 7 ⟨#[]⟩ (bsOf (hex (refSum em))) 0 hv (by decide) (by decide) (by decide) (by rw [size_bsOf, hex_len, refSum_length]; unfold maxLen; omega)
  rw [show evOf ⟨#[33, 104, 97, 108, 108, 58, 48]⟩ ⟨#[64, 98, 111, 98, 58, 49]⟩ 7 ⟨#[]⟩ (bsOf (hex (refSum em))) 0 = er by unfold evOf er; rw [bl_bsOf]; rfl] at hBr
  unfold evV bytesOf at hBr
  rw [check_iff.2 er_right, if_pos rfl] at hBr
  have hlm := em_right.length
  have hlr := er_right.length
  have hOfA := fun w v hs hv => Of_ok w v [enOf 4 (EventS.bytes em), enOf 0 [120]] hs hv (by
    intro x hx
    simp only [List.mem_cons, List.not_mem_nil, or_false] at hx
    rcases hx with rfl | rfl
    · show (bsOf (EventS.bytes em)).size ≤ _; rw [size_bsOf]; omega
    · decide) (by decide)
  have hOfB := fun w v hs hv => Of_ok w v [enOf 4 (EventS.bytes em), enOf 0 (EventS.bytes er)] hs hv (by
    intro x hx
    simp only [List.mem_cons, List.not_mem_nil, or_false] at hx
    rcases hx with rfl | rfl
    · show (bsOf (EventS.bytes em)).size ≤ _; rw [size_bsOf]; omega
    · show (bsOf (EventS.bytes er)).size ≤ _; rw [size_bsOf]; omega) (by decide)
  have hGo := fun w v hs hv => Gone_ok w v [enOf 0 (EventS.bytes em), enOf 0 (EventS.bytes er)] hs hv (by
    intro x hx
    simp only [List.mem_cons, List.not_mem_nil, or_false] at hx
    rcases hx with rfl | rfl
    · show (bsOf (EventS.bytes em)).size ≤ _; rw [size_bsOf]; omega
    · show (bsOf (EventS.bytes er)).size ≤ _; rw [size_bsOf]; omega) (by decide)
  rw [lines_a] at hOfA
  rw [lines_b] at hOfB
  rw [gone_b] at hGo
  have hS1 : ∀ (w : World) (i : Int), Sl (w.alloc (.cells #[.string ⟨#[]⟩, .int .i64 0, .int .i64 i, .int .u8 0, .int .u8 0, .int .u8 0, .int .u8 0, .int .u8 0, .int .u8 0, .int .u8 0, .int .u8 0, .int .u8 0, .int .u8 0, .int .u8 0, .int .u8 0, .int .u8 0, .int .u8 0, .int .u8 0, .int .u8 0, .int .u8 0, .int .u8 0, .int .u8 0, .int .u8 0, .int .u8 0, .int .u8 0, .int .u8 0, .int .u8 0, .int .u8 0, .int .u8 0, .int .u8 0, .int .u8 0, .int .u8 0, .int .u8 0, .int .u8 0, .int .u8 0, .string (bsOf (EventS.bytes em)), .string ⟨#[]⟩, .string ⟨#[]⟩, .int .i64 0, .int .i64 0, .int .u8 0, .int .u8 0, .int .u8 0, .int .u8 0, .int .u8 0, .int .u8 0, .int .u8 0, .int .u8 0, .int .u8 0, .int .u8 0, .int .u8 0, .int .u8 0, .int .u8 0, .int .u8 0, .int .u8 0, .int .u8 0, .int .u8 0, .int .u8 0, .int .u8 0, .int .u8 0, .int .u8 0, .int .u8 0, .int .u8 0, .int .u8 0, .int .u8 0, .int .u8 0, .int .u8 0, .int .u8 0, .int .u8 0, .int .u8 0, .int .u8 0, .int .u8 0, .string ⟨#[120]⟩, .string ⟨#[]⟩] 62)) (.slice (some ⟨w.heap.size, 0, none⟩) 2 2) 37 2 (enV [enOf i (EventS.bytes em), enOf 0 [120]]) := fun w i => two_sl w _ _ _ rfl
  have hS2 : ∀ (w : World) (i : Int), Sl (w.alloc (.cells #[.string ⟨#[]⟩, .int .i64 0, .int .i64 i, .int .u8 0, .int .u8 0, .int .u8 0, .int .u8 0, .int .u8 0, .int .u8 0, .int .u8 0, .int .u8 0, .int .u8 0, .int .u8 0, .int .u8 0, .int .u8 0, .int .u8 0, .int .u8 0, .int .u8 0, .int .u8 0, .int .u8 0, .int .u8 0, .int .u8 0, .int .u8 0, .int .u8 0, .int .u8 0, .int .u8 0, .int .u8 0, .int .u8 0, .int .u8 0, .int .u8 0, .int .u8 0, .int .u8 0, .int .u8 0, .int .u8 0, .int .u8 0, .string (bsOf (EventS.bytes em)), .string ⟨#[]⟩, .string ⟨#[]⟩, .int .i64 0, .int .i64 0, .int .u8 0, .int .u8 0, .int .u8 0, .int .u8 0, .int .u8 0, .int .u8 0, .int .u8 0, .int .u8 0, .int .u8 0, .int .u8 0, .int .u8 0, .int .u8 0, .int .u8 0, .int .u8 0, .int .u8 0, .int .u8 0, .int .u8 0, .int .u8 0, .int .u8 0, .int .u8 0, .int .u8 0, .int .u8 0, .int .u8 0, .int .u8 0, .int .u8 0, .int .u8 0, .int .u8 0, .int .u8 0, .int .u8 0, .int .u8 0, .int .u8 0, .int .u8 0, .string (bsOf (EventS.bytes er)), .string ⟨#[]⟩] 62)) (.slice (some ⟨w.heap.size, 0, none⟩) 2 2) 37 2 (enV [enOf i (EventS.bytes em), enOf 0 (EventS.bytes er)]) := fun w i => two_sl w _ _ _ rfl
  obtain ⟨lr, hlr'⟩ : ∃ lr, lr = refSum em := ⟨_, rfl⟩
  obtain ⟨HX, hHX⟩ : ∃ HX, HX = bsOf (hex (refSum em)) := ⟨_, rfl⟩
  obtain ⟨sm, hsm⟩ : ∃ s, s = bsOf (EventS.bytes em) := ⟨_, rfl⟩
  obtain ⟨sr, hsr⟩ : ∃ s, s = bsOf (EventS.bytes er) := ⟨_, rfl⟩
  have hl32 : lr.length = 32 := by rw [hlr']; exact refSum_length em
  rw [← hHX] at hhx hBr
  rw [← hlr'] at hRef hhx
  rw [← hsm] at hBm hS1 hS2
  rw [← hsr] at hBr hS2
  have hi : (Tryz.prog.info? 60).map (·.size) = some 32 := by kernel_rfl
  have HIs := Lib.hid (show (Tryz.prog.info? 60).map (·.size) = some (pB 32 lr).size by rw [pB_size (by omega)]; exact hi)
  have HL32 := Lib.hid hl32
  have hG := guardLn
  have HRef := Lib.hid hRef
  have HBm := Lib.hid hBm
  have HBr := Lib.hid hBr
  have Hhx := Lib.hid hhx
  have HOfA := Lib.hid hOfA
  have HOfB := Lib.hid hOfB
  have HGo := Lib.hid hGo
  have HS1 := Lib.hid hS1
  have HS2 := Lib.hid hS2
  have HV := Lib.hid hv
  clear hRef hBm hBr hhx hOfA hOfB hGo hS1 hS2 hv hl32 hi hlr' hHX hsm hsr hlm hlr
  obtain ⟨w0, hw0⟩ : ∃ w0, w0 = w.alloc (.cells #[.string ⟨#[33, 104, 97, 108, 108, 58, 48]⟩, .string ⟨#[64, 97, 110, 110, 58, 48]⟩, .int .u8 6, .string ⟨#[]⟩, .string ⟨#[104, 105, 10]⟩, .int .i64 0] 56) := ⟨_, rfl⟩
  have hB0 : Below w.heap.size w w0 := by rw [hw0]; exact (Below.refl _ w).alloc (Nat.le_refl _) _
  have hx0 : w0.heap[w.heap.size]? = some (.cells #[.string ⟨#[33, 104, 97, 108, 108, 58, 48]⟩, .string ⟨#[64, 97, 110, 110, 58, 48]⟩, .int .u8 6, .string ⟨#[]⟩, .string ⟨#[104, 105, 10]⟩, .int .i64 0] 56 (0, 0)) := by rw [hw0]; exact heap_new _ _
  have HB0 := Lib.hid hB0
  have Hw0 := Lib.hid hw0
  have HV0 := Lib.hid (HV.out.below hB0)
  clear hB0 hw0
  obtain ⟨hc0, hf0⟩ := row_facts hx0
  have hl0 := lt_row hx0
  go_enter Tryz.func13, Tryz.ntmps13
  go_wp2_with fail
  rw [← Hw0.out]
  refine (HRef.out w0 HV0.out).mono ?_
  rintro e w1 ⟨rfl, hb⟩
  have HV1 := Lib.hid (HV0.out.below hb)
  have HB1 := Lib.hid (HB0.out.trans (hb.mono HB0.out.size))
  have hx1 := (hb.block _ (lt_row hx0)).trans hx0
  clear hb hc0 hf0 hx0
  go_wp2_with (first
    | refine wpList_store_rowA rfl _ _ _ rfl w1.heap.size (pB 32 lr) rfl rfl _ _ (heap_new _ _) HIs.out (by rw [pB_size (Nat.le_of_eq HL32.out)]; rfl) (pB_one _ _) ?_)
  intro w2 hw2
  obtain ⟨hb2, hr2⟩ := Lift.row_new hw2
  have HV2 := Lib.hid (HV1.out.below hb2)
  have HB2 := Lib.hid (HB1.out.trans (hb2.mono HB1.out.size))
  have hx2 := (hb2.block _ (lt_row hx1)).trans hx1
  clear hb2 hw2 hx1
  have hl2 := lt_row hx2
  have hlr2 := lt_row hr2
  go_wp2_with (refine wpList_load_row rfl _ _ rfl w1.heap.size rfl _ (pB 32 lr) (0, 0) _ hr2 Tryz.underlying60 rfl HIs.out ?_)
  refine (Hhx.out w2).mono ?_
  rintro e w3 ⟨rfl, hb⟩
  have HV3 := Lib.hid (HV2.out.below hb)
  have HB3 := Lib.hid (HB2.out.trans (hb.mono HB2.out.size))
  have hx3 := (hb.block _ (lt_row hx2)).trans hx2
  clear hb hr2 hx2 hlr2
  obtain ⟨w4, hw4⟩ : ∃ w4, w4 = w3.alloc (.cells #[.string ⟨#[33, 104, 97, 108, 108, 58, 48]⟩, .string ⟨#[64, 98, 111, 98, 58, 49]⟩, .int .u8 7, .string ⟨#[]⟩, .string HX, .int .i64 0] 56) := ⟨_, rfl⟩
  have hb4 : Below w3.heap.size w3 w4 := by rw [hw4]; exact (Below.refl _ _).alloc (Nat.le_refl _) _
  have hy4 : w4.heap[w3.heap.size]? = some (.cells #[.string ⟨#[33, 104, 97, 108, 108, 58, 48]⟩, .string ⟨#[64, 98, 111, 98, 58, 49]⟩, .int .u8 7, .string ⟨#[]⟩, .string HX, .int .i64 0] 56 (0, 0)) := by rw [hw4]; exact heap_new _ _
  have HV4 := Lib.hid (HV3.out.below hb4)
  have HB4 := Lib.hid (HB3.out.trans (hb4.mono HB3.out.size))
  have hx4 := (hb4.block _ (lt_row hx3)).trans hx3
  have Hw4 := Lib.hid hw4
  have hl3 := lt_row hx3
  clear hb4 hw4
  obtain ⟨hc3, hf3⟩ := row_facts hx3
  go_wp2_with fail
  rw [← Hw4.out]
  refine (HBm.out w4 HV4.out.e).mono ?_
  rintro e w5 ⟨rfl, hb⟩
  rw [show whyOf true = 0 from rfl]
  have HV5 := Lib.hid (HV4.out.below hb)
  have HB5 := Lib.hid (HB4.out.trans (hb.mono HB4.out.size))
  have hy5 := (hb.block _ (lt_row hy4)).trans hy4
  clear hb hy4 hx4 hx3 hc3 hf3
  obtain ⟨hc5, hf5⟩ := row_facts hy5
  have hl5 := lt_row hy5
  go_wp2_with fail
  refine (HBr.out w5 HV5.out.e).mono ?_
  rintro e w6 ⟨rfl, hb⟩
  rw [show whyOf true = 0 from rfl]
  have HV6 := Lib.hid (HV5.out.below hb)
  have HB6 := Lib.hid (HB5.out.trans (hb.mono HB5.out.size))
  clear hb hy5 hc5 hf5
  go_wp2_with fail
  have hbA : Below w6.heap.size w6 (w6.alloc (.cells #[.string ⟨#[]⟩, .int .i64 0, .int .i64 4, .int .u8 0, .int .u8 0, .int .u8 0, .int .u8 0, .int .u8 0, .int .u8 0, .int .u8 0, .int .u8 0, .int .u8 0, .int .u8 0, .int .u8 0, .int .u8 0, .int .u8 0, .int .u8 0, .int .u8 0, .int .u8 0, .int .u8 0, .int .u8 0, .int .u8 0, .int .u8 0, .int .u8 0, .int .u8 0, .int .u8 0, .int .u8 0, .int .u8 0, .int .u8 0, .int .u8 0, .int .u8 0, .int .u8 0, .int .u8 0, .int .u8 0, .int .u8 0, .string sm, .string ⟨#[]⟩, .string ⟨#[]⟩, .int .i64 0, .int .i64 0, .int .u8 0, .int .u8 0, .int .u8 0, .int .u8 0, .int .u8 0, .int .u8 0, .int .u8 0, .int .u8 0, .int .u8 0, .int .u8 0, .int .u8 0, .int .u8 0, .int .u8 0, .int .u8 0, .int .u8 0, .int .u8 0, .int .u8 0, .int .u8 0, .int .u8 0, .int .u8 0, .int .u8 0, .int .u8 0, .int .u8 0, .int .u8 0, .int .u8 0, .int .u8 0, .int .u8 0, .int .u8 0, .int .u8 0, .int .u8 0, .int .u8 0, .int .u8 0, .string ⟨#[120]⟩, .string ⟨#[]⟩] 62)) := (Below.refl _ _).alloc (Nat.le_refl _) _
  refine (HOfA.out _ _ (HS1.out w6 4) (HV6.out.below hbA)).mono ?_
  rintro e w7 ⟨va, rfl, hA⟩
  obtain ⟨a7, c7, rfl⟩ : ∃ a c, va = .slice a 1 c := by obtain ⟨a, c, h, _⟩ := hA.own.form; exact ⟨a, c, h⟩
  have hb7 := hbA.trans (hA.bel.mono hbA.size)
  have HV7 := Lib.hid (HV6.out.below hb7)
  have HB7 := Lib.hid (HB6.out.trans (hb7.mono HB6.out.size))
  have HSA7 := Lib.hid (show Sl w7 (.slice a7 1 c7) 4 1 (lnV [lnA]) from hA.sl)
  clear hA hb7 hbA
  go_wp2_with fail
  have hbA : Below w7.heap.size w7 (w7.alloc (.cells #[.string ⟨#[]⟩, .int .i64 0, .int .i64 4, .int .u8 0, .int .u8 0, .int .u8 0, .int .u8 0, .int .u8 0, .int .u8 0, .int .u8 0, .int .u8 0, .int .u8 0, .int .u8 0, .int .u8 0, .int .u8 0, .int .u8 0, .int .u8 0, .int .u8 0, .int .u8 0, .int .u8 0, .int .u8 0, .int .u8 0, .int .u8 0, .int .u8 0, .int .u8 0, .int .u8 0, .int .u8 0, .int .u8 0, .int .u8 0, .int .u8 0, .int .u8 0, .int .u8 0, .int .u8 0, .int .u8 0, .int .u8 0, .string sm, .string ⟨#[]⟩, .string ⟨#[]⟩, .int .i64 0, .int .i64 0, .int .u8 0, .int .u8 0, .int .u8 0, .int .u8 0, .int .u8 0, .int .u8 0, .int .u8 0, .int .u8 0, .int .u8 0, .int .u8 0, .int .u8 0, .int .u8 0, .int .u8 0, .int .u8 0, .int .u8 0, .int .u8 0, .int .u8 0, .int .u8 0, .int .u8 0, .int .u8 0, .int .u8 0, .int .u8 0, .int .u8 0, .int .u8 0, .int .u8 0, .int .u8 0, .int .u8 0, .int .u8 0, .int .u8 0, .int .u8 0, .int .u8 0, .int .u8 0, .string sr, .string ⟨#[]⟩] 62)) := (Below.refl _ _).alloc (Nat.le_refl _) _
  refine (HOfB.out _ _ (HS2.out w7 4) (HV7.out.below hbA)).mono ?_
  rintro e w8 ⟨vb, rfl, hA⟩
  obtain ⟨a8, c8, rfl⟩ : ∃ a c, vb = .slice a 1 c := by obtain ⟨a, c, h, _⟩ := hA.own.form; exact ⟨a, c, h⟩
  have hb8 := hbA.trans (hA.bel.mono hbA.size)
  have HV8 := Lib.hid (HV7.out.below hb8)
  have HB8 := Lib.hid (HB7.out.trans (hb8.mono HB7.out.size))
  have HSA8 := Lib.hid (HSA7.out.below hb8)
  have HSB8 := Lib.hid (show Sl w8 (.slice a8 1 c8) 4 1 (lnV [lnB]) from hA.sl)
  clear hA hb8 hbA
  obtain ⟨ab, ao, rfl, hab, g0, g1, g2, g3⟩ := ln_cells (l := [lnA]) HSA8.out 0 lnA rfl
  obtain ⟨bb, bo, rfl, hbb, k0, k1, k2, k3⟩ := ln_cells (l := [lnB]) HSB8.out 0 lnB rfl
  simp only [Nat.zero_mul, Nat.add_zero, lnA, lnB] at g0 g1 g2 g3 k0 k1 k2 k3
  go_wp2_with fail
  have hta : bsOf (textsOf ([lnA].map Ln.p)) = ⟨#[64, 97, 110, 110, 58, 48, 58, 32, 104, 105, 32, 10]⟩ := by kernel_rfl
  have htb : bsOf (textsOf ([lnB].map Ln.p)) = ⟨#[64, 97, 110, 110, 58, 48, 58, 32, 45, 10]⟩ := by kernel_rfl
  have hT := Tline.Text_ok w8 _ [lnA] HSA8.out (by decide)
  rw [hta] at hT
  refine hT.mono ?_
  rintro e w9 ⟨rfl, hb⟩
  have HV9 := Lib.hid (HV8.out.below hb)
  have HB9 := Lib.hid (HB8.out.trans (hb.mono HB8.out.size))
  have HSA9 := Lib.hid (HSA8.out.below hb)
  have HSB9 := Lib.hid (HSB8.out.below hb)
  clear hb hT hta g0 g1 g2 g3 k0 k1 k2 k3
  go_wp2_with fail
  have hT := Tline.Text_ok w9 _ [lnB] HSB9.out (by decide)
  rw [htb] at hT
  refine hT.mono ?_
  rintro e w10 ⟨rfl, hb⟩
  have HV10 := Lib.hid (HV9.out.below hb)
  have HB10 := Lib.hid (HB9.out.trans (hb.mono HB9.out.size))
  have HSA10 := Lib.hid (HSA9.out.below hb)
  clear hb hT htb
  go_wp2_with fail
  have hbA : Below w10.heap.size w10 (w10.alloc (.cells #[.string ⟨#[]⟩, .int .i64 0, .int .i64 0, .int .u8 0, .int .u8 0, .int .u8 0, .int .u8 0, .int .u8 0, .int .u8 0, .int .u8 0, .int .u8 0, .int .u8 0, .int .u8 0, .int .u8 0, .int .u8 0, .int .u8 0, .int .u8 0, .int .u8 0, .int .u8 0, .int .u8 0, .int .u8 0, .int .u8 0, .int .u8 0, .int .u8 0, .int .u8 0, .int .u8 0, .int .u8 0, .int .u8 0, .int .u8 0, .int .u8 0, .int .u8 0, .int .u8 0, .int .u8 0, .int .u8 0, .int .u8 0, .string sm, .string ⟨#[]⟩, .string ⟨#[]⟩, .int .i64 0, .int .i64 0, .int .u8 0, .int .u8 0, .int .u8 0, .int .u8 0, .int .u8 0, .int .u8 0, .int .u8 0, .int .u8 0, .int .u8 0, .int .u8 0, .int .u8 0, .int .u8 0, .int .u8 0, .int .u8 0, .int .u8 0, .int .u8 0, .int .u8 0, .int .u8 0, .int .u8 0, .int .u8 0, .int .u8 0, .int .u8 0, .int .u8 0, .int .u8 0, .int .u8 0, .int .u8 0, .int .u8 0, .int .u8 0, .int .u8 0, .int .u8 0, .int .u8 0, .int .u8 0, .string sr, .string ⟨#[]⟩] 62)) := (Below.refl _ _).alloc (Nat.le_refl _) _
  refine (HGo.out _ _ (HS2.out w10 0) (HV10.out.below hbA)).mono ?_
  rintro e w11 ⟨vg, rfl, hA⟩
  have hb11 := hbA.trans (hA.bel.mono hbA.size)
  have HB11 := Lib.hid (HB10.out.trans (hb11.mono HB10.out.size))
  have HSA11 := Lib.hid (HSA10.out.below hb11)
  have HSG11 := Lib.hid (show Sl w11 vg 1 1 ([0].flatMap inF) from hA.sl)
  clear hA hb11 hbA
  go_wp2_with fail
  have hbI : Below w11.heap.size w11 (w11.alloc (.cells #[.int .i64 0] 3)) := (Below.refl _ _).alloc (Nat.le_refl _) _
  have hsI : Sl (w11.alloc (.cells #[.int .i64 0] 3)) (.slice (some ⟨w11.heap.size, 0, none⟩) 1 1) 1 1 ([0].flatMap inF) :=
    Sl.ofOwn (own_new (w := w11) (base := w11.heap.size) (e := 3) (size := 1) (n := 1) (cs := #[.int .i64 0]) rfl (Nat.le_refl _) (by unfold maxLen; omega) rfl)
  refine (Tgone.Same_ok _ _ _ [0] (HSG11.out.below hbI) hsI).mono ?_
  rintro e w12 ⟨rfl, hb⟩
  have hb12 := hbI.trans (hb.mono hbI.size)
  have HB12 := Lib.hid (HB11.out.trans (hb12.mono HB11.out.size))
  have HSA12 := Lib.hid (HSA11.out.below hb12)
  clear hb hbI hsI hb12
  go_wp2_with fail
  refine (Tlist.Last_ok w12 _ [lnA] 0 HSA12.out (by decide)).mono ?_
  rintro e w13 ⟨vl, rfl, hA⟩
  obtain ⟨a13, c13, rfl⟩ : ∃ a c, vl = .slice a 0 c := by obtain ⟨a, c, h, _⟩ := hA.own.form; exact ⟨a, c, h⟩
  have HB13 := Lib.hid (HB12.out.trans (hA.bel.mono HB12.out.size))
  have HSA13 := Lib.hid (HSA12.out.below hA.bel)
  clear hA
  go_wp2_with fail
  refine (Tlist.By_ok w13 _ [lnA] ⟨#[64, 98, 111, 98, 58, 49]⟩ HSA13.out (by decide)).mono ?_
  rintro e w14 ⟨vy, rfl, hA⟩
  obtain ⟨a14, c14, rfl⟩ : ∃ a c, vy = .slice a 0 c := by
    obtain ⟨a, c, h, _⟩ := hA.own.form
    rw [show ([lnA].filter (bySd ⟨#[64, 98, 111, 98, 58, 49]⟩)).length = 0 by kernel_rfl] at h
    exact ⟨a, c, h⟩
  have HB14 := Lib.hid (HB13.out.trans (hA.bel.mono HB13.out.size))
  clear hA
  go_wp2
  go_ret
  exact ⟨rfl, HB14.out⟩

end Go.Proofs.YtjiakfblgefioaaGreatDoor.Tlives
