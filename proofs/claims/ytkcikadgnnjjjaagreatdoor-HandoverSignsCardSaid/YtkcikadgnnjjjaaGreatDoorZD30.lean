/-
  WHAT IS PROVED: what is signed of a deal, its bytes, its answer, which answers fit, a deal's signature, and how it is verified; and the document's own. Condition: what each theorem names.
-/
import Derived.Test.YtkcikadgnnjjjaaGreatDoorS0
import Derived.Test.YtkcikadgnnjjjaaGreatDoorZHD27
import Derived.Test.YtkcikadgnnjjjaaGreatDoorZD29
set_option linter.unusedVariables false
set_option linter.unusedSimpArgs false
set_option maxRecDepth 100000
set_option maxHeartbeats 4000000
namespace Go.Proofs.YtkcikadgnnjjjaaGreatDoor.DlT
open Go Go.RowKit Go.Shelf OctetS IdentS EntS OctP OctQ OctG IdentP EntP EventC ShaA Steps KeyA KeyS KeyK TreeA WireS WireT WireD DlV
attribute [local go_sem] idx_0 idx_1 idx_2 idx_3
theorem own_in {W : World} {b base : Nat} {cs : Array Value} {t : TypeId} {xs : List Value} (h : W.heap[b]? = some (.cells cs t (0, 0))) (hb : base ≤ b) (hx : cs.toList = xs) (hm : cs.size ≤ maxLen) : W.ownsRow base t 1 (.slice (some ⟨b, 0, none⟩) cs.size cs.size) cs.size xs := by
 refine ⟨by rw [← hx]; simp, .inr ⟨b, cs.size, cs, rfl, hb, h, Nat.le_refl _, hm, by simp, ?_⟩⟩
 rw [← hx]
 simp only [Nat.mul_one]
 exact List.take_of_length_le (by simp)
theorem dl_len {e : Dl} (h : DlS.Right e) : (DlS.text e).length ≤ 100000 := by
 obtain ⟨h1, h2⟩ := fits_iff.1 h.fits
 have h3 := EntX.flat_len _ h2
 have h4 : (DlS.parts e).length = 6 := rfl
 have h5 := OctetS.num_length2 (n := 6) (by omega)
 unfold DlS.text OctetS.list
 rw [List.length_append, h4]
 rw [h4] at h3
 omega
theorem dbytes_ok {e : Dl} : DlS.bytesW e = (if checkD e = true then (if (DlS.text e).length ≤ 8192 then (DlS.bytesE e, 0) else ([], 7)) else ([], 2)) := rfl
theorem eqDl (k1 a1 b1 c1 d1 k2 a2 b2 c2 d2 : Int) (r1 s1 r2 s2 : ByteArray) (w : World) : (Op.equalIn 10000 56 (.agg (dlA k1 r1 a1 b1 c1 d1 s1)) (.agg (dlA k2 r2 a2 b2 c2 d2 s2))).run Tryz.prog w =
 .ok (k1 == k2 && (r1.toList == r2.toList && (a1 == a2 && (b1 == b2 && (c1 == c2 && (d1 == d2 && s1.toList == s2.toList)))))) w := by
 have u3 : Tryz.prog.underlying 3 = some (.int .i64) := by kernel_rfl
 have u4 : Tryz.prog.underlying 54 = some (.int .u8) := by kernel_rfl
 have u9 : Tryz.prog.underlying 9 = some .string := by kernel_rfl
 have hS : Tryz.prog.underlying 56 = some (.struct (Tryz.prog.fieldsOf 56)) := by kernel_rfl
 have hF : (Tryz.prog.fieldsOf 56).toList = [⟨"Kind", 54, 0, false, "", "", 0⟩, ⟨"Room", 9, 1, false, "", "", 8⟩, ⟨"Epoch", 3, 2, false, "", "", 24⟩, ⟨"Index", 3, 3, false, "", "", 32⟩, ⟨"Hub", 3, 4, false, "", "", 40⟩, ⟨"Next", 3, 5, false, "", "", 48⟩, ⟨"Sig", 9, 6, false, "", "", 56⟩] := by kernel_rfl
 have hp : Tryz.prog.stoodInHeld 56 = false := by kernel_rfl
 unfold dlA
 rw [show (10000 : Nat) = 9999 + 1 from rfl, run_equalIn_agg w 9999 56 _ _ hS hp, hF]
 go_simp
 cases h1 : k1 == k2 <;> cases h2 : r1.toList == r2.toList <;> cases h3 : a1 == a2 <;> cases h4 : b1 == b2 <;> cases h5 : c1 == c2 <;> cases h6 : d1 == d2 <;> cases h7 : s1.toList == s2.toList <;> simp_all
theorem guardDl : Go.Program.eqGuardType Tryz.prog Tryz.prog.depth 56 = false := by kernel_rfl
theorem eq_self {p : Array Value} (k : Int) (r : ByteArray) (ep ix hub next : Int) (s : ByteArray) (hp : p = dlA k r ep ix hub next s) (w : World) : (Op.equalIn 10000 56 (.agg p) (.agg p)).run Tryz.prog w = .ok true w := by
 rw [hp, eqDl]
 simp
def ansA (k : Int) (r : ByteArray) (ep ix hub next : Int) (s : ByteArray) : Array Value := if checkD (dlOf k r ep ix hub next s) = true ∧ k = 1 then dlA 2 r ep ix hub next ⟨#[]⟩ else dlZ
def fitsB (k : Int) (r : ByteArray) (ep ix hub next : Int) (s : ByteArray) (k' : Int) (r' : ByteArray) (ep' ix' hub' next' : Int) (s' : ByteArray) : Bool := checkD (dlOf k r ep ix hub next s) && (decide (k = 1) && (checkD (dlOf k' r' ep' ix' hub' next' s') && (decide (k' = 2) && (r'.toList == r.toList && (ep' == ep && (ix' == ix && (hub' == hub && next' == next)))))))
theorem P_Text (w : World) (p : Array Value) (k : Int) (r : ByteArray) (ep ix hub next : Int) (s : ByteArray) (hp : p = dlA k r ep ix hub next s) (hv : VarsD w) (hk : 0 ≤ k) (hk2 : k ≤ 255) (hr : r.size ≤ 140737488351232) (hs : s.size ≤ maxLen) :
 Calls Tryz.prog 57 #[.agg p] w (RB (.tuple #[.string (bsOf (DlS.textOf (dlOf k r ep ix hub next s))), .int .i64 (whyOf (checkD (dlOf k r ep ix hub next s)))]) w) := by
 have hC := fun w (hv : VarsD w) => WireD.d_Check w p k r ep ix hub next s hp hv.i hk hr hs
 have P0 := lh (show p[0]? = some (.int .u8 k) by rw [hp]; rfl)
 have P1 := lh (show p[1]? = some (.string r) by rw [hp]; rfl)
 have P2 := lh (show p[2]? = some (.int .i64 ep) by rw [hp]; rfl)
 have P3 := lh (show p[3]? = some (.int .i64 ix) by rw [hp]; rfl)
 have P4 := lh (show p[4]? = some (.int .i64 hub) by rw [hp]; rfl)
 have P5 := lh (show p[5]? = some (.int .i64 next) by rw [hp]; rfl)
 have P6 := lh (show p[6]? = some (.string s) by rw [hp]; rfl)
 have HI : Hid ((Tryz.prog.info? 56).map (·.size) = some p.size) := lh (by rw [hp]; kernel_rfl)
 have HPN : Hid (p.size = 7) := lh (by rw [hp]; rfl)
 obtain ⟨w0, hw0⟩ := nXe (w.alloc (.cells p 56))
 have hb0 : Below w.heap.size w w0 := by rw [hw0]; exact ((Below.refl _ w).alloc (Nat.le_refl _) _)
 have HX0 := lh (show w0.heap[w.heap.size]? = some (.cells p 56 (0, 0)) by rw [hw0]; exact heap_new _ _)
 have HBL0 := lh hb0
 have HW0 := lh hw0
 have HV0 := lh (hv.below hb0)
 unfold DlS.textOf
 unfold maxLen at hs
 cases hchk : checkD (dlOf k r ep ix hub next s)
 ·skip
  rw [hchk] at hC
  have HC := lh hC
  clear hC hchk hr hs hp hb0 hv hw0
  go_enter Tryz.func57, Tryz.ntmps57
  go_wp2_with (first | (rw [← HW0.out]; refine wpList_load_row rfl _ _ rfl w.heap.size rfl _ p (0, 0) _ HX0.out Tryz.underlying56 rfl HI.out ?_) | fail)
  refine (HC.out w0 HV0.out).mono ?_
  rintro e' w1 ⟨rfl, hb⟩
  have HBL1 := tbB HBL0 hb
  have HX1 := kpB hb HX0
  have HV1 := lh (HV0.out.below hb)
  clear hb
  unfold whyOf
  go_wp2
  go_ret2
  exact ⟨rfl, HBL1.out⟩
 ·skip
  have hR := DlS.check_iff.1 hchk
  have h1 := hR.ep0
  have h2 := hR.ep1
  have h3 := hR.ix0
  have h4 := hR.ix1
  have h5 := hR.hub0
  have h6 := hR.hub1
  have h7 := hR.next0
  have h8 := hR.next1
  have hkd := hR.kind
  have hfit := hR.fits
  simp only [dlOf] at h1 h2 h3 h4 h5 h6 h7 h8 hkd
  obtain ⟨a, rfl⟩ : ∃ m : Nat, ep = m := ⟨ep.toNat, by omega⟩
  obtain ⟨b, rfl⟩ : ∃ m : Nat, ix = m := ⟨ix.toNat, by omega⟩
  obtain ⟨c, rfl⟩ : ∃ m : Nat, hub = m := ⟨hub.toNat, by omega⟩
  obtain ⟨d, rfl⟩ : ∃ m : Nat, next = m := ⟨next.toNat, by omega⟩
  have hparts : DlS.parts (dlOf k r a b c d s) = [bsOf (wordD k), r, bsOf (num a), bsOf (num b), bsOf (num c), bsOf (num d)].map bl := by
   simp [DlS.parts, dlOf, bl_bsOf]
  have hfin : DlS.text (dlOf k r a b c d s) = OctetS.list ([bsOf (wordD k), r, bsOf (num a), bsOf (num b), bsOf (num c), bsOf (num d)].map bl) := by
   unfold DlS.text
   rw [hparts]
  rw [if_pos rfl, hfin]
  rw [hparts] at hfit
  have hL := fun w v h => List_ok w v [bsOf (wordD k), r, bsOf (num a), bsOf (num b), bsOf (num c), bsOf (num d)] h hfit
  rw [hchk] at hC
  obtain ⟨out, hout⟩ := nXe (bsOf (OctetS.list ([bsOf (wordD k), r, bsOf (num a), bsOf (num b), bsOf (num c), bsOf (num d)].map bl)))
  obtain ⟨W, hW⟩ := nXe (bsOf (wordD k))
  obtain ⟨n0, hn0⟩ := nXe (bsOf (num a))
  have hN0 := fun w => Num_ok w a (by unfold maxNum; omega)
  rw [← hn0] at hN0
  have HN0 := lh hN0
  have HQ0 : Hid (IntKind.u64.wrap (a : Int) = a) := lh (by rw [IntKind.wrap_u64]; omega)
  obtain ⟨n1, hn1⟩ := nXe (bsOf (num b))
  have hN1 := fun w => Num_ok w b (by unfold maxNum; omega)
  rw [← hn1] at hN1
  have HN1 := lh hN1
  have HQ1 : Hid (IntKind.u64.wrap (b : Int) = b) := lh (by rw [IntKind.wrap_u64]; omega)
  obtain ⟨n2, hn2⟩ := nXe (bsOf (num c))
  have hN2 := fun w => Num_ok w c (by unfold maxNum; omega)
  rw [← hn2] at hN2
  have HN2 := lh hN2
  have HQ2 : Hid (IntKind.u64.wrap (c : Int) = c) := lh (by rw [IntKind.wrap_u64]; omega)
  obtain ⟨n3, hn3⟩ := nXe (bsOf (num d))
  have hN3 := fun w => Num_ok w d (by unfold maxNum; omega)
  rw [← hn3] at hN3
  have HN3 := lh hN3
  have HQ3 : Hid (IntKind.u64.wrap (d : Int) = d) := lh (by rw [IntKind.wrap_u64]; omega)
  rw [← hout]
  rw [← hout, ← hW, ← hn0, ← hn1, ← hn2, ← hn3] at hL
  have HC := lh hC
  have HL := lh hL
  have hWk : ∀ w, VarsD w → w.cell? ⟨0, k.toNat, none⟩ = some (.string W) := fun w hv => by
   rw [hW]
   rcases hkd with rfl | rfl
   ·exact hv.hw 1 (by omega)
   ·exact hv.hw 2 (by omega)
  have HWD := lh hWk
  clear hWk hC hL hn0 hn1 hn2 hn3 hN0 hN1 hN2 hN3 hout hfin hparts hfit hR hchk hW hr hs hp hb0 hv hw0
  rcases hkd with rfl | rfl
  all_goals
   go_enter Tryz.func57, Tryz.ntmps57
   go_wp2_with (first | (rw [← HW0.out]; refine wpList_load_row rfl _ _ rfl w.heap.size rfl _ p (0, 0) _ HX0.out Tryz.underlying56 rfl HI.out ?_) | fail)
   refine (HC.out w0 HV0.out).mono ?_
   rintro e' w1 ⟨rfl, hb⟩
   have HBL1 := tbB HBL0 hb
   have HX1 := kpB hb HX0
   have HV1 := lh (HV0.out.below hb)
   clear hb
   unfold whyOf
   have p0 := P0.out
   have p1 := P1.out
   have p2 := P2.out
   have p3 := P3.out
   have p4 := P4.out
   have p5 := P5.out
   go_wp2_with fail
   have hkc := HWD.out w1 HV1.out
   simp only [show (1 : Int).toNat = 1 from rfl, show (2 : Int).toNat = 2 from rfl] at hkc
   refine wp_region_noPanic ?_
   refine Wr.region_K (S := (fun W => W.heap[w.heap.size]? = some (.cells p 56 (0, 0)) ∧ VarsD W)) (K := []) (by kernel_rfl) ?_
   change Wr.wpAnyK _ _ _ _ _ _ _ _ _ (World.drew w1)
   have hBL0 : Below w1.heap.size w1 (World.drew w1) := Bl.drew (Below.refl _ _)
   have hS0 : (World.drew w1).heap[w.heap.size]? = some (.cells p 56 (0, 0)) ∧ VarsD (World.drew w1) := ⟨(hBL0.block _ (lt_row HX1.out)).trans HX1.out, HV1.out.below hBL0⟩
   refine Wr.tkK (i := 0) (v := ?_) rfl (.inl ⟨by rfl, ?_⟩) hS0 ?_
   rotate_left
   ·intro wq hSw
    obtain ⟨q0, q1⟩ := hSw
    obtain ⟨qc0, qf0⟩ := row_facts q0
    go_simp
    rfl
   simp only [Act.put, sxx]
   refine Wr.tkK (i := 1) (v := ?_) rfl (.inl ⟨by rfl, ?_⟩) hS0 ?_
   rotate_left
   ·intro wq hSw
    obtain ⟨q0, q1⟩ := hSw
    obtain ⟨qc0, qf0⟩ := row_facts q0
    go_simp
    rfl
   simp only [Act.put, sxx]
   refine Wr.tkK (i := 2) (v := ?_) rfl (.inl ⟨by rfl, ?_⟩) hS0 ?_
   rotate_left
   ·intro wq hSw
    obtain ⟨q0, q1⟩ := hSw
    obtain ⟨qc0, qf0⟩ := row_facts q0
    go_simp
    rfl
   simp only [Act.put, sxx]
   refine Wr.tkK (i := 3) (v := .string W) rfl (.inl ⟨by rfl, ?_⟩) hS0 ?_
   ·intro wq hSw
    obtain ⟨q0, q1⟩ := hSw
    obtain ⟨qc0, qf0⟩ := row_facts q0
    have hkq := HWD.out wq q1
    simp only [show (1 : Int).toNat = 1 from rfl, show (2 : Int).toNat = 2 from rfl] at hkq
    go_simp
   simp only [Act.put, sxx]
   refine Wr.tkK (i := 4) (v := ?_) rfl (.inl ⟨by rfl, ?_⟩) hS0 ?_
   rotate_left
   ·intro wq hSw
    obtain ⟨q0, q1⟩ := hSw
    obtain ⟨qc0, qf0⟩ := row_facts q0
    go_simp
    rfl
   simp only [Act.put, sxx]
   refine Wr.tkK (i := 5) (v := ?_) rfl (.inl ⟨by rfl, ?_⟩) hS0 ?_
   rotate_left
   ·intro wq hSw
    obtain ⟨q0, q1⟩ := hSw
    obtain ⟨qc0, qf0⟩ := row_facts q0
    go_simp
    rfl
   simp only [Act.put, sxx]
   refine Wr.wpAnyK_one (i := 6) (by kernel_rfl) ?_
   refine wpOp_run rfl (by rfl) (w' := (World.drew w1).alloc (.cells #[.string W, .string r] 9)) (v := .slice (some ⟨(World.drew w1).heap.size, 0, none⟩) 2 2) (by go_simp; first | done | rfl) ?_
   obtain ⟨u2, hw_u2⟩ := nXe ((World.drew w1).alloc (.cells #[.string W, .string r] 9))
   rw [← hw_u2]
   have hb_u2 : Below (World.drew w1).heap.size (World.drew w1) u2 := by rw [hw_u2]; exact bAx
   have hn_u2 : u2.heap[(World.drew w1).heap.size]? = some (.cells #[.string W, .string r] 9 (0, 0)) := by rw [hw_u2]; exact heap_new' _ rfl
   have hBL1 : Below w1.heap.size w1 u2 := hBL0.trans (hb_u2.mono hBL0.size)
   have hS1 : u2.heap[w.heap.size]? = some (.cells p 56 (0, 0)) ∧ VarsD u2 := ⟨(hBL1.block _ (lt_row HX1.out)).trans HX1.out, HV1.out.below hBL1⟩
   clear hw_u2
   refine ⟨hS1, ?_⟩
   simp only [Act.put, sxx]
   refine Wr.tkK (i := 7) (v := ?_) rfl (.inl ⟨by rfl, ?_⟩) hS1 ?_
   rotate_left
   ·intro wq hSw
    obtain ⟨q0, q1⟩ := hSw
    obtain ⟨qc0, qf0⟩ := row_facts q0
    go_simp
    rfl
   simp only [Act.put, sxx]
   refine Wr.wpAnyK_done (by kernel_rfl) (NoPanic.normal ?_) _
   have HO2 := lh (show u2.ownsRow w1.heap.size 9 1 (.slice (some ⟨w1.heap.size, 0, none⟩) 2 2) 2 (strV [W, r]) from own_in hn_u2 (Nat.le_refl _) rfl (show (2 : Nat) ≤ maxLen by unfold maxLen; omega))
   have HB2 : Hid (Below w.heap.size w u2) := tbB HBL1 hBL1
   have HX2 := lh hS1.1
   have HGE : Hid (w.heap.size ≤ w1.heap.size ∧ w1.heap.size < u2.heap.size) := lh ⟨by have := HBL1.out.size; exact this, lt_row hn_u2⟩
   clear hn_u2 hb_u2 hBL0 hS0 hS1 hBL1
   clear hkc
   rw [show (World.drew w1).heap.size = w1.heap.size from rfl]
   generalize w1.heap.size = B0 at HO2 HGE ⊢
   obtain ⟨cx2, fx2⟩ := row_facts HX2.out
   have lx2 := lt_row HX2.out
   have hge2 := HGE.out.2
   go_wp2_with fail
   clear cx2 fx2 p0 p1 p2 p3 p4 p5
   have hO := own_ext (S := fun _ => False) HO2.out ((Ext.refl (fun _ => False) u2).alloc (.cells #[.int .i64 (a : Int), .int .i64 (b : Int), .int .i64 (c : Int), .int .i64 (d : Int)] 123)) (fun _ _ h => h)
   have hB := HB2.out.alloc HB2.out.size (.cells #[.int .i64 (a : Int), .int .i64 (b : Int), .int .i64 (c : Int), .int .i64 (d : Int)] 123)
   have hA := heap_new u2 (.cells #[.int .i64 (a : Int), .int .i64 (b : Int), .int .i64 (c : Int), .int .i64 (d : Int)] 123)
   have hge3 : B0 < (u2.alloc (.cells #[.int .i64 (a : Int), .int .i64 (b : Int), .int .i64 (c : Int), .int .i64 (d : Int)] 123)).heap.size := by simp; omega
   generalize (u2.alloc (.cells #[.int .i64 (a : Int), .int .i64 (b : Int), .int .i64 (c : Int), .int .i64 (d : Int)] 123)) = y0 at hO hB hA hge3 ⊢
   clear hA
   have HO := lh hO
   have HB := lh hB
   clear hO hB
   refine wp_loop_rounds 5 ?_
   rw [rounds_succ]
   have hq := HQ0.out
   go_wp2_with fail
   refine (HN0.out _).mono ?_
   rintro e v0 ⟨rfl, hb⟩
   have HOa := lh (own_ext (S := fun _ => False) HO.out (Ext.of_below hb) (fun _ _ h => h))
   have HBa := tbB HB hb
   have hge4 : B0 < v0.heap.size := Nat.lt_of_lt_of_le hge3 hb.size
   clear hb hq hge3 HO HB
   go_wp2_with (at_builtin; go_must (refine wpList_app _ rfl _ _ _ _ rfl tyStrs B0 (.slice (some ⟨B0, 0, none⟩) 2 2) 2 (strV [W, r]) rfl ?own (.slice (some ⟨v0.heap.size, 0, none⟩) 1 1) 1 [.string n0] rfl ?src 3 rfl (strV [W, r, n0]) rfl ?h63 ?hby ?hba ?go))
   case own => exact own_ext (S := fun _ => False) HOa.out ((Ext.refl _ _).alloc _) (fun _ _ h => h)
   case src => exact Src.ofSlice _ Tryz.underlying96 _ _ _ _ rfl (by simpa using cell_one_new v0 (.string n0) 9) (by simp [Value.oneCell'])
   case h63 => unfold maxLen; omega
   case hby => omega
   case hba => simp; omega
   case go =>
        intro a1 c1 y1 hown hgrow hat
        have hge3 : B0 < y1.heap.size := by have := hgrow.size; simp at this; omega
        have HB := lh ((HBa.out.alloc HBa.out.size _).grown hgrow (by have := HBa.out.size; simp; omega) (fun k hk => by
         have hge := HGE.out.1
         rcases HOa.out.2 with ⟨h, _⟩ | ⟨g, cap, cur, h, hb, _⟩ <;> (rw [h] at hk; simp [Value.ownBlock] at hk <;> omega)))
        have HO := lh hown
        clear hown hgrow hat HOa HBa hge4
        go_wp2_with fail
        rw [rounds_succ]
        have hq := HQ1.out
        go_wp2_with fail
        refine (HN1.out _).mono ?_
        rintro e v1 ⟨rfl, hb⟩
        have HOa := lh (own_ext (S := fun _ => False) HO.out (Ext.of_below hb) (fun _ _ h => h))
        have HBa := tbB HB hb
        have hge4 : B0 < v1.heap.size := Nat.lt_of_lt_of_le hge3 hb.size
        clear hb hq hge3 HO HB
        go_wp2_with (at_builtin; go_must (refine wpList_app _ rfl _ _ _ _ rfl tyStrs B0 (.slice a1 3 c1) 3 (strV [W, r, n0]) rfl ?own (.slice (some ⟨v1.heap.size, 0, none⟩) 1 1) 1 [.string n1] rfl ?src 4 rfl (strV [W, r, n0, n1]) rfl ?h63 ?hby ?hba ?go))
        case own => exact own_ext (S := fun _ => False) HOa.out ((Ext.refl _ _).alloc _) (fun _ _ h => h)
        case src => exact Src.ofSlice _ Tryz.underlying96 _ _ _ _ rfl (by simpa using cell_one_new v1 (.string n1) 9) (by simp [Value.oneCell'])
        case h63 => unfold maxLen; omega
        case hby => omega
        case hba => simp; omega
        case go =>
         intro a2 c2 y2 hown hgrow hat
         have hge3 : B0 < y2.heap.size := by have := hgrow.size; simp at this; omega
         have HB := lh ((HBa.out.alloc HBa.out.size _).grown hgrow (by have := HBa.out.size; simp; omega) (fun k hk => by
          have hge := HGE.out.1
          rcases HOa.out.2 with ⟨h, _⟩ | ⟨g, cap, cur, h, hb, _⟩ <;> (rw [h] at hk; simp [Value.ownBlock] at hk <;> omega)))
         have HO := lh hown
         clear hown hgrow hat HOa HBa hge4
         go_wp2_with fail
         rw [rounds_succ]
         have hq := HQ2.out
         go_wp2_with fail
         refine (HN2.out _).mono ?_
         rintro e v2 ⟨rfl, hb⟩
         have HOa := lh (own_ext (S := fun _ => False) HO.out (Ext.of_below hb) (fun _ _ h => h))
         have HBa := tbB HB hb
         have hge4 : B0 < v2.heap.size := Nat.lt_of_lt_of_le hge3 hb.size
         clear hb hq hge3 HO HB
         go_wp2_with (at_builtin; go_must (refine wpList_app _ rfl _ _ _ _ rfl tyStrs B0 (.slice a2 4 c2) 4 (strV [W, r, n0, n1]) rfl ?own (.slice (some ⟨v2.heap.size, 0, none⟩) 1 1) 1 [.string n2] rfl ?src 5 rfl (strV [W, r, n0, n1, n2]) rfl ?h63 ?hby ?hba ?go))
         case own => exact own_ext (S := fun _ => False) HOa.out ((Ext.refl _ _).alloc _) (fun _ _ h => h)
         case src => exact Src.ofSlice _ Tryz.underlying96 _ _ _ _ rfl (by simpa using cell_one_new v2 (.string n2) 9) (by simp [Value.oneCell'])
         case h63 => unfold maxLen; omega
         case hby => omega
         case hba => simp; omega
         case go =>
          intro a3 c3 y3 hown hgrow hat
          have hge3 : B0 < y3.heap.size := by have := hgrow.size; simp at this; omega
          have HB := lh ((HBa.out.alloc HBa.out.size _).grown hgrow (by have := HBa.out.size; simp; omega) (fun k hk => by
           have hge := HGE.out.1
           rcases HOa.out.2 with ⟨h, _⟩ | ⟨g, cap, cur, h, hb, _⟩ <;> (rw [h] at hk; simp [Value.ownBlock] at hk <;> omega)))
          have HO := lh hown
          clear hown hgrow hat HOa HBa hge4
          go_wp2_with fail
          rw [rounds_succ]
          have hq := HQ3.out
          go_wp2_with fail
          refine (HN3.out _).mono ?_
          rintro e v3 ⟨rfl, hb⟩
          have HOa := lh (own_ext (S := fun _ => False) HO.out (Ext.of_below hb) (fun _ _ h => h))
          have HBa := tbB HB hb
          have hge4 : B0 < v3.heap.size := Nat.lt_of_lt_of_le hge3 hb.size
          clear hb hq hge3 HO HB
          go_wp2_with (at_builtin; go_must (refine wpList_app _ rfl _ _ _ _ rfl tyStrs B0 (.slice a3 5 c3) 5 (strV [W, r, n0, n1, n2]) rfl ?own (.slice (some ⟨v3.heap.size, 0, none⟩) 1 1) 1 [.string n3] rfl ?src 6 rfl (strV [W, r, n0, n1, n2, n3]) rfl ?h63 ?hby ?hba ?go))
          case own => exact own_ext (S := fun _ => False) HOa.out ((Ext.refl _ _).alloc _) (fun _ _ h => h)
          case src => exact Src.ofSlice _ Tryz.underlying96 _ _ _ _ rfl (by simpa using cell_one_new v3 (.string n3) 9) (by simp [Value.oneCell'])
          case h63 => unfold maxLen; omega
          case hby => omega
          case hba => simp; omega
          case go =>
           intro a4 c4 y4 hown hgrow hat
           have hge3 : B0 < y4.heap.size := by have := hgrow.size; simp at this; omega
           have HB := lh ((HBa.out.alloc HBa.out.size _).grown hgrow (by have := HBa.out.size; simp; omega) (fun k hk => by
                have hge := HGE.out.1
                rcases HOa.out.2 with ⟨h, _⟩ | ⟨g, cap, cur, h, hb, _⟩ <;> (rw [h] at hk; simp [Value.ownBlock] at hk <;> omega)))
           have HO := lh hown
           clear hown hgrow hat HOa HBa hge4
           go_wp2_with fail
           rw [rounds_succ]
           go_wp2_with fail
           refine (HL.out _ _ (Sl.ofOwn HO.out)).mono ?_
           rintro e z ⟨rfl, hb⟩
           have HZ := tbB HB hb
           clear hb
           go_wp2
           go_ret2
           exact ⟨rfl, HZ.out⟩
theorem R_Text (w : World) (p : Array Value) (k : Int) (r : ByteArray) (ep ix hub next : Int) (s : ByteArray) (hp : p = dlA k r ep ix hub next s) (hv : VarsD w) (hk : 0 ≤ k) (hk2 : k ≤ 255) (hr : r.size ≤ 140737488351232) (hs : s.size ≤ maxLen) :
 Calls Tryz.prog 59 #[.agg p] w (RB (.tuple #[.string (bsOf (DlS.textOf (dlOf k r ep ix hub next s))), .int .i64 (whyOf (checkD (dlOf k r ep ix hub next s)))]) w) := by
 have hC := fun w (hv : VarsD w) => WireG.r_Check w p k r ep ix hub next s hp hk hk2 hr hs
 have P0 := lh (show p[0]? = some (.int .u8 k) by rw [hp]; rfl)
 have P1 := lh (show p[1]? = some (.string r) by rw [hp]; rfl)
 have P2 := lh (show p[2]? = some (.int .i64 ep) by rw [hp]; rfl)
 have P3 := lh (show p[3]? = some (.int .i64 ix) by rw [hp]; rfl)
 have P4 := lh (show p[4]? = some (.int .i64 hub) by rw [hp]; rfl)
 have P5 := lh (show p[5]? = some (.int .i64 next) by rw [hp]; rfl)
 have P6 := lh (show p[6]? = some (.string s) by rw [hp]; rfl)
 have HI : Hid ((Tryz.prog.info? 56).map (·.size) = some p.size) := lh (by rw [hp]; kernel_rfl)
 have HPN : Hid (p.size = 7) := lh (by rw [hp]; rfl)
 obtain ⟨w0, hw0⟩ := nXe (w.alloc (.cells p 56))
 have hb0 : Below w.heap.size w w0 := by rw [hw0]; exact ((Below.refl _ w).alloc (Nat.le_refl _) _)
 have HX0 := lh (show w0.heap[w.heap.size]? = some (.cells p 56 (0, 0)) by rw [hw0]; exact heap_new _ _)
 have HBL0 := lh hb0
 have HW0 := lh hw0
 have HV0 := lh (hv.below hb0)
 unfold DlS.textOf
 unfold maxLen at hs
 cases hchk : checkD (dlOf k r ep ix hub next s)
 ·skip
  rw [hchk] at hC
  have HC := lh hC
  clear hC hchk hr hs hp hb0 hv hw0
  go_enter Tryz.func59, Tryz.ntmps59
  go_wp2_with (first | (rw [← HW0.out]; refine wpList_load_row rfl _ _ rfl w.heap.size rfl _ p (0, 0) _ HX0.out Tryz.underlying56 rfl HI.out ?_) | fail)
  refine (HC.out w0 HV0.out).mono ?_
  rintro e' w1 ⟨rfl, hb⟩
  have HBL1 := tbB HBL0 hb
  have HX1 := kpB hb HX0
  have HV1 := lh (HV0.out.below hb)
  clear hb
  unfold whyOf
  go_wp2
  go_ret2
  exact ⟨rfl, HBL1.out⟩
 ·skip
  have hR := DlS.check_iff.1 hchk
  have h1 := hR.ep0
  have h2 := hR.ep1
  have h3 := hR.ix0
  have h4 := hR.ix1
  have h5 := hR.hub0
  have h6 := hR.hub1
  have h7 := hR.next0
  have h8 := hR.next1
  have hkd := hR.kind
  have hfit := hR.fits
  simp only [dlOf] at h1 h2 h3 h4 h5 h6 h7 h8 hkd
  obtain ⟨a, rfl⟩ : ∃ m : Nat, ep = m := ⟨ep.toNat, by omega⟩
  obtain ⟨b, rfl⟩ : ∃ m : Nat, ix = m := ⟨ix.toNat, by omega⟩
  obtain ⟨c, rfl⟩ : ∃ m : Nat, hub = m := ⟨hub.toNat, by omega⟩
  obtain ⟨d, rfl⟩ : ∃ m : Nat, next = m := ⟨next.toNat, by omega⟩
  have hparts : DlS.parts (dlOf k r a b c d s) = [bsOf (wordD k), r, bsOf (num a), bsOf (num b), bsOf (num c), bsOf (num d)].map bl := by
   simp [DlS.parts, dlOf, bl_bsOf]
  have hfin : DlS.text (dlOf k r a b c d s) = OctetS.list ([bsOf (wordD k), r, bsOf (num a), bsOf (num b), bsOf (num c), bsOf (num d)].map bl) := by
   unfold DlS.text
   rw [hparts]
  rw [if_pos rfl, hfin]
  rw [hparts] at hfit
  have hL := fun w v h => Ref1L.List_ok w v [bsOf (wordD k), r, bsOf (num a), bsOf (num b), bsOf (num c), bsOf (num d)] h hfit
  rw [hchk] at hC
  obtain ⟨out, hout⟩ := nXe (bsOf (OctetS.list ([bsOf (wordD k), r, bsOf (num a), bsOf (num b), bsOf (num c), bsOf (num d)].map bl)))
  obtain ⟨W, hW⟩ := nXe (bsOf (wordD k))
  obtain ⟨n0, hn0⟩ := nXe (bsOf (num a))
  have hN0 := fun w => Ref1N.Num_ok w a (by unfold maxNum; omega)
  rw [← hn0] at hN0
  have HN0 := lh hN0
  have HQ0 : Hid (IntKind.u64.wrap (a : Int) = a) := lh (by rw [IntKind.wrap_u64]; omega)
  obtain ⟨n1, hn1⟩ := nXe (bsOf (num b))
  have hN1 := fun w => Ref1N.Num_ok w b (by unfold maxNum; omega)
  rw [← hn1] at hN1
  have HN1 := lh hN1
  have HQ1 : Hid (IntKind.u64.wrap (b : Int) = b) := lh (by rw [IntKind.wrap_u64]; omega)
  obtain ⟨n2, hn2⟩ := nXe (bsOf (num c))
  have hN2 := fun w => Ref1N.Num_ok w c (by unfold maxNum; omega)
  rw [← hn2] at hN2
  have HN2 := lh hN2
  have HQ2 : Hid (IntKind.u64.wrap (c : Int) = c) := lh (by rw [IntKind.wrap_u64]; omega)
  obtain ⟨n3, hn3⟩ := nXe (bsOf (num d))
  have hN3 := fun w => Ref1N.Num_ok w d (by unfold maxNum; omega)
  rw [← hn3] at hN3
  have HN3 := lh hN3
  have HQ3 : Hid (IntKind.u64.wrap (d : Int) = d) := lh (by rw [IntKind.wrap_u64]; omega)
  rw [← hout]
  rw [← hout, ← hW, ← hn0, ← hn1, ← hn2, ← hn3] at hL
  have HC := lh hC
  have HL := lh hL
  have hWd := fun w => WireG.word_ok w k hk hk2
  rw [← hW] at hWd
  have HWD := lh hWd
  clear hWd hC hL hn0 hn1 hn2 hn3 hN0 hN1 hN2 hN3 hout hfin hparts hfit hR hchk hW hr hs hp hb0 hv hw0
  go_enter Tryz.func59, Tryz.ntmps59
  go_wp2_with (first | (rw [← HW0.out]; refine wpList_load_row rfl _ _ rfl w.heap.size rfl _ p (0, 0) _ HX0.out Tryz.underlying56 rfl HI.out ?_) | fail)
  refine (HC.out w0 HV0.out).mono ?_
  rintro e' w1 ⟨rfl, hb⟩
  have HBL1 := tbB HBL0 hb
  have HX1 := kpB hb HX0
  have HV1 := lh (HV0.out.below hb)
  clear hb
  unfold whyOf
  have p0 := P0.out
  have p1 := P1.out
  have p2 := P2.out
  have p3 := P3.out
  have p4 := P4.out
  have p5 := P5.out
  go_wp2_with fail
  refine wp_region_noPanic ?_
  refine Wr.region_K (S := (fun W => W.heap[w.heap.size]? = some (.cells p 56 (0, 0)))) (K := []) (by kernel_rfl) ?_
  change Wr.wpAnyK _ _ _ _ _ _ _ _ _ (World.drew w1)
  have hBL0 : Below w1.heap.size w1 (World.drew w1) := Bl.drew (Below.refl _ _)
  have hS0 : (World.drew w1).heap[w.heap.size]? = some (.cells p 56 (0, 0)) := (hBL0.block _ (lt_row HX1.out)).trans HX1.out
  refine Wr.tkK (i := 0) (v := ?_) rfl (.inl ⟨by rfl, ?_⟩) hS0 ?_
  rotate_left
  ·intro wq hSw
   have q0 := hSw
   obtain ⟨qc0, qf0⟩ := row_facts q0
   go_simp
   rfl
  simp only [Act.put, sxx]
  refine Wr.tkK (i := 1) (v := ?_) rfl (.inl ⟨by rfl, ?_⟩) hS0 ?_
  rotate_left
  ·intro wq hSw
   have q0 := hSw
   obtain ⟨qc0, qf0⟩ := row_facts q0
   go_simp
   rfl
  simp only [Act.put, sxx]
  refine Wr.tkK (i := 3) (v := ?_) rfl (.inl ⟨by rfl, ?_⟩) hS0 ?_
  rotate_left
  ·intro wq hSw
   have q0 := hSw
   obtain ⟨qc0, qf0⟩ := row_facts q0
   go_simp
   rfl
  simp only [Act.put, sxx]
  refine Wr.tkK (i := 4) (v := ?_) rfl (.inl ⟨by rfl, ?_⟩) hS0 ?_
  rotate_left
  ·intro wq hSw
   have q0 := hSw
   obtain ⟨qc0, qf0⟩ := row_facts q0
   go_simp
   rfl
  simp only [Act.put, sxx]
  refine Wr.wpAnyK_one (i := 2) (by kernel_rfl) ?_
  refine wpOp_call rfl (by rfl) (by go_simp; all_goals (and_intros <;> rfl)) ?_
  refine (HWD.out (World.drew w1)).mono ?_
  rintro e u1 ⟨rfl, hb_u1⟩
  have hBL1 : Below w1.heap.size w1 u1 := hBL0.trans (hb_u1.mono hBL0.size)
  have hS1 : u1.heap[w.heap.size]? = some (.cells p 56 (0, 0)) := (hBL1.block _ (lt_row HX1.out)).trans HX1.out
  refine ⟨_, rfl, ?_, ?_⟩
  ·exact hS1
  simp only [Act.put, sxx]
  refine Wr.wpAnyK_one (i := 5) (by kernel_rfl) ?_
  refine wpOp_run rfl (by rfl) (w' := u1.alloc (.cells #[.string W, .string r] 9)) (v := .slice (some ⟨u1.heap.size, 0, none⟩) 2 2) (by go_simp; first | done | rfl) ?_
  obtain ⟨u2, hw_u2⟩ := nXe (u1.alloc (.cells #[.string W, .string r] 9))
  rw [← hw_u2]
  have hb_u2 : Below u1.heap.size u1 u2 := by rw [hw_u2]; exact bAx
  have hn_u2 : u2.heap[u1.heap.size]? = some (.cells #[.string W, .string r] 9 (0, 0)) := by rw [hw_u2]; exact heap_new' _ rfl
  have hBL2 : Below w1.heap.size w1 u2 := hBL1.trans (hb_u2.mono hBL1.size)
  have hS2 : u2.heap[w.heap.size]? = some (.cells p 56 (0, 0)) := (hBL2.block _ (lt_row HX1.out)).trans HX1.out
  clear hw_u2
  refine ⟨hS2, ?_⟩
  simp only [Act.put, sxx]
  refine Wr.tkK (i := 6) (v := ?_) rfl (.inl ⟨by rfl, ?_⟩) hS2 ?_
  rotate_left
  ·intro wq hSw
   have q0 := hSw
   obtain ⟨qc0, qf0⟩ := row_facts q0
   go_simp
   rfl
  simp only [Act.put, sxx]
  refine Wr.wpAnyK_done (by kernel_rfl) (NoPanic.normal ?_) _
  have HO2 := lh (show u2.ownsRow u1.heap.size 9 1 (.slice (some ⟨u1.heap.size, 0, none⟩) 2 2) 2 (strV [W, r]) from own_in hn_u2 (Nat.le_refl _) rfl (show (2 : Nat) ≤ maxLen by unfold maxLen; omega))
  have HB2 : Hid (Below w.heap.size w u2) := tbB HBL1 hBL2
  have HX2 := lh (hS2)
  have HGE : Hid (w.heap.size ≤ u1.heap.size ∧ u1.heap.size < u2.heap.size) := lh ⟨by have := HBL1.out.size; have := hBL1.size; omega, lt_row hn_u2⟩
  clear hn_u2 hb_u2 hb_u1 hBL0 hS0 hS1 hBL1 hS2 hBL2
  generalize u1.heap.size = B0 at HO2 HGE ⊢
  obtain ⟨cx2, fx2⟩ := row_facts HX2.out
  have lx2 := lt_row HX2.out
  have hge2 := HGE.out.2
  go_wp2_with fail
  clear cx2 fx2 p0 p1 p2 p3 p4 p5
  have hO := own_ext (S := fun _ => False) HO2.out ((Ext.refl (fun _ => False) u2).alloc (.cells #[.int .i64 (a : Int), .int .i64 (b : Int), .int .i64 (c : Int), .int .i64 (d : Int)] 3)) (fun _ _ h => h)
  have hB := HB2.out.alloc HB2.out.size (.cells #[.int .i64 (a : Int), .int .i64 (b : Int), .int .i64 (c : Int), .int .i64 (d : Int)] 3)
  have hA := heap_new u2 (.cells #[.int .i64 (a : Int), .int .i64 (b : Int), .int .i64 (c : Int), .int .i64 (d : Int)] 3)
  have hge3 : B0 < (u2.alloc (.cells #[.int .i64 (a : Int), .int .i64 (b : Int), .int .i64 (c : Int), .int .i64 (d : Int)] 3)).heap.size := by simp; omega
  generalize (u2.alloc (.cells #[.int .i64 (a : Int), .int .i64 (b : Int), .int .i64 (c : Int), .int .i64 (d : Int)] 3)) = y0 at hO hB hA hge3 ⊢
  generalize u2.heap.size = BA at hA ⊢
  have HO := lh hO
  have HB := lh hB
  clear hO hB
  have HAR := lh hA
  clear hA
  refine wp_loop_rounds 5 ?_
  rw [rounds_succ]
  have hq := HQ0.out
  obtain ⟨cA, fA⟩ := row_facts HAR.out
  have cA0 := cA 0
  simp only [List.getElem?_toArray, List.getElem?_cons_zero, List.getElem?_cons_succ] at cA0
  clear cA fA
  have lA := lt_row HAR.out
  go_wp2_with fail
  refine (HN0.out _).mono ?_
  rintro e v0 ⟨rfl, hb⟩
  clear cA0 lA
  have HOa := lh (own_ext (S := fun _ => False) HO.out (Ext.of_below hb) (fun _ _ h => h))
  have HBa := tbB HB hb
  have hge4 : B0 < v0.heap.size := Nat.lt_of_lt_of_le hge3 hb.size
  have HARa := kpB hb HAR
  clear HAR
  clear hb hq hge3 HO HB
  go_wp2_with (at_builtin; go_must (refine wpList_app _ rfl _ _ _ _ rfl tyStrs B0 (.slice (some ⟨B0, 0, none⟩) 2 2) 2 (strV [W, r]) rfl ?own (.slice (some ⟨v0.heap.size, 0, none⟩) 1 1) 1 [.string n0] rfl ?src 3 rfl (strV [W, r, n0]) rfl ?h63 ?hby ?hba ?go))
  case own => exact own_ext (S := fun _ => False) HOa.out ((Ext.refl _ _).alloc _) (fun _ _ h => h)
  case src => exact Src.ofSlice _ Tryz.underlying96 _ _ _ _ rfl (by simpa using cell_one_new v0 (.string n0) 9) (by simp [Value.oneCell'])
  case h63 => unfold maxLen; omega
  case hby => omega
  case hba => simp; omega
  case go =>
   intro a1 c1 y1 hown hgrow hat
   have hge3 : B0 < y1.heap.size := by have := hgrow.size; simp at this; omega
   have HB := lh ((HBa.out.alloc HBa.out.size _).grown hgrow (by have := HBa.out.size; simp; omega) (fun k hk => by
        have hge := HGE.out.1
        rcases HOa.out.2 with ⟨h, _⟩ | ⟨g, cap, cur, h, hb, _⟩ <;> (rw [h] at hk; simp [Value.ownBlock] at hk <;> omega)))
   have HAR := lh (heap_gr hgrow (heap_at HARa.out _) (row_ne HARa.out (by decide) HOa.out).symm)
   clear HARa
   have HO := lh hown
   clear hown hgrow hat HOa HBa hge4
   go_wp2_with fail
   rw [rounds_succ]
   have hq := HQ1.out
   obtain ⟨cA, fA⟩ := row_facts HAR.out
   have cA1 := cA 1
   simp only [List.getElem?_toArray, List.getElem?_cons_zero, List.getElem?_cons_succ] at cA1
   clear cA fA
   have lA := lt_row HAR.out
   go_wp2_with fail
   refine (HN1.out _).mono ?_
   rintro e v1 ⟨rfl, hb⟩
   clear cA1 lA
   have HOa := lh (own_ext (S := fun _ => False) HO.out (Ext.of_below hb) (fun _ _ h => h))
   have HBa := tbB HB hb
   have hge4 : B0 < v1.heap.size := Nat.lt_of_lt_of_le hge3 hb.size
   have HARa := kpB hb HAR
   clear HAR
   clear hb hq hge3 HO HB
   go_wp2_with (at_builtin; go_must (refine wpList_app _ rfl _ _ _ _ rfl tyStrs B0 (.slice a1 3 c1) 3 (strV [W, r, n0]) rfl ?own (.slice (some ⟨v1.heap.size, 0, none⟩) 1 1) 1 [.string n1] rfl ?src 4 rfl (strV [W, r, n0, n1]) rfl ?h63 ?hby ?hba ?go))
   case own => exact own_ext (S := fun _ => False) HOa.out ((Ext.refl _ _).alloc _) (fun _ _ h => h)
   case src => exact Src.ofSlice _ Tryz.underlying96 _ _ _ _ rfl (by simpa using cell_one_new v1 (.string n1) 9) (by simp [Value.oneCell'])
   case h63 => unfold maxLen; omega
   case hby => omega
   case hba => simp; omega
   case go =>
        intro a2 c2 y2 hown hgrow hat
        have hge3 : B0 < y2.heap.size := by have := hgrow.size; simp at this; omega
        have HB := lh ((HBa.out.alloc HBa.out.size _).grown hgrow (by have := HBa.out.size; simp; omega) (fun k hk => by
         have hge := HGE.out.1
         rcases HOa.out.2 with ⟨h, _⟩ | ⟨g, cap, cur, h, hb, _⟩ <;> (rw [h] at hk; simp [Value.ownBlock] at hk <;> omega)))
        have HAR := lh (heap_gr hgrow (heap_at HARa.out _) (row_ne HARa.out (by decide) HOa.out).symm)
        clear HARa
        have HO := lh hown
        clear hown hgrow hat HOa HBa hge4
        go_wp2_with fail
        rw [rounds_succ]
        have hq := HQ2.out
        obtain ⟨cA, fA⟩ := row_facts HAR.out
        have cA2 := cA 2
        simp only [List.getElem?_toArray, List.getElem?_cons_zero, List.getElem?_cons_succ] at cA2
        clear cA fA
        have lA := lt_row HAR.out
        go_wp2_with fail
        refine (HN2.out _).mono ?_
        rintro e v2 ⟨rfl, hb⟩
        clear cA2 lA
        have HOa := lh (own_ext (S := fun _ => False) HO.out (Ext.of_below hb) (fun _ _ h => h))
        have HBa := tbB HB hb
        have hge4 : B0 < v2.heap.size := Nat.lt_of_lt_of_le hge3 hb.size
        have HARa := kpB hb HAR
        clear HAR
        clear hb hq hge3 HO HB
        go_wp2_with (at_builtin; go_must (refine wpList_app _ rfl _ _ _ _ rfl tyStrs B0 (.slice a2 4 c2) 4 (strV [W, r, n0, n1]) rfl ?own (.slice (some ⟨v2.heap.size, 0, none⟩) 1 1) 1 [.string n2] rfl ?src 5 rfl (strV [W, r, n0, n1, n2]) rfl ?h63 ?hby ?hba ?go))
        case own => exact own_ext (S := fun _ => False) HOa.out ((Ext.refl _ _).alloc _) (fun _ _ h => h)
        case src => exact Src.ofSlice _ Tryz.underlying96 _ _ _ _ rfl (by simpa using cell_one_new v2 (.string n2) 9) (by simp [Value.oneCell'])
        case h63 => unfold maxLen; omega
        case hby => omega
        case hba => simp; omega
        case go =>
         intro a3 c3 y3 hown hgrow hat
         have hge3 : B0 < y3.heap.size := by have := hgrow.size; simp at this; omega
         have HB := lh ((HBa.out.alloc HBa.out.size _).grown hgrow (by have := HBa.out.size; simp; omega) (fun k hk => by
          have hge := HGE.out.1
          rcases HOa.out.2 with ⟨h, _⟩ | ⟨g, cap, cur, h, hb, _⟩ <;> (rw [h] at hk; simp [Value.ownBlock] at hk <;> omega)))
         have HAR := lh (heap_gr hgrow (heap_at HARa.out _) (row_ne HARa.out (by decide) HOa.out).symm)
         clear HARa
         have HO := lh hown
         clear hown hgrow hat HOa HBa hge4
         go_wp2_with fail
         rw [rounds_succ]
         have hq := HQ3.out
         obtain ⟨cA, fA⟩ := row_facts HAR.out
         have cA3 := cA 3
         simp only [List.getElem?_toArray, List.getElem?_cons_zero, List.getElem?_cons_succ] at cA3
         clear cA fA
         have lA := lt_row HAR.out
         go_wp2_with fail
         refine (HN3.out _).mono ?_
         rintro e v3 ⟨rfl, hb⟩
         clear cA3 lA
         have HOa := lh (own_ext (S := fun _ => False) HO.out (Ext.of_below hb) (fun _ _ h => h))
         have HBa := tbB HB hb
         have hge4 : B0 < v3.heap.size := Nat.lt_of_lt_of_le hge3 hb.size
         have HARa := kpB hb HAR
         clear HAR
         clear hb hq hge3 HO HB
         go_wp2_with (at_builtin; go_must (refine wpList_app _ rfl _ _ _ _ rfl tyStrs B0 (.slice a3 5 c3) 5 (strV [W, r, n0, n1, n2]) rfl ?own (.slice (some ⟨v3.heap.size, 0, none⟩) 1 1) 1 [.string n3] rfl ?src 6 rfl (strV [W, r, n0, n1, n2, n3]) rfl ?h63 ?hby ?hba ?go))
         case own => exact own_ext (S := fun _ => False) HOa.out ((Ext.refl _ _).alloc _) (fun _ _ h => h)
         case src => exact Src.ofSlice _ Tryz.underlying96 _ _ _ _ rfl (by simpa using cell_one_new v3 (.string n3) 9) (by simp [Value.oneCell'])
         case h63 => unfold maxLen; omega
         case hby => omega
         case hba => simp; omega
         case go =>
          intro a4 c4 y4 hown hgrow hat
          have hge3 : B0 < y4.heap.size := by have := hgrow.size; simp at this; omega
          have HB := lh ((HBa.out.alloc HBa.out.size _).grown hgrow (by have := HBa.out.size; simp; omega) (fun k hk => by
           have hge := HGE.out.1
           rcases HOa.out.2 with ⟨h, _⟩ | ⟨g, cap, cur, h, hb, _⟩ <;> (rw [h] at hk; simp [Value.ownBlock] at hk <;> omega)))
          have HAR := lh (heap_gr hgrow (heap_at HARa.out _) (row_ne HARa.out (by decide) HOa.out).symm)
          clear HARa
          have HO := lh hown
          clear hown hgrow hat HOa HBa hge4
          go_wp2_with fail
          clear HAR
          rw [rounds_succ]
          go_wp2_with fail
          refine (HL.out _ _ (Sl.ofOwn HO.out)).mono ?_
          rintro e z ⟨rfl, hb⟩
          have HZ := tbB HB hb
          clear hb
          go_wp2
          go_ret2
          exact ⟨rfl, HZ.out⟩
theorem P_Bytes (w : World) (p : Array Value) (k : Int) (r : ByteArray) (ep ix hub next : Int) (s : ByteArray) (hp : p = dlA k r ep ix hub next s) (hv : VarsD w) (hk0 : 0 ≤ k) (hk2 : k ≤ 255) (hr : r.size ≤ 140737488351232) (hs : s.size ≤ maxLen) :
 Calls Tryz.prog 53 #[.agg p] w (KeyA.RB (.tuple #[.string (bsOf (DlS.bytesW (dlOf k r ep ix hub next s)).1), .int .i64 (DlS.bytesW (dlOf k r ep ix hub next s)).2]) w) := by
 have hT := fun w hv => P_Text w p k r ep ix hub next s hp hv hk0 hk2 hr hs
 unfold DlS.textOf at hT
 rw [dbytes_ok]
 have hps : p.size = 7 := by rw [hp]; rfl
 have hpi : (Tryz.prog.info? 56).map (·.size) = some 7 := by kernel_rfl
 rw [← hps] at hpi
 have HI := lh hpi
 have p6 : p[6]? = some (.string s) := by rw [hp]; rfl
 obtain ⟨w0, hw0⟩ := nXe (w.alloc (.cells p 56))
 have hb0 : Below w.heap.size w w0 := by rw [hw0]; exact (Below.refl _ w).alloc (Nat.le_refl _) _
 have HX0 := lh (show w0.heap[w.heap.size]? = some (.cells p 56 (0, 0)) by rw [hw0]; exact heap_new _ _)
 have HBL0 := lh hb0
 have HW0 := lh hw0
 have HV0 := lh (hv.below hb0)
 cases hchk : checkD (dlOf k r ep ix hub next s)
 ·skip
  rw [hchk] at hT
  rw [if_neg (by simp)]
  have HT := lh hT
  clear hT hchk hr hs hp hb0 hv hw0 hpi hps p6
  go_enter Tryz.func53, Tryz.ntmps53
  go_wp2_with (first | (rw [← HW0.out]; refine wpList_load_row rfl _ _ rfl w.heap.size rfl _ p (0, 0) _ HX0.out Tryz.underlying56 rfl HI.out ?_) | fail)
  refine (HT.out w0 HV0.out).mono ?_
  rintro e' w1 ⟨rfl, hb⟩
  have HBL1 := tbB HBL0 hb
  clear hb
  unfold whyOf
  go_wp2
  go_ret2
  exact ⟨rfl, HBL1.out⟩
 ·skip
  rw [hchk] at hT
  rw [if_pos rfl] at hT ⊢
  have hR := DlS.check_iff.1 hchk
  have hlen := dl_len hR
  have hsig := hR.sig
  have hbf : (DlS.text (dlOf k r ep ix hub next s)).length ≤ 8192 → fits [DlS.text (dlOf k r ep ix hub next s), bl s] = true := fun h => DlS.bytes_fits hR h
  have hbe : DlS.bytesE (dlOf k r ep ix hub next s) = OctetS.list [DlS.text (dlOf k r ep ix hub next s), bl s] := rfl
  rw [hbe]
  obtain ⟨t, ht⟩ := nXe (DlS.text (dlOf k r ep ix hub next s))
  rw [← ht] at hT hlen hbf ⊢
  obtain ⟨Tb, hTb⟩ := nXe (bsOf t)
  have hTl : bl Tb = t := by rw [hTb, bl_bsOf]
  have hTs : Tb.size = t.length := by rw [hTb, size_bsOf]
  rw [← hTb] at hT
  have hL : ∀ w v, Rd w v [Tb, s] → Calls Tryz.prog 60 #[v] w (KeyA.RB (.tuple #[.string (bsOf (if t.length ≤ 8192 then (OctetS.list [t, bl s], (0 : Int)) else ([], 7)).1), .int .i64 (if t.length ≤ 8192 then (OctetS.list [t, bl s], (0 : Int)) else ([], 7)).2]) w) := fun w v hrd => by
   by_cases h8 : t.length ≤ 8192
   ·rw [if_pos h8]
    have := List_ok w v [Tb, s] hrd (by simp only [List.map_cons, List.map_nil, hTl]; exact hbf h8)
    simp only [List.map_cons, List.map_nil, hTl] at this
    exact this
   ·rw [if_neg h8]
    exact EntY.List_long w v Tb [s] hrd (by simp) (by omega) (by omega)
  obtain ⟨O, hO⟩ := nXe (bsOf (if t.length ≤ 8192 then (OctetS.list [t, bl s], (0 : Int)) else ([], 7)).1)
  obtain ⟨E, hE⟩ := nXe ((if t.length ≤ 8192 then (OctetS.list [t, bl s], (0 : Int)) else ([], 7)).2)
  rw [← hO, ← hE] at hL ⊢
  have HT := lh hT
  have HL := lh hL
  clear hL hO hE hT hTb hTl hTs ht hbf hbe hlen hsig hR hchk hr hs hp hb0 hv hw0 hpi hps
  go_enter Tryz.func53, Tryz.ntmps53
  go_wp2_with (first | (rw [← HW0.out]; refine wpList_load_row rfl _ _ rfl w.heap.size rfl _ p (0, 0) _ HX0.out Tryz.underlying56 rfl HI.out ?_) | fail)
  refine (HT.out w0 HV0.out).mono ?_
  rintro e' w1 ⟨rfl, hb⟩
  have HBL1 := tbB HBL0 hb
  have HX1 := kpB hb HX0
  clear hb
  have hc6 : w1.cell? ⟨w.heap.size, 6, none⟩ = some (.string s) := by rw [cell_row HX1.out]; exact p6
  unfold whyOf
  go_wp2_with fail
  refine (HL.out _ _ (EventB.sl_built (n := 2) (heap_new _ _) rfl (by simp [maxLen]))).mono ?_
  rintro e' w2 ⟨rfl, hb⟩
  have HBL2 := lh (HBL1.out.trans ((((Below.refl _ w1).alloc (Nat.le_refl _) _).trans (hb.mono (by simp))).mono HBL1.out.size))
  clear hb
  go_wp2
  go_ret2
  exact ⟨rfl, HBL2.out⟩
theorem says_ok (w : World) (p : Array Value) (k : Int) (r : ByteArray) (ep ix hub next : Int) (s : ByteArray) (hp : p = dlA k r ep ix hub next s) : Calls Tryz.prog 58 #[.agg p] w (KeyA.RB (.int .i64 (if k = 1 then hub else next)) w) := by
 have p0 : p[0]? = some (.int .u8 k) := by rw [hp]; rfl
 have p4 : p[4]? = some (.int .i64 hub) := by rw [hp]; rfl
 have p5 : p[5]? = some (.int .i64 next) := by rw [hp]; rfl
 obtain ⟨w0, hw0⟩ := nXe (w.alloc (.cells p 56))
 have hb0 : Below w.heap.size w w0 := by rw [hw0]; exact (Below.refl _ w).alloc (Nat.le_refl _) _
 have hx0 : w0.heap[w.heap.size]? = some (.cells p 56 (0, 0)) := by rw [hw0]; exact heap_new _ _
 have c0 : w0.cell? ⟨w.heap.size, 0, none⟩ = some (.int .u8 k) := by rw [cell_row hx0]; exact p0
 have c4 : w0.cell? ⟨w.heap.size, 4, none⟩ = some (.int .i64 hub) := by rw [cell_row hx0]; exact p4
 have c5 : w0.cell? ⟨w.heap.size, 5, none⟩ = some (.int .i64 next) := by rw [cell_row hx0]; exact p5
 have HBL0 := lh hb0
 have HW0 := lh hw0
 clear hx0 hb0 hw0 p0 p4 p5 hp
 obtain ⟨y, hy⟩ := nXe ((if k = 1 then hub else next))
 rw [← hy]
 have hcase : (k = 1 ∧ y = hub) ∨ ((k == 1) = false ∧ y = next) := by
  by_cases h : k = 1
  ·exact .inl ⟨h, by rw [hy, if_pos h]⟩
  ·exact .inr ⟨by simpa using h, by rw [hy, if_neg h]⟩
 clear hy
 rcases hcase with ⟨rfl, rfl⟩ | ⟨h, rfl⟩
 all_goals
  go_enter Tryz.func58, Tryz.ntmps58
  go_wp2_with (first | (rw [← HW0.out]; skip) | fail)
  go_ret
  exact ⟨rfl, HBL0.out⟩
theorem P_Sign (w : World) (R : Nat) (sd : ByteArray) (h nx : Nat) (v : Value) (x : H32) (hsd : sd.size ≤ 64) (hh : h ≤ 7) (hn : nx < 2 ^ h) (hr0 : w.heap[R]? = some (.cells (ringA sd h nx v x) 75 (0, 0)))
 (hv0 : Sl w v 32 (2 ^ h) ((leavesH (bl sd) (2 ^ h)).flatMap H32.cs)) (hvb : ∀ k, v.ownBlock = some k → k < w.heap.size) (hk : VarsH w)
 (p : Array Value) (k : Int) (r : ByteArray) (ep ix hub next : Int) (s : ByteArray) (hp : p = dlA k r ep ix hub next s) (hv : VarsD w) (hk0 : 0 ≤ k) (hk2 : k ≤ 255) (hr : r.size ≤ 140737488351232) (hs : s.size ≤ maxLen) (hchk : checkD (dlOf k r ep ix hub next s) = true) :
 Calls Tryz.prog 23 #[.pointer (some ⟨R, 0, none⟩), .agg p] w fun e' w' => e' = .returned (.tuple #[.agg (dlA k r ep ix hub next (bsOf (sigOf (bl sd) h nx (DlS.text (dlOf k r ep ix hub next s))))), .int .i64 0]) ∧
  w'.heap[R]? = some (.cells (ringA sd h (nx + 1 : Nat) v x) 75 (0, 0)) ∧ Ext (fun k => k = R) w w' := by
 have hT := fun w hv => P_Text w p k r ep ix hub next s hp hv hk0 hk2 hr hs
 unfold DlS.textOf at hT
 rw [hchk] at hT
 rw [if_pos rfl] at hT
 have hR := DlS.check_iff.1 hchk
 have hlen := dl_len hR
 have hps : p.size = 7 := by rw [hp]; rfl
 have H35 := lh (show p[6]? = some (.string s) by rw [hp]; rfl)
 have hpi : (Tryz.prog.info? 56).map (·.size) = some 7 := by kernel_rfl
 obtain ⟨Tb, hT2⟩ := nXe (bsOf (DlS.text (dlOf k r ep ix hub next s)))
 have hTs : Tb.size ≤ 140737488355328 := by rw [hT2, size_bsOf]; omega
 have hTb : bl Tb = DlS.text (dlOf k r ep ix hub next s) := by rw [hT2, bl_bsOf]
 rw [← hT2] at hT
 rw [← hTb]
 have hS := fun w' (hb : Below w.heap.size w w') => KeyM.Sign_ok w' R sd Tb h nx v x hsd hTs hh hn ((hb.block _ (lt_row hr0)).trans hr0) (hv0.below hb) (hk.below hb)
 obtain ⟨G, hG⟩ := nXe (bsOf (sigOf (bl sd) h nx (bl Tb)))
 rw [← hG] at hS ⊢
 obtain ⟨E, hE⟩ := nXe (dlA k r ep ix hub next G)
 have hEn : E.size = 7 := by rw [hE]; rfl
 have hset : p.setIfInBounds 6 (.string G) = E := by rw [hp, hE]; rfl
 have HES : Hid ((Tryz.prog.info? 56).map (·.size) = some E.size) := lh (by rw [hEn]; exact hpi)
 have HEN : Hid (7 = E.size) := lh hEn.symm
 have HEO : Hid (E.all (·.oneCell') = true) := lh (by rw [hE]; simp [dlA, Value.oneCell'])
 rw [← hE]
 obtain ⟨Z, hZ⟩ : ∃ Z : Array Value, Z = #[.int .u8 0, .string ⟨#[]⟩, .int .i64 0, .int .i64 0, .int .i64 0, .int .i64 0, .string ⟨#[]⟩] := ⟨_, rfl⟩
 have HLIT : Hid ((#[.int .u8 0, .string ⟨#[]⟩, .int .i64 0, .int .i64 0, .int .i64 0, .int .i64 0, .string ⟨#[]⟩] : Array Value) = Z) := lh hZ.symm
 have HZN : Hid (Z.size = 7) := lh (by rw [hZ]; rfl)
 have hlR := lt_row hr0
 obtain ⟨w0, hw0⟩ := nXe ((w.alloc (.cells p 56)).alloc (.cells Z 56))
 have hb0 : Below w.heap.size w w0 := by rw [hw0]; exact ((Below.refl _ w).alloc (Nat.le_refl _) _).alloc (by simp) _
 have HX0 := lh (show w0.heap[w.heap.size]? = some (.cells p 56 (0, 0)) by rw [hw0]; exact heap_at (heap_new _ _) _)
 have HZ0 := lh (show w0.heap[w.heap.size + 1]? = some (.cells Z 56 (0, 0)) by rw [hw0]; exact heap_new' _ (by simp))
 have HBL0 := lh hb0
 have HW0 := lh hw0
 have HV0 := lh (hv.below hb0)
 have HT := lh hT
 have HS := lh hS
 have HI := lh (show (Tryz.prog.info? 56).map (·.size) = some p.size by rw [hps]; exact hpi)
 have Hset := lh hset
 clear hT hS hT2 hchk hR hr hs hp hb0 hv hw0 hpi hps hG hE hEn hset hTb hTs hlen hv0 hr0 hk hvb hZ
 go_enter Tryz.func23, Tryz.ntmps23
 go_wp2_with (first | (rw [HLIT.out, ← HW0.out]; refine wpList_load_row rfl _ _ rfl w.heap.size rfl _ p (0, 0) _ HX0.out Tryz.underlying56 rfl HI.out ?_) | fail)
 refine (HT.out w0 HV0.out).mono ?_
 rintro e' w1 ⟨rfl, hb⟩
 have HBL1 := tbB HBL0 hb
 have HX1 := kpB hb HX0
 have HZ1 := kpB hb HZ0
 clear hb
 unfold whyOf
 go_wp2_with fail
 refine (HS.out w1 HBL1.out).mono ?_
 rintro e' w2 ⟨rfl, hr2, hE2⟩
 have hx2 := hE2.blockOf HX1.out (fun h => by omega)
 have HX2 := lh hx2
 have HZ2 := lh (hE2.blockOf HZ1.out (fun h => by omega))
 have HR2 := lh hr2
 have HE2 := lh ((Ext.of_below (S := fun k => k = R) HBL1.out).trans hE2)
 have c35 : w2.cell? ⟨w.heap.size, 6, none⟩ = some (.string s) := by rw [cell_row hx2]; exact H35.out
 have f35 : w2.frozen? ⟨w.heap.size, 6, none⟩ = false := frozen_row hx2
 have HX3 : Hid ((w2.setCell ⟨w.heap.size, 6, none⟩ (.string G)).heap[w.heap.size]? = some (.cells E 56 (0, 0))) := lh (by rw [← Hset.out]; exact heap_setCell_same hx2 _)
 have HZ3 : Hid ((w2.setCell ⟨w.heap.size, 6, none⟩ (.string G)).heap[w.heap.size + 1]? = some (.cells Z 56 (0, 0))) := lh ((heap_setCell_far _ (by omega)).trans HZ2.out)
 have HR3 : Hid ((w2.setCell ⟨w.heap.size, 6, none⟩ (.string G)).heap[R]? = some (.cells (ringA sd h (nx + 1 : Nat) v x) 75 (0, 0))) := lh ((heap_setCell_far _ (by omega)).trans HR2.out)
 have HE3 : Hid (Ext (fun k => k = R) w (w2.setCell ⟨w.heap.size, 6, none⟩ (.string G))) := lh (HE2.out.setCell (p := ⟨w.heap.size, 6, none⟩) (.inr (Nat.le_refl _)) _)
 clear hr2 hE2 hx2
 go_wp2_with (first | (refine wpList_load_row rfl _ _ rfl w.heap.size rfl _ E (0, 0) _ HX3.out Tryz.underlying56 rfl HES.out ?_) | (refine wpList_store_rowA rfl _ _ _ rfl (w.heap.size + 1) E rfl rfl _ _ HZ3.out HES.out (by rw [HZN.out]; exact HEN.out) HEO.out ?_) | fail)
 intro wf hwf
 go_wp2
 refine bodyPost_ret (v := .tuple #[.agg E, .int .i64 0]) (WireT.results_cell_slot rfl _ _ (w.heap.size + 1) 56 E (0, 0) _ rfl (by rw [hwf.out]; exact setRow_at HZ3.out) Tryz.underlying56 rfl HES.out rfl) rfl ⟨rfl, ?_, ?_⟩
 ·rw [hwf.out, setRow_far _ (by omega)]
  exact HR3.out
 ·rw [hwf.out]
  exact HE3.out.grown (row := some (w.heap.size + 1)) (EntW.grownBy_setRow _ _ _) (fun k hk => by cases hk; exact .inr (by omega))
theorem P_Verify (w : World) (p : Array Value) (k : Int) (r : ByteArray) (ep ix hub next : Int) (s : ByteArray) (hp : p = dlA k r ep ix hub next s) (hv : VarsD w) (hk0 : 0 ≤ k) (hk2 : k ≤ 255) (hr : r.size ≤ 140737488351232) (hs : s.size ≤ maxLen) (hchk : checkD (dlOf k r ep ix hub next s) = true)
 (v : Value) (res : Int) (hB : ∀ w', Below w.heap.size w w' → Calls Tryz.prog 33 #[v, .int .i64 (if k = 1 then hub else next), .int .i64 ix, .string (bsOf (DlS.text (dlOf k r ep ix hub next s))), .string s] w' (KeyA.RB (.int .i64 res) w')) :
 Calls Tryz.prog 21 #[v, .agg p] w (KeyA.RB (.int .i64 res) w) := by
 have hT := fun w hv => P_Text w p k r ep ix hub next s hp hv hk0 hk2 hr hs
 unfold DlS.textOf at hT
 rw [hchk] at hT
 rw [if_pos rfl] at hT
 have hR := DlS.check_iff.1 hchk
 have hi0 : 0 ≤ ix := hR.ix0
 have hi1 : ix ≤ 4096 := hR.ix1
 have hps : p.size = 7 := by rw [hp]; rfl
 have hpi : (Tryz.prog.info? 56).map (·.size) = some 7 := by kernel_rfl
 rw [← hps] at hpi
 have HI := lh hpi
 have p3 : p[3]? = some (.int .i64 ix) := by rw [hp]; rfl
 have hSy := fun w => says_ok w p k r ep ix hub next s hp
 obtain ⟨sv, hsv⟩ := nXe ((if k = 1 then hub else next))
 rw [← hsv] at hSy hB
 have HSY := lh hSy
 have p6 : p[6]? = some (.string s) := by rw [hp]; rfl
 have hwr : IntKind.i64.wrap ix = ix := by rw [IntKind.wrap_i64]; omega
 obtain ⟨T, hT2⟩ := nXe (bsOf (DlS.text (dlOf k r ep ix hub next s)))
 rw [← hT2] at hT hB
 obtain ⟨w0, hw0⟩ := nXe (w.alloc (.cells p 56))
 have hb0 : Below w.heap.size w w0 := by rw [hw0]; exact (Below.refl _ w).alloc (Nat.le_refl _) _
 have HX0 := lh (show w0.heap[w.heap.size]? = some (.cells p 56 (0, 0)) by rw [hw0]; exact heap_new _ _)
 have HBL0 := lh hb0
 have HW0 := lh hw0
 have HV0 := lh (hv.below hb0)
 have HT := lh hT
 have HB := lh hB
 clear hSy hsv hT hB hT2 hchk hR hr hs hp hb0 hv hw0 hpi hps
 go_enter Tryz.func21, Tryz.ntmps21
 go_wp2_with (first | (rw [← HW0.out]; refine wpList_load_row rfl _ _ rfl w.heap.size rfl _ p (0, 0) _ HX0.out Tryz.underlying56 rfl HI.out ?_) | fail)
 refine (HT.out w0 HV0.out).mono ?_
 rintro e' w1 ⟨rfl, hb⟩
 have HBL1 := tbB HBL0 hb
 have HX1 := kpB hb HX0
 clear hb
 unfold whyOf
 go_wp2_with fail
 refine wp_region_noPanic ?_
 refine Wr.region_K (S := (fun W => W.heap[w.heap.size]? = some (.cells p 56 (0, 0)))) (K := []) (by kernel_rfl) ?_
 change Wr.wpAnyK _ _ _ _ _ _ _ _ _ (World.drew w1)
 have hBL0 : Below w1.heap.size w1 (World.drew w1) := Bl.drew (Below.refl _ _)
 have hS0 : (World.drew w1).heap[w.heap.size]? = some (.cells p 56 (0, 0)) := (hBL0.block _ (lt_row HX1.out)).trans HX1.out
 refine Wr.tkK (i := 0) (v := ?_) rfl (.inl ⟨by rfl, ?_⟩) hS0 ?_
 rotate_left
 ·intro wq hSw
  have q0 := hSw
  obtain ⟨qc0, qf0⟩ := row_facts q0
  go_simp
  rfl
 simp only [Act.put, sxx]
 refine Wr.tkK (i := 1) (v := .agg p) rfl (.inl ⟨by rfl, ?_⟩) hS0 ?_
 ·intro wq hSw
  exact EqHash.exec_load_row 56 _ rfl _ rfl hSw Tryz.underlying56 rfl HI.out
 simp only [Act.put, sxx]
 refine Wr.tkK (i := 3) (v := ?_) rfl (.inl ⟨by rfl, ?_⟩) hS0 ?_
 rotate_left
 ·intro wq hSw
  have q0 := hSw
  obtain ⟨qc0, qf0⟩ := row_facts q0
  go_simp
  rfl
 simp only [Act.put, sxx]
 refine Wr.tkK (i := 4) (v := ?_) rfl (.inl ⟨by rfl, ?_⟩) hS0 ?_
 rotate_left
 ·intro wq hSw
  have q0 := hSw
  obtain ⟨qc0, qf0⟩ := row_facts q0
  go_simp
  rfl
 simp only [Act.put, sxx]
 refine Wr.tkK (i := 5) (v := ?_) rfl (.inl ⟨by rfl, ?_⟩) hS0 ?_
 rotate_left
 ·intro wq hSw
  have q0 := hSw
  obtain ⟨qc0, qf0⟩ := row_facts q0
  go_simp
  rfl
 simp only [Act.put, sxx]
 refine Wr.tkK (i := 6) (v := ?_) rfl (.inl ⟨by rfl, ?_⟩) hS0 ?_
 rotate_left
 ·intro wq hSw
  have q0 := hSw
  obtain ⟨qc0, qf0⟩ := row_facts q0
  go_simp
  rfl
 simp only [Act.put, sxx]
 refine Wr.tkK (i := 7) (v := ?_) rfl (.inl ⟨by rfl, ?_⟩) hS0 ?_
 rotate_left
 ·intro wq hSw
  have q0 := hSw
  obtain ⟨qc0, qf0⟩ := row_facts q0
  go_simp
  rfl
 simp only [Act.put, sxx]
 refine Wr.wpAnyK_one (i := 2) (by kernel_rfl) ?_
 refine wpOp_call rfl (by rfl) (by go_simp; all_goals (and_intros <;> rfl)) ?_
 refine (HSY.out (World.drew w1)).mono ?_
 rintro e u1 ⟨rfl, hb_u1⟩
 have hBL1 : Below w1.heap.size w1 u1 := hBL0.trans (hb_u1.mono hBL0.size)
 have hS1 : u1.heap[w.heap.size]? = some (.cells p 56 (0, 0)) := (hBL1.block _ (lt_row HX1.out)).trans HX1.out
 refine ⟨_, rfl, ?_, ?_⟩
 ·exact hS1
 simp only [Act.put, sxx]
 have hbw : Below w.heap.size w u1 := HBL1.out.trans (hBL1.mono HBL1.out.size)
 refine Wr.wpAnyK_one (i := 8) (by kernel_rfl) ?_
 refine wpOp_call rfl (by rfl) (by go_simp; all_goals (and_intros <;> rfl)) ?_
 refine (HB.out u1 hbw).mono ?_
 rintro e u2 ⟨rfl, hb_u2⟩
 have hBL2 : Below w1.heap.size w1 u2 := hBL1.trans (hb_u2.mono hBL1.size)
 have hS2 : u2.heap[w.heap.size]? = some (.cells p 56 (0, 0)) := (hBL2.block _ (lt_row HX1.out)).trans HX1.out
 refine ⟨_, rfl, ?_, ?_⟩
 ·exact hS2
 simp only [Act.put, sxx]
 refine Wr.tkK (i := 9) (v := ?_) rfl (.inl ⟨by rfl, ?_⟩) hS2 ?_
 rotate_left
 ·intro wq hSw
  have q0 := hSw
  obtain ⟨qc0, qf0⟩ := row_facts q0
  go_simp
  rfl
 simp only [Act.put, sxx]
 refine Wr.wpAnyK_done (by kernel_rfl) (NoPanic.normal ?_) _
 go_wp2
 go_ret
 exact ⟨rfl, HBL1.out.trans (hBL2.mono HBL1.out.size)⟩
theorem P_Answer (w : World) (p : Array Value) (k : Int) (r : ByteArray) (ep ix hub next : Int) (s : ByteArray) (hp : p = dlA k r ep ix hub next s) (hv : VarsD w) (hk : 0 ≤ k) (hk2 : k ≤ 255) (hr : r.size ≤ 140737488351232) (hs : s.size ≤ maxLen) :
 Calls Tryz.prog 52 #[.agg p] w (KeyA.RB (.tuple #[.agg (ansA k r ep ix hub next s), .int .i64 (DlS.answerW (dlOf k r ep ix hub next s))]) w) := by
 have hC := fun w (hv : VarsD w) => WireD.d_Check w p k r ep ix hub next s hp hv.i hk hr hs
 obtain ⟨Z, hZ⟩ := nXe (dlZ)
 have HLIT : Hid ((#[.int .u8 0, .string ⟨#[]⟩, .int .i64 0, .int .i64 0, .int .i64 0, .int .i64 0, .string ⟨#[]⟩] : Array Value) = Z) := lh (by rw [hZ]; rfl)
 have HZN : Hid (Z.size = 7) := lh (by rw [hZ]; rfl)
 have HZS : Hid ((Tryz.prog.info? 56).map (·.size) = some Z.size) := lh (by rw [HZN.out]; kernel_rfl)
 have HZO : Hid (Z.all (·.oneCell') = true) := lh (by rw [hZ]; simp [dlZ, dlA, Value.oneCell'])
 have P0 := lh (show p[0]? = some (.int .u8 k) by rw [hp]; rfl)
 have P1 := lh (show p[1]? = some (.string r) by rw [hp]; rfl)
 have P2 := lh (show p[2]? = some (.int .i64 ep) by rw [hp]; rfl)
 have P3 := lh (show p[3]? = some (.int .i64 ix) by rw [hp]; rfl)
 have P4 := lh (show p[4]? = some (.int .i64 hub) by rw [hp]; rfl)
 have P5 := lh (show p[5]? = some (.int .i64 next) by rw [hp]; rfl)
 have P6 := lh (show p[6]? = some (.string s) by rw [hp]; rfl)
 have HI : Hid ((Tryz.prog.info? 56).map (·.size) = some p.size) := lh (by rw [hp]; kernel_rfl)
 have HPN : Hid (p.size = 7) := lh (by rw [hp]; rfl)
 obtain ⟨w0, hw0⟩ := nXe ((w.alloc (.cells p 56)).alloc (.cells Z 56))
 have hb0 : Below w.heap.size w w0 := by rw [hw0]; exact (((Below.refl _ w).alloc (Nat.le_refl _) _).alloc (by simp) _)
 have HX0 := lh (show w0.heap[w.heap.size]? = some (.cells p 56 (0, 0)) by rw [hw0]; exact heap_at (heap_new _ _) _)
 have HBL0 := lh hb0
 have HW0 := lh hw0
 have HV0 := lh (hv.below hb0)
 have HZ0 := lh (show w0.heap[w.heap.size + 1]? = some (.cells Z 56 (0, 0)) by rw [hw0]; exact heap_new' _ (by simp))
 obtain ⟨E, hE⟩ := nXe (dlA 2 r ep ix hub next ⟨#[]⟩)
 have hEn : E.size = 7 := by rw [hE]; rfl
 have HES : Hid ((Tryz.prog.info? 56).map (·.size) = some E.size) := lh (by rw [hEn]; kernel_rfl)
 have HEN : Hid (Z.size = E.size) := lh (by rw [hEn]; exact HZN.out)
 have HEO : Hid (E.all (·.oneCell') = true) := lh (by rw [hE]; simp [dlA, Value.oneCell'])
 clear hEn
 have hset : (p.setIfInBounds 0 (.int .u8 2)).setIfInBounds 6 (.string ⟨#[]⟩) = E := by rw [hp, hE]; rfl
 have Hset := lh hset
 have hp2 : (p.setIfInBounds 0 (.int .u8 2))[6]? = some (.string s) := by rw [hp]; rfl
 have HP2 := lh hp2
 unfold ansA DlS.answerW
 rw [← hE, ← hZ]
 obtain ⟨c, hc⟩ := nXe (checkD (dlOf k r ep ix hub next s))
 rw [← hc] at hC ⊢
 have hk1 : (dlOf k r ep ix hub next s).kind = k := rfl
 rw [hk1]
 have HC := lh hC
 clear hC hc hk1 hset hp2 hE hZ hw0 hb0 hp hv hr hs
 cases c
 ·skip
  rw [if_neg (by simp), if_neg (by simp)]
  go_enter Tryz.func52, Tryz.ntmps52
  go_wp2_with (first | (rw [HLIT.out, ← HW0.out]; refine wpList_load_row rfl _ _ rfl w.heap.size rfl _ p (0, 0) _ HX0.out Tryz.underlying56 rfl HI.out ?_) | fail)
  refine (HC.out w0 HV0.out).mono ?_
  rintro e' w1 ⟨rfl, hb⟩
  have HBL1 := tbB HBL0 hb
  have HX1 := kpB hb HX0
  have HZ1 := kpB hb HZ0
  clear hb
  unfold whyOf
  have c0 : w1.cell? ⟨w.heap.size, 0, none⟩ = some (.int .u8 k) := by rw [cell_row HX1.out]; exact P0.out
  have f0 : w1.frozen? ⟨w.heap.size, 0, none⟩ = false := frozen_row HX1.out
  clear c0 f0
  go_wp2_with (first | (refine wpList_store_rowA rfl _ _ _ rfl (w.heap.size + 1) Z rfl (by rw [← HLIT.out]; rfl) _ _ HZ1.out HZS.out rfl HZO.out ?_) | fail)
  intro wf hwf
  go_wp2
  refine bodyPost_ret (v := .tuple #[.agg Z, .int .i64 2]) (WireT.results_cell_slot rfl _ _ (w.heap.size + 1) 56 Z (0, 0) _ rfl (by rw [hwf.out]; exact setRow_at HZ1.out) Tryz.underlying56 rfl HZS.out rfl) rfl ⟨rfl, by rw [hwf.out]; exact below_row HBL1.out (by omega) _⟩
 ·skip
  rw [if_pos rfl]
  by_cases h1 : k = 1
  ·skip
   subst h1
   rw [if_pos rfl, if_pos ⟨rfl, rfl⟩]
   go_enter Tryz.func52, Tryz.ntmps52
   go_wp2_with (first | (rw [HLIT.out, ← HW0.out]; refine wpList_load_row rfl _ _ rfl w.heap.size rfl _ p (0, 0) _ HX0.out Tryz.underlying56 rfl HI.out ?_) | fail)
   refine (HC.out w0 HV0.out).mono ?_
   rintro e' w1 ⟨rfl, hb⟩
   have HBL1 := tbB HBL0 hb
   have HX1 := kpB hb HX0
   have HZ1 := kpB hb HZ0
   clear hb
   unfold whyOf
   have c0 : w1.cell? ⟨w.heap.size, 0, none⟩ = some (.int .u8 1) := by rw [cell_row HX1.out]; exact P0.out
   have f0 : w1.frozen? ⟨w.heap.size, 0, none⟩ = false := frozen_row HX1.out
   have hx3 : (w1.setCell ⟨w.heap.size, 0, none⟩ (.int .u8 2)).heap[w.heap.size]? = some (.cells (p.setIfInBounds 0 (.int .u8 2)) 56 (0, 0)) := heap_setCell_same HX1.out _
   have hx4 : ((w1.setCell ⟨w.heap.size, 0, none⟩ (.int .u8 2)).setCell ⟨w.heap.size, 6, none⟩ (.string ⟨#[]⟩)).heap[w.heap.size]? = some (.cells E 56 (0, 0)) := by rw [← Hset.out]; exact heap_setCell_same hx3 _
   have c6 : (w1.setCell ⟨w.heap.size, 0, none⟩ (.int .u8 2)).cell? ⟨w.heap.size, 6, none⟩ = some (.string s) := by rw [cell_row hx3]; exact HP2.out
   have f6 : (w1.setCell ⟨w.heap.size, 0, none⟩ (.int .u8 2)).frozen? ⟨w.heap.size, 6, none⟩ = false := frozen_row hx3
   have HX4 := lh hx4
   have HZ4 : Hid (((w1.setCell ⟨w.heap.size, 0, none⟩ (.int .u8 2)).setCell ⟨w.heap.size, 6, none⟩ (.string ⟨#[]⟩)).heap[w.heap.size + 1]? = some (.cells Z 56 (0, 0))) := lh ((heap_setCell_far _ (by omega)).trans ((heap_setCell_far _ (by omega)).trans HZ1.out))
   have HB3 : Hid (Below w.heap.size w ((w1.setCell ⟨w.heap.size, 0, none⟩ (.int .u8 2)).setCell ⟨w.heap.size, 6, none⟩ (.string ⟨#[]⟩))) := lh ((HBL1.out.setCell (p := ⟨w.heap.size, 0, none⟩) (Nat.le_refl _) _).setCell (p := ⟨w.heap.size, 6, none⟩) (Nat.le_refl _) _)
   clear hx3 hx4
   go_wp2_with (first | (refine wpList_load_row rfl _ _ rfl w.heap.size rfl _ E (0, 0) _ HX4.out Tryz.underlying56 rfl HES.out ?_) | (refine wpList_store_rowA rfl _ _ _ rfl (w.heap.size + 1) E rfl rfl _ _ HZ4.out HES.out HEN.out HEO.out ?_) | fail)
   intro wf hwf
   go_wp2
   refine bodyPost_ret (v := .tuple #[.agg E, .int .i64 0]) (WireT.results_cell_slot rfl _ _ (w.heap.size + 1) 56 E (0, 0) _ rfl (by rw [hwf.out]; exact setRow_at HZ4.out) Tryz.underlying56 rfl HES.out rfl) rfl ⟨rfl, by rw [hwf.out]; exact below_row HB3.out (by omega) _⟩
  ·skip
   rw [if_neg h1, if_neg (by intro h; exact h1 h.2)]
   have h1' : (k != 1) = true := by simpa using h1
   go_enter Tryz.func52, Tryz.ntmps52
   go_wp2_with (first | (rw [HLIT.out, ← HW0.out]; refine wpList_load_row rfl _ _ rfl w.heap.size rfl _ p (0, 0) _ HX0.out Tryz.underlying56 rfl HI.out ?_) | fail)
   refine (HC.out w0 HV0.out).mono ?_
   rintro e' w1 ⟨rfl, hb⟩
   have HBL1 := tbB HBL0 hb
   have HX1 := kpB hb HX0
   have HZ1 := kpB hb HZ0
   clear hb
   unfold whyOf
   have c0 : w1.cell? ⟨w.heap.size, 0, none⟩ = some (.int .u8 k) := by rw [cell_row HX1.out]; exact P0.out
   have f0 : w1.frozen? ⟨w.heap.size, 0, none⟩ = false := frozen_row HX1.out
   clear f0
   go_wp2_with (first | (refine wpList_store_rowA rfl _ _ _ rfl (w.heap.size + 1) Z rfl (by rw [← HLIT.out]; rfl) _ _ HZ1.out HZS.out rfl HZO.out ?_) | fail)
   intro wf hwf
   go_wp2
   refine bodyPost_ret (v := .tuple #[.agg Z, .int .i64 11]) (WireT.results_cell_slot rfl _ _ (w.heap.size + 1) 56 Z (0, 0) _ rfl (by rw [hwf.out]; exact setRow_at HZ1.out) Tryz.underlying56 rfl HZS.out rfl) rfl ⟨rfl, by rw [hwf.out]; exact below_row HBL1.out (by omega) _⟩
attribute [-go_sem] run_equalIn_agg
theorem P_Fits (w : World) (p q : Array Value) (k : Int) (r : ByteArray) (ep ix hub next : Int) (s : ByteArray) (k' : Int) (r' : ByteArray) (ep' ix' hub' next' : Int) (s' : ByteArray) (hp : p = dlA k r ep ix hub next s) (hq : q = dlA k' r' ep' ix' hub' next' s') (hv : VarsD w) (hk : 0 ≤ k) (hk2 : k ≤ 255) (hk' : 0 ≤ k') (hk2' : k' ≤ 255) (hr : r.size ≤ 140737488351232) (hs : s.size ≤ maxLen) (hr' : r'.size ≤ 140737488351232) (hs' : s'.size ≤ maxLen) :
 Calls Tryz.prog 55 #[.agg p, .agg q] w (KeyA.RB (.bool (fitsB k r ep ix hub next s k' r' ep' ix' hub' next' s')) w) := by
 have hA := fun w hv => P_Answer w p k r ep ix hub next s hp hv hk hk2 hr hs
 have hC := fun w (hv : VarsD w) => WireD.d_Check w q k' r' ep' ix' hub' next' s' hq hv.i hk' hr' hs'
 have hGE := guardDl
 have HGE := lh hGE
 obtain ⟨A, hA'⟩ : ∃ A, A = ansA k r ep ix hub next s := ⟨_, rfl⟩
 obtain ⟨y, hy⟩ := nXe (DlS.answerW (dlOf k r ep ix hub next s))
 rw [← hA', ← hy] at hA
 obtain ⟨c, hc⟩ := nXe (checkD (dlOf k' r' ep' ix' hub' next' s'))
 rw [← hc] at hC
 obtain ⟨b, hb'⟩ : ∃ b, b = (k' == 2 && (r'.toList == r.toList && (ep' == ep && (ix' == ix && (hub' == hub && (next' == next && (⟨#[]⟩ : ByteArray).toList == (⟨#[]⟩ : ByteArray).toList)))))) := ⟨_, rfl⟩
 obtain ⟨E, hE⟩ := nXe (dlA k' r' ep' ix' hub' next' ⟨#[]⟩)
 have hset : q.setIfInBounds 6 (.string ⟨#[]⟩) = E := by rw [hq, hE]; rfl
 have Hset := lh hset
 obtain ⟨Z, hZ⟩ := nXe (dlZ)
 have HLIT : Hid ((#[.int .u8 0, .string ⟨#[]⟩, .int .i64 0, .int .i64 0, .int .i64 0, .int .i64 0, .string ⟨#[]⟩] : Array Value) = Z) := lh (by rw [hZ]; rfl)
 have HZN : Hid (Z.size = 7) := lh (by rw [hZ]; rfl)
 have HZS : Hid ((Tryz.prog.info? 56).map (·.size) = some Z.size) := lh (by rw [HZN.out]; kernel_rfl)
 have HZO : Hid (Z.all (·.oneCell') = true) := lh (by rw [hZ]; simp [dlZ, dlA, Value.oneCell'])
 have hEn : E.size = 7 := by rw [hE]; rfl
 have HES : Hid ((Tryz.prog.info? 56).map (·.size) = some E.size) := lh (by rw [hEn]; kernel_rfl)
 have HEN : Hid (Z.size = E.size) := lh (by rw [hEn]; exact HZN.out)
 have HEO : Hid (E.all (·.oneCell') = true) := lh (by rw [hE]; simp [dlA, Value.oneCell'])
 clear hEn
 have hcase : ((y != 0) = true ∧ fitsB k r ep ix hub next s k' r' ep' ix' hub' next' s' = false) ∨ (y = 0 ∧ c = false ∧ fitsB k r ep ix hub next s k' r' ep' ix' hub' next' s' = false) ∨ (y = 0 ∧ c = true ∧ fitsB k r ep ix hub next s k' r' ep' ix' hub' next' s' = b ∧ ∀ w, (Op.equalIn 10000 56 (.agg E) (.agg A)).run Tryz.prog w = .ok b w) := by
  unfold fitsB DlS.answerW at *
  rw [show (dlOf k r ep ix hub next s).kind = k from rfl] at hy
  cases h1 : checkD (dlOf k r ep ix hub next s)
  ·rw [h1, if_neg (by simp)] at hy
   exact .inl ⟨by rw [hy]; rfl, rfl⟩
  ·rw [h1, if_pos rfl] at hy
   by_cases h2 : k = 1
   ·rw [if_pos h2] at hy
    cases h3 : c
    ·exact .inr (.inl ⟨hy, rfl, by rw [← hc, h3]; simp⟩)
    ·refine .inr (.inr ⟨hy, rfl, ?_, fun w => ?_⟩)
     ·rw [← hc, h3, hb', decide_eq_true h2]
      simp only [Bool.true_and]
      rw [show decide (k' = 2) = (k' == 2) from by by_cases h : k' = 2 <;> simp [h]]
      simp
     ·rw [hE, hA', ansA, if_pos ⟨h1, h2⟩, hb']
      exact eqDl _ _ _ _ _ _ _ _ _ _ _ _ _ _ w
   ·rw [if_neg h2] at hy
    exact .inl ⟨by rw [hy]; rfl, by rw [decide_eq_false h2]; simp⟩
 have hAn : A.size = 7 := by rw [hA', ansA]; split <;> rfl
 have HAS : Hid ((Tryz.prog.info? 56).map (·.size) = some A.size) := lh (by rw [hAn]; kernel_rfl)
 have HAN : Hid (7 = A.size) := lh hAn.symm
 have HAO : Hid (A.all (·.oneCell') = true) := lh (by rw [hA', ansA]; split <;> simp [dlA, dlZ, Value.oneCell'])
 have HI : Hid ((Tryz.prog.info? 56).map (·.size) = some p.size) := lh (by rw [hp]; kernel_rfl)
 have HJ : Hid ((Tryz.prog.info? 56).map (·.size) = some q.size) := lh (by rw [hq]; kernel_rfl)
 have Q6 := lh (show q[6]? = some (.string s') by rw [hq]; rfl)
 obtain ⟨w0, hw0⟩ := nXe ((w.alloc (.cells p 56)).alloc (.cells q 56))
 have hb0 : Below w.heap.size w w0 := by rw [hw0]; exact (((Below.refl _ w).alloc (Nat.le_refl _) _).alloc (by simp) _)
 have HX0 := lh (show w0.heap[w.heap.size]? = some (.cells p 56 (0, 0)) by rw [hw0]; exact heap_at (heap_new _ _) _)
 have HY0 := lh (show w0.heap[w.heap.size + 1]? = some (.cells q 56 (0, 0)) by rw [hw0]; exact heap_new' _ (by simp))
 have HBL0 := lh hb0
 have HW0 := lh hw0
 have HV0 := lh (hv.below hb0)
 have HA := lh hA
 have HC := lh hC
 clear hA hC hA' hy hc hb' hE hset hAn hp hq hv hk hk2 hk' hk2' hr hs hr' hs' hb0 hw0 hGE hZ
 rcases hcase with ⟨h1, hf⟩ | ⟨rfl, rfl, hf⟩ | ⟨rfl, rfl, hf, hqX⟩
 ·skip
  rw [hf]
  clear hf
  go_enter Tryz.func55, Tryz.ntmps55
  go_wp2_with (first | (rw [← HW0.out]; refine wpList_load_row rfl _ _ rfl w.heap.size rfl _ p (0, 0) _ HX0.out Tryz.underlying56 rfl HI.out ?_) | fail)
  refine (HA.out w0 HV0.out).mono ?_
  rintro e' w1 ⟨rfl, hb⟩
  have HBL1 := tbB HBL0 hb
  have HY1 := kpB hb HY0
  have HV1 := lh (HV0.out.below hb)
  clear hb
  go_wp2_with (first | (refine wpList_store_rowA rfl _ _ _ rfl w1.heap.size A rfl rfl _ _ (heap_new _ _) HAS.out (by rw [← HAN.out]; rfl) HAO.out ?_) | fail)
  intro u1 hu1
  have hb : Below w1.heap.size w1 u1 := by rw [hu1.out]; exact below_row bAx (Nat.le_refl _) _
  have hy : u1.heap[w1.heap.size]? = some (.cells A 56 (0, 0)) := by rw [hu1.out]; exact setRow_at (heap_new _ _)
  clear hu1
  have hlq := lt_row HY1.out
  have HBL2 := tbB HBL1 hb
  have HY2 := lh ((hb.block _ hlq).trans HY1.out)
  have HV2 := lh (HV1.out.below hb)
  have HA2 := lh hy
  clear hb hy
  go_wp2
  go_ret
  exact ⟨rfl, HBL2.out⟩
 ·skip
  rw [hf]
  clear hf
  go_enter Tryz.func55, Tryz.ntmps55
  go_wp2_with (first | (rw [← HW0.out]; refine wpList_load_row rfl _ _ rfl w.heap.size rfl _ p (0, 0) _ HX0.out Tryz.underlying56 rfl HI.out ?_) | fail)
  refine (HA.out w0 HV0.out).mono ?_
  rintro e' w1 ⟨rfl, hb⟩
  have HBL1 := tbB HBL0 hb
  have HY1 := kpB hb HY0
  have HV1 := lh (HV0.out.below hb)
  clear hb
  go_wp2_with (first | (refine wpList_store_rowA rfl _ _ _ rfl w1.heap.size A rfl rfl _ _ (heap_new _ _) HAS.out (by rw [← HAN.out]; rfl) HAO.out ?_) | fail)
  intro u1 hu1
  have hb : Below w1.heap.size w1 u1 := by rw [hu1.out]; exact below_row bAx (Nat.le_refl _) _
  have hy : u1.heap[w1.heap.size]? = some (.cells A 56 (0, 0)) := by rw [hu1.out]; exact setRow_at (heap_new _ _)
  clear hu1
  have hlq := lt_row HY1.out
  have HBL2 := tbB HBL1 hb
  have HY2 := lh ((hb.block _ hlq).trans HY1.out)
  have HV2 := lh (HV1.out.below hb)
  have HA2 := lh hy
  clear hb hy
  go_wp2_with (first | (refine WireT.wpList_load_rowG (by rfl) _ _ rfl (w.heap.size + 1) rfl _ q (0, 0) _ HY2.out Tryz.underlying56 rfl HJ.out ?_) | fail)
  refine (HC.out u1 HV2.out).mono ?_
  rintro e' w3 ⟨rfl, hb⟩
  have HBL3 := tbB HBL2 hb
  have HY3 := kpB hb HY2
  have HA3 := kpB hb HA2
  clear hb
  unfold whyOf
  go_wp2
  go_ret
  exact ⟨rfl, HBL3.out⟩
 ·skip
  rw [hf]
  clear hf
  go_enter Tryz.func55, Tryz.ntmps55
  go_wp2_with (first | (rw [← HW0.out]; refine wpList_load_row rfl _ _ rfl w.heap.size rfl _ p (0, 0) _ HX0.out Tryz.underlying56 rfl HI.out ?_) | fail)
  refine (HA.out w0 HV0.out).mono ?_
  rintro e' w1 ⟨rfl, hb⟩
  have HBL1 := tbB HBL0 hb
  have HY1 := kpB hb HY0
  have HV1 := lh (HV0.out.below hb)
  clear hb
  go_wp2_with (first | (refine wpList_store_rowA rfl _ _ _ rfl w1.heap.size A rfl rfl _ _ (heap_new _ _) HAS.out (by rw [← HAN.out]; rfl) HAO.out ?_) | fail)
  intro u1 hu1
  have hb : Below w1.heap.size w1 u1 := by rw [hu1.out]; exact below_row bAx (Nat.le_refl _) _
  have hy : u1.heap[w1.heap.size]? = some (.cells A 56 (0, 0)) := by rw [hu1.out]; exact setRow_at (heap_new _ _)
  clear hu1
  have hlq := lt_row HY1.out
  have HBL2 := tbB HBL1 hb
  have HY2 := lh ((hb.block _ hlq).trans HY1.out)
  have HV2 := lh (HV1.out.below hb)
  have HA2 := lh hy
  clear hb hy
  go_wp2_with (first | (refine WireT.wpList_load_rowG (by rfl) _ _ rfl (w.heap.size + 1) rfl _ q (0, 0) _ HY2.out Tryz.underlying56 rfl HJ.out ?_) | fail)
  refine (HC.out u1 HV2.out).mono ?_
  rintro e' w3 ⟨rfl, hb⟩
  have HBL3 := tbB HBL2 hb
  have HY3 := kpB hb HY2
  have HA3 := kpB hb HA2
  clear hb
  unfold whyOf
  have c6 : w3.cell? ⟨w.heap.size + 1, 6, none⟩ = some (.string s') := by rw [cell_row HY3.out]; exact Q6.out
  have f6 : w3.frozen? ⟨w.heap.size + 1, 6, none⟩ = false := frozen_row HY3.out
  have HY4 : Hid ((w3.setCell ⟨w.heap.size + 1, 6, none⟩ (.string ⟨#[]⟩)).heap[w.heap.size + 1]? = some (.cells E 56 (0, 0))) := lh (by rw [← Hset.out]; exact heap_setCell_same HY3.out _)
  have HA4 : Hid ((w3.setCell ⟨w.heap.size + 1, 6, none⟩ (.string ⟨#[]⟩)).heap[w1.heap.size]? = some (.cells A 56 (0, 0))) := lh ((heap_setCell_far _ (by omega)).trans HA3.out)
  have HB4 : Hid (Below w.heap.size w (w3.setCell ⟨w.heap.size + 1, 6, none⟩ (.string ⟨#[]⟩))) := lh (HBL3.out.setCell (p := ⟨w.heap.size + 1, 6, none⟩) (by simp) _)
  have hGE := HGE.out
  go_wp2_with (first | (refine wpList_load_row rfl _ _ rfl (w.heap.size + 1) rfl _ E (0, 0) _ HY4.out Tryz.underlying56 rfl HES.out ?_) | (refine wpList_load_row rfl _ _ rfl w1.heap.size rfl _ A (0, 0) _ HA4.out Tryz.underlying56 rfl HAS.out ?_) | fail)
  go_ret
  exact ⟨rfl, HB4.out⟩
end Go.Proofs.YtkcikadgnnjjjaaGreatDoor.DlT
